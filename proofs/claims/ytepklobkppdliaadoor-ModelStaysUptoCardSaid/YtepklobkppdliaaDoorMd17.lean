/- The model: one key; what counting comes to; a region whose calls make memory. -/
import Derived.Test.YtepklobkppdliaaDoorMd15
import Derived.BigQuiet
namespace Go.Proofs.YtepklobkppdliaaDoor.Md
open Go.RowKit Go.Proofs.YtepklobkppdliaaDoorW.PrintWords Go.Proofs.YtepklobkppdliaaDoorW.PrintLast Go.Proofs.YtepklobkppdliaaDoorW.PrintMore Go.Proofs.YtepklobkppdliaaDoor.Lib Go.Proofs.YtepklobkppdliaaDoor.Open Go.Proofs.YtepklobkppdliaaDoor.Open
def kN : ByteArray := ⟨#[110]⟩
def kK : ByteArray := ⟨#[107]⟩
/-- A model of one key, of no flags and no deadline. -/
def Fk (k d : ByteArray) (fl c : Int) : ByteArray → Option Ent := upd f0 k (some ⟨k, fl, 0, d, c⟩)
theorem Fk.here (k d : ByteArray) (fl c : Int) : Fk k d fl c k = some ⟨k, fl, 0, d, c⟩ := by
  unfold Fk upd
  rw [if_pos rfl]
theorem upd_upd (f : ByteArray → Option Ent) (k : ByteArray) (x y : Option Ent) : upd (upd f k x) k y = upd f k y := by
  funext j
  unfold upd
  split <;> rfl
theorem Fk.upd (k d d' : ByteArray) (fl c c' : Int) : upd (Fk k d fl c) k (some ⟨k, fl, 0, d', c'⟩) = Fk k d' fl c' := upd_upd _ _ _ _
theorem Fk.live (k d : ByteArray) (fl c now : Int) : liveOf (Fk k d fl c) k now = some ⟨k, fl, 0, d, c⟩ := by
  unfold liveOf
  rw [Fk.here]
  rfl
theorem Fk.founds (k d : ByteArray) (fl c now : Int) : founds (Fk k d fl c) [k] now = [⟨k, fl, 0, d, c⟩] := by
  unfold Md.founds
  rw [List.filterMap_cons, Fk.live]
  rfl
/-- What is told and kept of an entry of one key. -/
theorem to_keep {k d d' : ByteArray} {fl c c' now ver : Int} {r : Rq} {a : An} (h : nextOf r ⟨k, fl, 0, d, c⟩ true now ver = (a, ⟨k, fl, 0, d', c'⟩, true, false)) : applyTo (Fk k d fl c) r k now ver = (a, Fk k d' fl c') := by
  unfold applyTo
  rw [Fk.live, Option.getD_some, Option.isSome_some, h]
  simp only [if_true]
  rw [Fk.upd]
theorem to_same {k d : ByteArray} {fl c now ver : Int} {r : Rq} {a : An} {e : Ent} (h : nextOf r ⟨k, fl, 0, d, c⟩ true now ver = (a, e, false, false)) : applyTo (Fk k d fl c) r k now ver = (a, Fk k d fl c) := by
  unfold applyTo
  rw [Fk.live, Option.getD_some, Option.isSome_some, h]
  simp only [if_neg (show ¬ false = true by decide)]
/-- The first set. -/
theorem to_set (k d : ByteArray) (fl now ver : Int) : applyTo f0 { rqOf 3 d 0 with fl := fl } k now ver = (say 2, Fk k d fl ver) := rfl
theorem numGo_append : ∀ (l m : List UInt8) (n : Int), numGo (l ++ m) n = (numGo l n).bind (numGo m)
  | [], m, n => rfl
  | c :: l, m, n => by
    rw [List.cons_append]
    unfold numGo
    split
    · rfl
    · split
      · rfl
      · exact numGo_append l m _
theorem num_dig (c : Nat) (hc : c < 10) (n : Int) (h : 10 * n + c ≤ 18446744073709551615) : numGo [UInt8.ofNat (48 + c)] n = some (10 * n + c) := by
  have e : ((UInt8.ofNat (48 + c)).toNat : Int) = 48 + c := by
    rw [UInt8.toNat_ofNat']
    omega
  unfold numGo
  rw [e, if_neg (by omega), if_neg (by omega)]
  unfold numGo
  congr 1
  omega
theorem numGo_dec (n : Nat) : n < 18446744073709551616 → numGo (Lib.decDigits n) 0 = some (n : Int) := by
  induction n using Nat.strongRecOn with
  | _ n ih =>
    intro hn
    rw [Lib.decDigits]
    by_cases h : n < 10
    · rw [dif_pos h, num_dig n h 0 (by omega)]
      congr 1
      omega
    · rw [dif_neg h, numGo_append, ih (n / 10) (by omega) (by omega), Option.bind_some, num_dig (n % 10) (by omega) _ (by omega)]
      congr 1
      omega
theorem numOf_dec (n : Nat) (hn : n < 18446744073709551616) : numOf (dec n) = some (n : Int) := by
  have hs := dec_size n hn
  have h1 : 1 ≤ (dec n).size := by
    show 1 ≤ (Lib.decDigits n).toArray.size
    rw [List.size_toArray, Lib.decDigits_length]
    exact Lib.nDigits_pos n
  unfold numOf
  rw [if_neg (by omega)]
  exact numGo_dec n hn
theorem next_num (r : Rq) (e : Ent) (now ver : Int) (n : Int) (h : r.verb = 10 ∨ r.verb = 11) (hn : numOf e.val = some n) : nextOf r e true now ver = (⟨8, (numTo r n : Int), ⟨#[]⟩⟩, { e with val := dec (numTo r n), cas := ver }, true, false) := by
  unfold nextOf
  rw [if_neg (by omega), if_neg (by omega), if_neg (by omega), if_neg (by omega), if_pos (by omega), if_pos rfl, if_neg (by omega), if_neg (by omega), if_neg (by omega), hn]
/-- Counting up. -/
theorem to_up (k : ByteArray) (m : Nat) (hm : m < 18446744073709551616) (fl c now ver d : Int) (dt : ByteArray) : applyTo (Fk k (dec m) fl c) (rqOf 10 dt d) k now ver = (⟨8, IntKind.u64.wrap (m + d), ⟨#[]⟩⟩, Fk k (dec (IntKind.u64.wrap (m + d)).toNat) fl ver) := by
  have hn := next_num (rqOf 10 dt d) ⟨k, fl, 0, dec m, c⟩ now ver m (.inl rfl) (numOf_dec m hm)
  have e : numTo (rqOf 10 dt d) m = (IntKind.u64.wrap (m + d)).toNat := rfl
  have h0 : 0 ≤ IntKind.u64.wrap ((m : Int) + d) := by rw [IntKind.wrap_u64]; omega
  rw [e, show (((IntKind.u64.wrap ((m : Int) + d)).toNat : Nat) : Int) = IntKind.u64.wrap (m + d) by omega] at hn
  exact to_keep hn
/-- Counting down. -/
theorem to_down (k : ByteArray) (m : Nat) (hm : m < 18446744073709551616) (fl c now ver d : Int) (hd : 0 ≤ d) (dt : ByteArray) : applyTo (Fk k (dec m) fl c) (rqOf 11 dt d) k now ver = (⟨8, IntKind.u64.wrap ((m : Int) - min (m : Int) d), ⟨#[]⟩⟩, Fk k (dec (IntKind.u64.wrap ((m : Int) - min (m : Int) d)).toNat) fl ver) := by
  have hn := next_num (rqOf 11 dt d) ⟨k, fl, 0, dec m, c⟩ now ver m (.inr rfl) (numOf_dec m hm)
  have e : numTo (rqOf 11 dt d) m = ((m : Int) - min (m : Int) d).toNat := rfl
  have hw : IntKind.u64.wrap ((m : Int) - min (m : Int) d) = (m : Int) - min (m : Int) d := by rw [IntKind.wrap_u64]; omega
  rw [hw]
  rw [e, show ((((m : Int) - min (m : Int) d).toNat : Nat) : Int) = (m : Int) - min (m : Int) d by omega] at hn
  exact to_keep hn
theorem next_join67 (r : Rq) (e : Ent) (now ver : Int) (hv : r.verb = 6 ∨ r.verb = 7) (h : e.val.size + r.data.size ≤ 1048576) : nextOf r e true now ver = (say 2, { e with val := if r.verb = 6 then e.val ++ r.data else r.data ++ e.val, cas := ver }, true, false) := by
  unfold nextOf
  rw [if_neg (by omega), if_neg (by omega), if_neg (by omega), if_pos hv, if_pos rfl, if_neg (by omega)]
theorem next_cas8 (r : Rq) (e : Ent) (now ver : Int) (hv : r.verb = 8) : nextOf r e true now ver = if e.cas = r.cas then (say 2, fresh r e now ver, true, false) else (say 4, e, false, false) := by
  unfold nextOf
  rw [if_neg (by omega), if_neg (by omega), if_neg (by omega), if_neg (by omega), if_pos (by omega), if_pos rfl, if_pos hv]
/-- What is added in front or behind. -/
theorem to_join (k d p : ByteArray) (verb fl c now ver : Int) (hv : verb = 6 ∨ verb = 7) (h : d.size + p.size ≤ 1048576) : applyTo (Fk k d fl c) { rqOf verb p 0 with fl := 9, exp := -1 } k now ver = (say 2, Fk k (if verb = 6 then d ++ p else p ++ d) fl ver) := by
  have h1 := next_join67 { rqOf verb p 0 with fl := 9, exp := -1 } ⟨k, fl, 0, d, c⟩ now ver hv h
  exact to_keep h1
theorem to_join6 (k d p : ByteArray) (fl c now ver : Int) (h : d.size + p.size ≤ 1048576) : applyTo (Fk k d fl c) { rqOf 6 p 0 with fl := 9, exp := -1 } k now ver = (say 2, Fk k (d ++ p) fl ver) := to_join k d p 6 fl c now ver (.inl rfl) h
theorem to_join7 (k d p : ByteArray) (fl c now ver : Int) (h : d.size + p.size ≤ 1048576) : applyTo (Fk k d fl c) { rqOf 7 p 0 with fl := 9, exp := -1 } k now ver = (say 2, Fk k (p ++ d) fl ver) := to_join k d p 7 fl c now ver (.inr rfl) h
theorem to_touch (k d : ByteArray) (fl c now ver : Int) (x : ByteArray) : applyTo (Fk k d fl c) (rqOf 12 x 0) k now ver = (say 7, Fk k d fl c) := to_keep rfl
theorem to_cas_yes (k d p : ByteArray) (c now ver : Int) : applyTo (Fk k d 0 c) { rqOf 8 p 0 with cas := c } k now ver = (say 2, Fk k p 0 ver) := by
  have h := next_cas8 { rqOf 8 p 0 with cas := c } ⟨k, 0, 0, d, c⟩ now ver rfl
  rw [if_pos (show c = c from rfl)] at h
  exact to_keep h
theorem to_cas_no (k d p : ByteArray) (c c' now ver : Int) (hc : c ≠ c') : applyTo (Fk k d 0 c) { rqOf 8 p 0 with cas := c' } k now ver = (say 4, Fk k d 0 c) := by
  have h := next_cas8 { rqOf 8 p 0 with cas := c' } ⟨k, 0, 0, d, c⟩ now ver rfl
  rw [if_neg (show ¬ c = c' from hc)] at h
  exact to_same h
/-- A world behind W in which all that W had is as it was. -/
structure Wd (W : World) where
  w : World
  h : Below W.heap.size W w
/-- A region that draws its order and whose calls make memory: one walk of the text's order. -/
theorem wp_quiet_wd {P : Program} {id : Nat} {Q : Exit → Act → World → Prop} {a : Act} {W : World} {l : List Oper} (hm : P.follows .mixedOrders = true) (hB : Region.lexB .any l.toArray = true)
    (h : wpQuiet P l.toArray (fun w' => ∃ n : Wd W, w' = n.w) (fun a' => ∀ w', (∃ n : Wd W, w' = n.w) → Q .normal a' w') l a) : (Code.region id l.toArray true).wp P Q a W :=
  wp_region_quiet (C := fun w' => ∃ n : Wd W, w' = n.w) hm hB ⟨⟨W.drew, below_drew (Below.refl _ _)⟩, rfl⟩ (by simpa using h)
instance Wd.here {W : World} : Nonempty (Wd W) := ⟨⟨W, Below.refl _ _⟩⟩
theorem Wd.cell {W : World} {p : Addr} {v : Value} (h : W.cell? p = some v) : ∀ n : Wd W, n.w.cell? p = some v := fun n => pw_cell_below n.h h
theorem Wd.on {W w' : World} (n : Wd W) (h : Below n.w.heap.size n.w w') : ∃ m : Wd W, w' = m.w := ⟨⟨w', n.h.trans (h.mono n.h.size)⟩, rfl⟩
theorem Arg.far {α : Type} {cl : α → List Value} {w W : World} {A : Option Addr} {n : Nat} {xs : List α} (h : Arg cl w A n xs) (hb : Below w.heap.size w W) (i : Nat) (x : α) (v : Value) (hs : ∀ x, (cl x).length = 1) (hx : xs[i]? = some x) (hv : (cl x)[0]? = some v) : ∃ b o, A = some ⟨b, o, none⟩ ∧ W.cell? ⟨b, o + i, none⟩ = some v := by
  obtain ⟨b, o, e, hr⟩ := h.at_ hs i x hx
  refine ⟨b, o, e, pw_cell_below hb ?_⟩
  have := hr 0 v hv
  rwa [Nat.mul_one, Nat.add_zero] at this
end Go.Proofs.YtepklobkppdliaaDoor.Md
