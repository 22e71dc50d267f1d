/- Rows of boxes; what a pass over them takes. -/
import Derived.Test.YtnfnbcbbiaheeaaMl3
namespace Go.Proofs.Ytnfnbcbbiaheeaa.Ml
open Go.RowKit Go.Proofs.YtnfnbcbbiaheeaaW.PrintWords Go.Proofs.YtnfnbcbbiaheeaaW.PrintLast Go.Proofs.Ytnfnbcbbiaheeaa.Lib Go.Proofs.Ytnfnbcbbiaheeaa.Open
/-- A pointer to a box, or none. -/
def pv : Option (Nat × Nat) → Value
  | none => .pointer none
  | some p => .pointer (some ⟨p.1, 0, none⟩)
/-- Boxes, the frames in each; no two have one channel. -/
structure Bxs (w : World) (bs : List (Option (Nat × Nat))) (xss : List (List Fr)) : Prop where
  len : xss.length = bs.length
  box : ∀ (i : Nat) (p : Nat × Nat), bs[i]? = some (some p) → ∃ xs, xss[i]? = some xs ∧ Bx w p.1 p.2 9 xs
  nil : ∀ i : Nat, bs[i]? = some none → xss[i]? = some []
  diff : ∀ (i j : Nat) (p q : Nat × Nat), i ≠ j → bs[i]? = some (some p) → bs[j]? = some (some q) → p.2 ≠ q.2
/-- A row of pointers at block b. -/
structure Row (w : World) (A : Option Addr) (n : Nat) (bs : List (Option (Nat × Nat))) : Prop where
  len : bs.length = n
  at_ : 0 < n → ∃ (b : Nat) (cur : Array Value) (t : TypeId), A = some ⟨b, 0, none⟩ ∧ w.heap[b]? = some (.cells cur t (0, 0)) ∧ ∀ (i : Nat) (p : Option (Nat × Nat)), bs[i]? = some p → cur[i]? = some (pv p)
/-- Some channel of the boxes. -/
def Chs (bs : List (Option (Nat × Nat))) (k : Nat) : Prop := ∃ (i : Nat) (g : Nat), bs[i]? = some (some (g, k))
section
variable {w W : World} {bs : List (Option (Nat × Nat))} {xss : List (List Fr)} {A : Option Addr} {n : Nat}
theorem Bxs.below (h : Bxs w bs xss) (hb : Below w.heap.size w W) : Bxs W bs xss :=
  ⟨h.len, fun i p hp => by obtain ⟨xs, h1, h2⟩ := h.box i p hp; exact ⟨xs, h1, h2.below hb⟩, h.nil, h.diff⟩
theorem Row.below (h : Row w A n bs) (hb : Below w.heap.size w W) : Row W A n bs :=
  ⟨h.len, fun hn => by obtain ⟨b, cur, t, h1, h2, h3⟩ := h.at_ hn; exact ⟨b, cur, t, h1, (hb.block _ (blk_lt h2)).trans h2, h3⟩⟩
/-- A block of cells is no box's channel. -/
theorem Bxs.cells (h : Bxs w bs xss) {b : Nat} {cur : Array Value} {t : TypeId} (hb : w.heap[b]? = some (.cells cur t (0, 0))) : ¬ Chs bs b := by
  rintro ⟨i, g, hi⟩
  obtain ⟨xs, _, h2⟩ := h.box i _ hi
  obtain ⟨s, r, hc⟩ := h2.ch
  rw [hb] at hc
  cases hc
theorem Row.mod (h : Row w A n bs) (hx : Bxs w bs xss) (hm : Mod (Chs bs) w W) : Row W A n bs :=
  ⟨h.len, fun hn => by obtain ⟨b, cur, t, h1, h2, h3⟩ := h.at_ hn; exact ⟨b, cur, t, h1, hm.blk h2 (hx.cells h2), h3⟩⟩
theorem Row.cell (h : Row w A n bs) {i : Nat} {p : Option (Nat × Nat)} (hi : bs[i]? = some p) : ∃ b, A = some ⟨b, 0, none⟩ ∧ w.cell? ⟨b, i, none⟩ = some (pv p) := by
  have hl := (List.getElem?_eq_some_iff.1 hi).1
  obtain ⟨b, cur, t, h1, h2, h3⟩ := h.at_ (by have := h.len; omega)
  exact ⟨b, h1, by rw [blk_cell h2]; exact h3 i p hi⟩
theorem Bxs.own (h : Bxs w bs xss) {base : Nat} {e : TypeId} {size m : Nat} {v : Value} {ys : List Value} (ho : w.ownsRow base e size v m ys) : ∀ k, v.ownBlock = some k → ¬ Chs bs k := fun k hk => by
  obtain ⟨c, hc⟩ := own_typed ho k hk
  exact h.cells hc
/-- Take at box i. -/
theorem take_at {i : Nat} {g c : Nat} {xs : List Fr} (h : Bxs w bs xss) (hi : bs[i]? = some (some (g, c))) (hx : xss[i]? = some xs) (b : Bool) (x : Fr) (hbx : (xs.head?, b, x) = (none, false, z) ∨ (xs.head?, b) = (some x, true)) :
    Calls Try.prog 23 #[.pointer (some ⟨g, 0, none⟩)] w fun e w' => e = .returned (.tuple #[.agg (cl x).toArray, .bool b]) ∧ Bxs w' bs (xss.set i xs.tail) ∧ Mod (Chs bs) w w' := by
  obtain ⟨xs', h1, hb⟩ := h.box i _ hi
  obtain rfl : xs' = xs := Option.some.inj (h1.symm.trans hx)
  have hchs : Chs bs c := ⟨i, g, hi⟩
  have key : ∀ w', Bx w' g c 9 xs'.tail → Mod (fun k => k = c) w w' → Bxs w' bs (xss.set i xs'.tail) ∧ Mod (Chs bs) w w' := by
    intro w' hb' hm
    refine ⟨⟨by rw [List.length_set]; exact h.len, fun j p hp => ?_, fun j hj => ?_, h.diff⟩, hm.mono (fun k hk => by rw [hk]; exact hchs)⟩
    · by_cases hij : i = j
      · subst hij
        obtain rfl : (g, c) = p := by injection hi.symm.trans hp with e; injection e
        exact ⟨_, List.getElem?_set_self (List.getElem?_eq_some_iff.1 hx).1, hb'⟩
      · obtain ⟨ys, h3, h4⟩ := h.box j p hp
        refine ⟨ys, by rw [List.getElem?_set_ne hij]; exact h3, h4.mod hm (fun e => ?_) (fun e => h.diff i j _ p hij hi hp e.symm)⟩
        exact h.cells h4.blk (by rw [e]; exact hchs)
    · have hij : i ≠ j := fun e => by subst e; rw [hi] at hj; cases hj
      rw [List.getElem?_set_ne hij]
      exact h.nil j hj
  cases xs' with
  | nil =>
    rcases hbx with e | e
    · simp only [List.head?_nil, Prod.mk.injEq, true_and] at e
      obtain ⟨rfl, rfl⟩ := e
      exact (take_none g c 9 w hb).mono fun e w' ⟨h3, h4, h5⟩ => ⟨h3, key w' h4 h5⟩
    · simp at e
  | cons y ys =>
    rcases hbx with e | e
    · simp at e
    · simp only [List.head?_cons, Prod.mk.injEq, Option.some.injEq] at e
      obtain ⟨rfl, rfl⟩ := e
      exact (take_some g c 9 y ys w hb).mono fun e w' ⟨h3, h4, h5⟩ => ⟨h3, key w' h4 h5⟩
end
def tot (xss : List (List Fr)) : Nat := (xss.map List.length).sum
/-- One pass over the boxes. -/
def pass (n : Int) : List (List Fr) → List Fr → List (List Fr) × List Fr
  | [], out => ([], out)
  | [] :: r, out => ([] :: (pass n r out).1, (pass n r out).2)
  | (x :: xs) :: r, out => if ((out.length + 1 : Nat) : Int) = n then (xs :: r, out ++ [x]) else (xs :: (pass n r (out ++ [x])).1, (pass n r (out ++ [x])).2)
/-- Pass upon pass. -/
def drain (n : Int) : Nat → List (List Fr) → List Fr → List (List Fr) × List Fr
  | 0, xss, out => (xss, out)
  | k + 1, xss, out => if (out.length : Int) < n then (if (pass n xss out).2.length = out.length then pass n xss out else drain n k (pass n xss out).1 (pass n xss out).2) else (xss, out)
theorem drain_full (n : Int) (k : Nat) (xss : List (List Fr)) (out : List Fr) (h : ¬ (out.length : Int) < n) : drain n k xss out = (xss, out) := by
  cases k with
  | zero => rfl
  | succ k => rw [drain, if_neg h]
theorem tot_set {xss : List (List Fr)} {i : Nat} {x : Fr} {xs : List Fr} (h : xss[i]? = some (x :: xs)) : tot (xss.set i xs) + 1 = tot xss := by
  induction xss generalizing i with
  | nil => simp at h
  | cons y ys ih =>
    cases i with
    | zero =>
      simp only [List.getElem?_cons_zero, Option.some.injEq] at h
      subst h
      simp only [tot, List.set_cons_zero, List.map_cons, List.sum_cons, List.length_cons]
      omega
    | succ i =>
      rw [List.getElem?_cons_succ] at h
      have := ih h
      simp only [tot, List.set_cons_succ, List.map_cons, List.sum_cons] at this ⊢
      omega
theorem set_same {α : Type} {l : List α} {p : Nat} {x : α} (h : l[p]? = some x) : l.set p x = l := by
  refine List.ext_getElem? fun n => ?_
  by_cases hn : p = n
  · subst hn
    rw [List.getElem?_set_self (List.getElem?_eq_some_iff.1 h).1, h]
  · rw [List.getElem?_set_ne hn]
/-- Where a pass stands: i boxes are behind it. -/
def At (n : Int) (i : Nat) (xss : List (List Fr)) (out : List Fr) (P : List (List Fr) × List Fr) : Prop := (xss.take i ++ (pass n (xss.drop i) out).1, (pass n (xss.drop i) out).2) = P
theorem At.empty {n : Int} {i : Nat} {xss : List (List Fr)} {out : List Fr} {P : List (List Fr) × List Fr} (h : At n i xss out P) (hx : xss[i]? = some []) : At n (i + 1) xss out P := by
  have hl := (List.getElem?_eq_some_iff.1 hx).1
  unfold At at h ⊢
  rw [List.drop_eq_getElem_cons hl, show xss[i] = [] from (List.getElem?_eq_some_iff.1 hx).2] at h
  rw [← h, List.take_add_one, hx]
  simp [pass]
theorem At.more {n : Int} {i : Nat} {xss : List (List Fr)} {out : List Fr} {P : List (List Fr) × List Fr} {x : Fr} {xs : List Fr} (h : At n i xss out P) (hx : xss[i]? = some (x :: xs)) (hn : ¬ ((out.length + 1 : Nat) : Int) = n) : At n (i + 1) (xss.set i xs) (out ++ [x]) P := by
  have hl := (List.getElem?_eq_some_iff.1 hx).1
  unfold At at h ⊢
  rw [List.drop_eq_getElem_cons hl, show xss[i] = x :: xs from (List.getElem?_eq_some_iff.1 hx).2, pass, if_neg hn] at h
  rw [← h, List.drop_set_of_lt (by omega), List.take_add_one, List.getElem?_set_self hl, List.take_set_of_le (by omega)]
  simp
theorem At.full {n : Int} {i : Nat} {xss : List (List Fr)} {out : List Fr} {P : List (List Fr) × List Fr} {x : Fr} {xs : List Fr} (h : At n i xss out P) (hx : xss[i]? = some (x :: xs)) (hn : ((out.length + 1 : Nat) : Int) = n) : P = (xss.set i xs, out ++ [x]) := by
  have hl := (List.getElem?_eq_some_iff.1 hx).1
  unfold At at h
  rw [List.drop_eq_getElem_cons hl, show xss[i] = x :: xs from (List.getElem?_eq_some_iff.1 hx).2, pass, if_pos hn] at h
  rw [← h, List.set_eq_take_append_cons_drop, if_pos hl]
theorem At.end_ {n : Int} {i : Nat} {xss : List (List Fr)} {out : List Fr} {P : List (List Fr) × List Fr} (h : At n i xss out P) (hi : i = xss.length) : P = (xss, out) := by
  unfold At at h
  rw [← h, hi, List.drop_length, List.take_length]
  simp [pass]
end Go.Proofs.Ytnfnbcbbiaheeaa.Ml
