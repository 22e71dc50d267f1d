/- Rows of numbers that came in; the call's own rows of them, of boxes, of numbers. -/
import Derived.Test.YtnfnbcbbiaheeaaMl12
import Derived.Deep.Matrix
import Derived.BigQuiet
namespace Go.Proofs.Ytnfnbcbbiaheeaa.Ml
open Go.RowKit Go.Proofs.YtnfnbcbbiaheeaaW.PrintWords Go.Proofs.YtnfnbcbbiaheeaaW.PrintLast Go.Proofs.YtnfnbcbbiaheeaaW.PrintMore Go.Proofs.Ytnfnbcbbiaheeaa.Lib Go.Proofs.Ytnfnbcbbiaheeaa.Open
/-- A world behind W in which all that W had is as it was. -/
structure Wd (W : World) where
  w : World
  h : Below W.heap.size W w
instance Wd.here {W : World} : Nonempty (Wd W) := ⟨⟨W, Below.refl _ _⟩⟩
theorem Wd.cell {W : World} {p : Addr} {v : Value} (h : W.cell? p = some v) : ∀ n : Wd W, n.w.cell? p = some v := fun n => pw_cell_below n.h h
/-- A region that draws its order and whose calls make memory: one walk of the text's order. -/
theorem wp_quiet_wd {P : Program} {id : Nat} {Q : Exit → Act → World → Prop} {a : Act} {W : World} {l : List Oper} (hm : P.follows .mixedOrders = true) (hB : Region.lexB .any l.toArray = true)
    (h : wpQuiet P l.toArray (fun w' => ∃ n : Wd W, w' = n.w) (fun a' => ∀ w', (∃ n : Wd W, w' = n.w) → Q .normal a' w') l a) : (Code.region id l.toArray true).wp P Q a W :=
  wp_region_quiet (C := fun w' => ∃ n : Wd W, w' = n.w) hm hB ⟨⟨W.drew, below_drew (Below.refl _ _)⟩, rfl⟩ (by simpa using h)
/-- A slice of numbers. -/
structure Rw where
  A : Option Addr
  n : Nat
  c : Nat
  l : List Int
def rv (r : Rw) : Value := .slice r.A r.n r.c
/-- It can be read. -/
def Rk (w : World) (r : Rw) : Prop := Arg icl w r.A r.n r.l ∧ r.n ≤ r.c
/-- A slice of slices of numbers that came in. -/
def Rows (w : World) (A : Option Addr) (n : Nat) (rs : List Rw) : Prop :=
  rs.length = n ∧ n ≤ 9223372036854775807 ∧ (0 < n → ∃ b o, A = some ⟨b, o, none⟩ ∧ ∀ (i : Nat) (r : Rw), rs[i]? = some r → w.cell? ⟨b, o + i, none⟩ = some (rv r)) ∧ ∀ r ∈ rs, Rk w r
def fr (ls : List Rw) : List (List Fr) := ls.map fun r => r.l.map frn
section
variable {w W W1 : World} {A : Option Addr} {n : Nat} {rs ls : List Rw}
theorem Rk.below {r : Rw} (h : Rk w r) (hb : Below w.heap.size w W) : Rk W r := ⟨h.1.below hb, h.2⟩
theorem Rows.at_ (h : Rows w A n rs) {i : Nat} (hi : i < n) : ∃ r b o, A = some ⟨b, o, none⟩ ∧ rs[i]? = some r ∧ Rk w r ∧ ∀ W, Below w.heap.size w W → W.cell? ⟨b, o + i, none⟩ = some (rv r) := by
  obtain ⟨r, hr⟩ : ∃ r, rs[i]? = some r := ⟨_, List.getElem?_eq_getElem (by have := h.1; omega)⟩
  obtain ⟨b, o, rfl, hc⟩ := h.2.2.1 (by omega)
  exact ⟨r, b, o, rfl, hr, h.2.2.2 r (List.mem_of_getElem? hr), fun W hb => pw_cell_below hb (hc i r hr)⟩
theorem Rows.take (h : Rows w A n rs) (k : Nat) (hk : k ≤ n) : Rows w A k (rs.take k) := by
  refine ⟨by rw [List.length_take]; have := h.1; omega, by have := h.2.1; omega, fun h0 => ?_, fun r hr => h.2.2.2 r (List.mem_of_mem_take hr)⟩
  obtain ⟨b, o, e, hc⟩ := h.2.2.1 (by omega)
  refine ⟨b, o, e, fun i r hi => hc i r ?_⟩
  have := (List.getElem?_eq_some_iff.1 hi).1
  rw [List.length_take] at this
  rwa [List.getElem?_take_of_lt (by omega)] at hi
/-- The first k numbers. -/
theorem Rk.take {r : Rw} (h : Rk w r) (k : Nat) (hk : k ≤ r.n) : Rk w ⟨r.A, k, r.c, r.l.take k⟩ := by
  obtain ⟨⟨h1, h2, h3⟩, h4⟩ := h
  refine ⟨⟨by show (r.l.take k).length = k; rw [List.length_take]; omega, by show k ≤ _; omega, fun h0 => ?_⟩, by show k ≤ r.c; omega⟩
  have h0' : 0 < k := h0
  obtain ⟨b, o, e, hr⟩ := h3 (by omega)
  refine ⟨b, o, e, fun j v hv => hr j v ?_⟩
  have hv' : ((r.l.take k).flatMap icl)[j]? = some v := hv
  rw [icl_flat] at hv' ⊢
  have := (List.getElem?_eq_some_iff.1 hv').1
  rw [List.length_map, List.length_take] at this
  rw [List.map_take, List.getElem?_take_of_lt (by omega)] at hv'
  exact hv'
theorem Rk.nil (w : World) : Rk w ⟨none, 0, 0, []⟩ := ⟨arg_nil w, Nat.le_refl _⟩
/-- Its head, and what stands behind. -/
theorem Rk.head {r : Rw} {x : Int} {xs : List Int} (h : Rk w r) (hl : r.l = x :: xs) : ∃ b o, r.A = some ⟨b, o, none⟩ ∧ r.n = xs.length + 1 ∧ (∀ W, Below w.heap.size w W → W.cell? ⟨b, o, none⟩ = some (.int .i64 x)) ∧ (r.c = 1 → xs = [] ∧ Rk w ⟨some ⟨b, o, none⟩, 0, 0, xs⟩) ∧ (¬ r.c = 1 → Rk w ⟨some ⟨b, o + 1, none⟩, xs.length, r.c - 1, xs⟩) := by
  obtain ⟨⟨h1, h2, h3⟩, h4⟩ := h
  rw [hl, List.length_cons] at h1
  obtain ⟨b, o, e, hr⟩ := h3 (by omega)
  rw [hl] at hr
  refine ⟨b, o, e, h1.symm, fun W hb => pw_cell_below hb (hr 0 _ rfl), fun hc => ?_, fun hc => ⟨⟨rfl, by show xs.length ≤ _; omega, fun _ => ⟨b, o + 1, rfl, fun j v hv => ?_⟩⟩, by show xs.length ≤ r.c - 1; omega⟩⟩
  · have : xs = [] := List.length_eq_zero_iff.1 (by omega)
    subst this
    exact ⟨rfl, ⟨rfl, by show 0 ≤ _; omega, fun h => absurd h (Nat.lt_irrefl 0)⟩, Nat.le_refl _⟩
  · have := hr (j + 1) v hv
    rwa [Nat.add_assoc, Nat.add_comm 1 j]
theorem own_rd {B n c : Nat} {A : Option Addr} {l : List Int} (h : W.ownsRow B 3 1 (.slice A n c) n (l.map (Value.int .i64))) (hn : l.length = n) (hl : n ≤ 1000) : Rd W A n l := by
  refine ⟨hn, by omega, fun h0 => ?_⟩
  have h' := h
  rcases h.2 with ⟨e, hz⟩ | ⟨g, cap, cur, e, hg, hh, _⟩
  · omega
  · injection e with e1 e2 e3
    subst e1 e3
    refine ⟨_, rfl, fun j p hj => ⟨[.int .i64 p], rfl, rfl, fun i u hu => ?_⟩⟩
    cases i with
    | zero =>
      obtain rfl : Value.int .i64 p = u := by simpa using hu
      have := (List.getElem?_eq_some_iff.1 hj).1
      rw [show j * (Kd.int .i64).sz + 0 = j from Nat.mul_one j, add_plain, h'.cellAt j (by omega), List.getElem?_map, hj]
      rfl
    | succ i => simp at hu
/-- A row of another type stays. -/
theorem own_keep {B : Nat} {e : TypeId} {s n : Nat} {v : Value} {xs : List Value} (h : W.ownsRow B e s v n xs) {S : Nat → Prop} (hm : Mod S W W1) (hs : ∀ k, S k → ∃ cur t, W.heap[k]? = some (.cells cur t (0, 0)) ∧ t ≠ e) : W1.ownsRow B e s v n xs :=
  hm.own h (fun k hk e' => by
    obtain ⟨cur, t, h1, h2⟩ := hs k e'
    obtain ⟨c, hc⟩ := own_typed h k hk
    rw [h1] at hc
    injection hc with hc
    injection hc with _ hc
    exact h2 hc)
theorem typ {B : Nat} {e e' : TypeId} {s n : Nat} {v : Value} {xs : List Value} (h : W.ownsRow B e s v n xs) (hne : e ≠ e') : ∀ k, some k = v.ownBlock → ∃ cur t, W.heap[k]? = some (.cells cur t (0, 0)) ∧ t ≠ e' := fun k hk => by
  obtain ⟨c, hc⟩ := own_typed h k hk.symm
  exact ⟨c, e, hc, hne⟩
end
/-- The three rows of the call's own. -/
structure Dl (w0 W : World) (v5 : Value) (bs : List (Option (Nat × Nat))) (xss : List (List Fr)) (v6 : Value) (ls : List Rw) (v10 : Value) (want : List Int) : Prop where
  bl : Bl w0 W v5 bs xss
  left : W.ownsRow w0.heap.size 31 1 v6 ls.length (ls.map rv)
  want : W.ownsRow w0.heap.size 3 1 v10 want.length (want.map (Value.int .i64))
section
variable {w0 W W1 : World} {v5 v6 v10 v' : Value} {bs : List (Option (Nat × Nat))} {xss yss : List (List Fr)} {ls : List Rw} {want : List Int}
theorem Dl.far (h : Dl w0 W v5 bs xss v6 ls v10 want) (hb : Below W.heap.size W W1) : Dl w0 W1 v5 bs xss v6 ls v10 want := ⟨h.bl.far hb, pw_own_below h.left hb, pw_own_below h.want hb⟩
theorem Dl.new (h : Dl w0 W v5 bs xss v6 ls v10 want) (o : Obj) : Dl w0 (W.alloc o) v5 bs xss v6 ls v10 want := h.far (below_alloc (Below.refl _ _) o)
theorem Dl.size (h : Dl w0 W v5 bs xss v6 ls v10 want) : w0.heap.size ≤ W.heap.size := h.bl.size
theorem Dl.below (h : Dl w0 W v5 bs xss v6 ls v10 want) : Below w0.heap.size w0 W := h.bl.below
theorem Dl.box (h : Dl w0 W v5 bs xss v6 ls v10 want) {g c : Nat} {xs : List Fr} (hx : Bx W g c 9 xs) (hc : ∀ k, Chs bs k → k < c) (h0 : w0.heap.size ≤ c) (ho : W1.ownsRow w0.heap.size 40 1 v' (bs.length + 1) (bs.map pv ++ [.pointer (some ⟨g, 0, none⟩)])) (hm : Mod (fun k => some k = v5.ownBlock) W W1) : Dl w0 W1 v' (bs ++ [some (g, c)]) (xss ++ [xs]) v6 ls v10 want :=
  ⟨h.bl.add hx hc h0 ho hm, own_keep h.left hm (typ h.bl.own (by decide)), own_keep h.want hm (typ h.bl.own (by decide))⟩
theorem Dl.nobox (h : Dl w0 W v5 bs xss v6 ls v10 want) (ho : W1.ownsRow w0.heap.size 40 1 v' (bs.length + 1) (bs.map pv ++ [.pointer none])) (hm : Mod (fun k => some k = v5.ownBlock) W W1) : Dl w0 W1 v' (bs ++ [none]) (xss ++ [[]]) v6 ls v10 want :=
  ⟨h.bl.addnil ho hm, own_keep h.left hm (typ h.bl.own (by decide)), own_keep h.want hm (typ h.bl.own (by decide))⟩
theorem Dl.lefts (h : Dl w0 W v5 bs xss v6 ls v10 want) (r : Rw) (ho : W1.ownsRow w0.heap.size 31 1 v' (ls.length + 1) (ls.map rv ++ [rv r])) (hm : Mod (fun k => some k = v6.ownBlock) W W1) : Dl w0 W1 v5 bs xss v' (ls ++ [r]) v10 want :=
  ⟨h.bl.row h.left (by decide) hm, by rw [List.length_append, List.map_append]; exact ho, own_keep h.want hm (typ h.left (by decide))⟩
theorem Dl.wants (h : Dl w0 W v5 bs xss v6 ls v10 want) (x : Int) (ho : W1.ownsRow w0.heap.size 3 1 v' (want.length + 1) (want.map (Value.int .i64) ++ [.int .i64 x])) (hm : Mod (fun k => some k = v10.ownBlock) W W1) : Dl w0 W1 v5 bs xss v6 ls v' (want ++ [x]) :=
  ⟨h.bl.row h.want (by decide) hm, own_keep h.left hm (typ h.want (by decide)), by rw [List.length_append, List.map_append]; exact ho⟩
theorem Dl.set {g n c : Nat} (h : Dl w0 W v5 bs xss (.slice (some ⟨g, 0, none⟩) n c) ls v10 want) (hn : ls.length = n) (i : Nat) (r : Rw) : Dl w0 (W.setCell ⟨g, i, none⟩ (rv r)) v5 bs xss (.slice (some ⟨g, 0, none⟩) n c) (ls.set i r) v10 want := by
  subst hn
  have hs := own_set1 h.left i (rv r)
  have hm : Mod (fun k => some k = (Value.slice (some ⟨g, 0, none⟩) ls.length c).ownBlock) W (W.setCell ⟨g, i, none⟩ (rv r)) := hs.2.mono (fun k hk => by rw [hk]; rfl)
  refine ⟨h.bl.row h.left (by decide) hm, ?_, own_keep h.want hm (typ h.left (by decide))⟩
  rw [List.length_set, List.map_set]
  exact hs.1
theorem Dl.chs (h : Dl w0 W v5 bs xss v6 ls v10 want) (hx : Bxs W1 bs yss) (hm : Mod (Chs bs) W W1) : Dl w0 W1 v5 bs yss v6 ls v10 want :=
  ⟨⟨hx, hm.own h.bl.own (h.bl.bxs.own h.bl.own), h.bl.ge, hm.after h.bl.below h.bl.size h.bl.ge⟩, hm.own h.left (h.bl.bxs.own h.left), hm.own h.want (h.bl.bxs.own h.want)⟩
/-- Row i, where the rows lie. -/
theorem Dl.row {A : Option Addr} {n c : Nat} (h : Dl w0 W v5 bs xss (.slice A n c) ls v10 want) {i : Nat} {r : Rw} (hi : ls[i]? = some r) : ∃ g, A = some ⟨g, 0, none⟩ ∧ n = ls.length ∧ W.cell? ⟨g, i, none⟩ = some (rv r) ∧ W.frozen? ⟨g, i, none⟩ = false := by
  have hl := (List.getElem?_eq_some_iff.1 hi).1
  have h' := h.left
  rcases h.left.2 with ⟨e, hz⟩ | ⟨g, cap, cur, e, hg, hh, _⟩
  · omega
  · injection e with e1 e2 e3
    subst e1 e2 e3
    refine ⟨g, rfl, rfl, ?_, blk_frozen hh _⟩
    rw [h'.cellAt i (by omega), List.getElem?_map, hi]
    rfl
theorem Dl.box_at {A : Option Addr} {n c : Nat} (h : Dl w0 W (.slice A n c) bs xss v6 ls v10 want) {i : Nat} {p : Option (Nat × Nat)} (hi : bs[i]? = some p) : ∃ b, A = some ⟨b, 0, none⟩ ∧ W.cell? ⟨b, i, none⟩ = some (pv p) := h.bl.asRow.cell hi
end
theorem left_at {W : World} {B n c : Nat} {A : Option Addr} {ls : List Rw} (h : W.ownsRow B 31 1 (.slice A n c) ls.length (ls.map rv)) {i : Nat} {r : Rw} (hi : ls[i]? = some r) : ∃ g, A = some ⟨g, 0, none⟩ ∧ i < n ∧ W.cell? ⟨g, i, none⟩ = some (rv r) := by
  have hl := (List.getElem?_eq_some_iff.1 hi).1
  have h' := h
  rcases h.2 with ⟨e, hz⟩ | ⟨g, cap, cur, e, hg, hh, _⟩
  · omega
  · injection e with e1 e2 e3
    subst e1 e2 e3
    refine ⟨g, rfl, hl, ?_⟩
    rw [h'.cellAt i (by omega), List.getElem?_map, hi]
    rfl
theorem fr_length (ls : List Rw) : (fr ls).length = ls.length := by simp [fr]
theorem fr_at {ls : List Rw} {i : Nat} {r : Rw} (h : ls[i]? = some r) : (fr ls)[i]? = some (r.l.map frn) := by rw [fr, List.getElem?_map, h]; rfl
theorem fr_set (ls : List Rw) (i : Nat) (r : Rw) : fr (ls.set i r) = (fr ls).set i (r.l.map frn) := by rw [fr, fr, List.map_set]
theorem fr_append (ls : List Rw) (r : Rw) : fr (ls ++ [r]) = fr ls ++ [r.l.map frn] := by simp [fr]
theorem fr_tot (ls : List Rw) (h : ∀ r ∈ ls, r.l.length ≤ 8) : tot (fr ls) ≤ 8 * ls.length := by
  induction ls with
  | nil => simp [fr, tot]
  | cons r ls ih =>
    have h1 := ih (fun r hr => h r (List.mem_cons_of_mem _ hr))
    have h2 := h r List.mem_cons_self
    simp only [fr, tot, List.map_cons, List.sum_cons, List.length_cons, List.length_map] at h1 ⊢
    omega
theorem f3_frn (l : List Int) : (l.map frn).map (fun y => y.f3) = l := by
  rw [List.map_map]
  exact (List.map_congr_left (fun x _ => rfl)).trans (List.map_id l)
end Go.Proofs.Ytnfnbcbbiaheeaa.Ml
