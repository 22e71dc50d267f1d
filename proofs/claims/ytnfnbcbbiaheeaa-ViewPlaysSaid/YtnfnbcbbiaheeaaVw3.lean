/- Contracts of the document's own View: NewView, Next. -/
import Derived.Test.YtnfnbcbbiaheeaaVw2
import Derived.Deep.RegionLaw
namespace Go.Proofs.Ytnfnbcbbiaheeaa.Vw
open Go.RowKit Go.Proofs.YtnfnbcbbiaheeaaW.PrintWords Go.Proofs.YtnfnbcbbiaheeaaW.PrintLast Go.Proofs.Ytnfnbcbbiaheeaa.Lib
def c1s (L : List (Int × Int)) : List Value := L.map fun x => .int .i64 x.1
def c2s (L : List (Int × Int)) : List Value := L.map fun x => .int .i64 x.2
/-- The document's View at block g: states at block s, incarnations at block t. -/
structure Rs (w : World) (g s t : Nat) (L : List (Int × Int)) : Prop where
  blk : w.heap[g]? = some (.cells #[.slice (some ⟨s, 0, none⟩) L.length L.length, .slice (some ⟨t, 0, none⟩) L.length L.length] 36 (0, 0))
  sr : w.heap[s]? = some (.cells (c1s L).toArray 3 (0, 0))
  tr : w.heap[t]? = some (.cells (c2s L).toArray 3 (0, 0))
  ne : s ≠ t
section
variable {w W : World} {g s t : Nat} {L : List (Int × Int)}
theorem Rs.below (h : Rs w g s t L) (hb : Below w.heap.size w W) : Rs W g s t L := ⟨(hb.block _ (blk_lt h.blk)).trans h.blk, (hb.block _ (blk_lt h.sr)).trans h.sr, (hb.block _ (blk_lt h.tr)).trans h.tr, h.ne⟩
theorem Rs.gs (h : Rs w g s t L) : g ≠ s := blk_ne h.blk h.sr (by decide)
theorem Rs.gt (h : Rs w g s t L) : g ≠ t := blk_ne h.blk h.tr (by decide)
theorem Rs.mod {S : Nat → Prop} (h : Rs w g s t L) (hm : Mod S w W) (h1 : ¬ S g) (h2 : ¬ S s) (h3 : ¬ S t) : Rs W g s t L := ⟨hm.blk h.blk h1, hm.blk h.sr h2, hm.blk h.tr h3, h.ne⟩
theorem Rs.cellA (h : Rs w g s t L) : w.cell? ⟨g, 0, none⟩ = some (.slice (some ⟨s, 0, none⟩) L.length L.length) := (blk_cell h.blk 0).trans rfl
theorem Rs.cellB (h : Rs w g s t L) : w.cell? ⟨g, 1, none⟩ = some (.slice (some ⟨t, 0, none⟩) L.length L.length) := (blk_cell h.blk 1).trans rfl
theorem Rs.cell0 (h : Rs w g s t L) {k : Nat} {x : Int × Int} (hx : L[k]? = some x) : w.cell? ⟨s, k, none⟩ = some (.int .i64 x.1) := by rw [blk_cell h.sr, List.getElem?_toArray, c1s, List.getElem?_map, hx]; rfl
theorem Rs.cell1 (h : Rs w g s t L) {k : Nat} {x : Int × Int} (hx : L[k]? = some x) : w.cell? ⟨t, k, none⟩ = some (.int .i64 x.2) := by rw [blk_cell h.tr, List.getElem?_toArray, c2s, List.getElem?_map, hx]; rfl
theorem Rs.put (h : Rs w g s t L) (k : Nat) (a b : Int) : Rs ((w.setCell ⟨s, k, none⟩ (.int .i64 a)).setCell ⟨t, k, none⟩ (.int .i64 b)) g s t (L.set k (a, b)) :=
  ⟨by rw [List.length_set]; exact blk_far (blk_far h.blk h.gs _) h.gt _, blk_far (blk_put h.sr _ _ (by simp [c1s, List.map_set])) h.ne _, blk_put (blk_far h.tr h.ne.symm _) _ _ (by simp [c2s, List.map_set]), h.ne⟩
theorem Rs.put0 (h : Rs w g s t L) {k : Nat} {x : Int × Int} (hx : L[k]? = some x) (a : Int) : Rs (w.setCell ⟨s, k, none⟩ (.int .i64 a)) g s t (L.set k (a, x.2)) := by
  refine ⟨by rw [List.length_set]; exact blk_far h.blk h.gs _, blk_put h.sr _ _ (by simp [c1s, List.map_set]), ?_, h.ne⟩
  have e : c2s (L.set k (a, x.2)) = c2s L := by
    refine List.ext_getElem? fun n => ?_
    rw [c2s, c2s, List.getElem?_map, List.getElem?_map]
    by_cases hn : k = n
    · subst hn
      rw [List.getElem?_set_self (List.getElem?_eq_some_iff.1 hx).1, hx]; rfl
    · rw [List.getElem?_set_ne hn]
  rw [e]
  exact blk_far h.tr h.ne.symm _
end
theorem rmod_set {w : World} {s t : Nat} (r k : Nat) (u : Value) (h : r = s ∨ r = t) : Mod (fun q => q = s ∨ q = t) w (w.setCell ⟨r, k, none⟩ u) := Mod.setCell (p := ⟨r, k, none⟩) (Mod.refl (fun q => q = s ∨ q = t) w) (.inl h) u
theorem made1a (n : Nat) : madeCells #[Value.int .i64 0] n = (c1s (List.replicate n (0, 0))).toArray := by
  apply Array.ext'
  rw [List.toList_toArray]
  apply List.ext_getElem
  · simp [c1s, madeCells]
  · intro i h1 h2
    simp [c1s, madeCells, Nat.mod_one]
theorem made1b (n : Nat) : madeCells #[Value.int .i64 0] n = (c2s (List.replicate n (0, 0))).toArray := by
  apply Array.ext'
  rw [List.toList_toArray]
  apply List.ext_getElem
  · simp [c2s, madeCells]
  · intro i h1 h2
    simp [c2s, madeCells, Nat.mod_one]
theorem rnew_no (n : Int) (w : World) (h : n < 1 ∨ 12 < n) : Calls Try.prog 17 #[.int .i64 n] w fun e w' => e = .returned (.tuple #[.pointer none, .int .i64 1]) ∧ Below w.heap.size w w' := by
  by_cases h1 : n < 1
  · have t0 : decide (n < 1) = true := decide_eq_true h1
    clear h h1
    go_enter Try.func17, Try.ntmps17
    go_wp2
    refine bodyPost_ret (results_tmp2 rfl _ _ _) rfl ?_
    exact ⟨rfl, Below.refl _ _⟩
  · have t0 : decide (n < 1) = false := decide_eq_false h1
    have t1 : decide (12 < n) = true := decide_eq_true (by omega)
    clear h h1
    go_enter Try.func17, Try.ntmps17
    go_wp2
    refine bodyPost_ret (results_tmp2 rfl _ _ _) rfl ?_
    exact ⟨rfl, Below.refl _ _⟩
theorem rs_made (w : World) (n s t : Nat) (h : (s = w.heap.size ∧ t = w.heap.size + 1) ∨ (s = w.heap.size + 1 ∧ t = w.heap.size)) :
    Rs (((w.alloc (.cells (madeCells #[Value.int .i64 0] n) 3)).alloc (.cells (madeCells #[Value.int .i64 0] n) 3)).alloc (.cells #[.slice (some ⟨s, 0, none⟩) n n, .slice (some ⟨t, 0, none⟩) n n] 36)).drew (w.heap.size + 1 + 1) s t (List.replicate n (0, 0)) := by
  have h1 := blk_alloc (blk_alloc (blk_new w (.cells (madeCells #[Value.int .i64 0] n) 3)) (.cells (madeCells #[Value.int .i64 0] n) 3)) (.cells #[.slice (some ⟨s, 0, none⟩) n n, .slice (some ⟨t, 0, none⟩) n n] 36)
  have h2 := blk_alloc (blk_new (w.alloc (.cells (madeCells #[Value.int .i64 0] n) 3)) (.cells (madeCells #[Value.int .i64 0] n) 3)) (.cells #[.slice (some ⟨s, 0, none⟩) n n, .slice (some ⟨t, 0, none⟩) n n] 36)
  have h3 := blk_new ((w.alloc (.cells (madeCells #[Value.int .i64 0] n) 3)).alloc (.cells (madeCells #[Value.int .i64 0] n) 3)) (.cells #[.slice (some ⟨s, 0, none⟩) n n, .slice (some ⟨t, 0, none⟩) n n] 36)
  have e1 : (w.alloc (.cells (madeCells #[Value.int .i64 0] n) 3)).heap.size = w.heap.size + 1 := by simp
  have e2 : ((w.alloc (.cells (madeCells #[Value.int .i64 0] n) 3)).alloc (.cells (madeCells #[Value.int .i64 0] n) 3)).heap.size = w.heap.size + 1 + 1 := by simp
  rw [e1] at h2
  rw [e2] at h3
  rcases h with ⟨rfl, rfl⟩ | ⟨rfl, rfl⟩
  · exact ⟨by rw [List.length_replicate]; exact h3, by rw [← made1a]; exact h1, by rw [← made1b]; exact h2, by omega⟩
  · exact ⟨by rw [List.length_replicate]; exact h3, by rw [← made1a]; exact h2, by rw [← made1b]; exact h1, by omega⟩
theorem rs_made_below (w : World) (a b c : Obj) : Below w.heap.size w (((w.alloc a).alloc b).alloc c).drew := ((((Mod.refl (fun _ => False) w).alloc a).alloc b).alloc c).drew.below_all (fun _ h => h.elim)
set_option maxHeartbeats 4000000 in
set_option maxRecDepth 100000 in
theorem rnew_ok (n : Nat) (w : World) (h : 1 ≤ n) (h' : n ≤ 12) : Calls Try.prog 17 #[.int .i64 (n : Int)] w fun e w' => ∃ g s t, e = .returned (.tuple #[.pointer (some ⟨g, 0, none⟩), .int .i64 0]) ∧ Rs w' g s t (List.replicate n (0, 0)) ∧ w.heap.size ≤ g ∧ w.heap.size ≤ s ∧ w.heap.size ≤ t ∧ Below w.heap.size w w' := by
  have t0 : decide ((n : Int) < 1) = false := decide_eq_false (by omega)
  have t1 : decide (12 < (n : Int)) = false := decide_eq_false (by omega)
  have HN := Aside0.mk (And.intro h h')
  have hu36 := Try.underlying36
  have hmk := print_make (P := Try.prog) 31 3 .i64 8 Try.underlying31 (by kernel_rfl) (by decide) n (by omega)
  clear h h'
  go_enter Try.func17, Try.ntmps17
  go_wp2
  go_region
  all_goals
    go_wp2
    refine bodyPost_ret (results_tmp2 rfl _ _ _) rfl ?_
    exact ⟨_, _, _, rfl, rs_made w n _ _ (by omega), by omega, by omega, by omega, rs_made_below w _ _ _⟩

set_option maxHeartbeats 1000000 in
set_option maxRecDepth 100000 in
theorem rnext_out (g s t : Nat) (L : List (Int × Int)) (i ev : Int) (w : World) (hI : Rs w g s t L) (hi : i < 0 ∨ (L.length : Int) ≤ i) :
    Calls Try.prog 18 #[.pointer (some ⟨g, 0, none⟩), .int .i64 i, .int .i64 ev] w fun e w' => e = .returned (.bool false) ∧ Rs w' g s t L ∧ Mod (fun q => q = s ∨ q = t) w w' := by
  have hc := hI.cellA
  have HI := Aside0.mk hI
  clear hI
  by_cases h0 : i < 0
  · have t0 : decide (i < 0) = true := decide_eq_true h0
    clear hi h0
    go_enter Try.func18, Try.ntmps18
    go_wp2
    go_ret
    exact ⟨rfl, HI.out, Mod.refl _ _⟩
  · have t0 : decide (i < 0) = false := decide_eq_false h0
    have t1 : decide ((L.length : Int) ≤ i) = true := decide_eq_true (by omega)
    clear hi h0
    go_enter Try.func18, Try.ntmps18
    go_wp2
    go_ret
    exact ⟨rfl, HI.out, Mod.refl _ _⟩
set_option maxHeartbeats 2000000 in
set_option maxRecDepth 100000 in
theorem rnext_in (g s t : Nat) (L : List (Int × Int)) (k : Nat) (x : Int × Int) (ev : Int) (w : World) (hI : Rs w g s t L) (hx : L[k]? = some x) :
    Calls Try.prog 18 #[.pointer (some ⟨g, 0, none⟩), .int .i64 (k : Int), .int .i64 ev] w fun e w' => e = .returned (.bool (nx L k ev).1) ∧ Rs w' g s t (nx L k ev).2 ∧ Mod (fun q => q = s ∨ q = t) w w' := by
  have hc := hI.cellA
  have hc' := hI.cellB
  have ne0 := hI.ne
  have ne1 := hI.ne.symm
  have ne2 := hI.gs
  have ne3 := hI.gt
  have ne4 := hI.gs.symm
  have ne5 := hI.gt.symm
  have c0 := hI.cell0 hx
  have c1 := hI.cell1 hx
  have f0 := blk_frozen hI.sr k
  have f1 := blk_frozen hI.tr k
  have HI := Aside0.mk hI
  have HX := Aside0.mk hx
  have hk : k < L.length := (List.getElem?_eq_some_iff.1 hx).1
  have t0 : decide ((k : Int) < 0) = false := decide_eq_false (by omega)
  have t1 : decide ((L.length : Int) ≤ (k : Int)) = false := decide_eq_false (by omega)
  have t2 : decide ((k : Int) < (L.length : Int)) = true := decide_eq_true (by omega)
  have t3 : decide (0 ≤ (k : Int)) = true := decide_eq_true (by omega)
  have hnx : nx L k ev = if ev = 1 then (true, L.set k (0, wrap64 (x.2 + 1))) else if ev = 2 ∧ x.1 = 0 ∧ 0 < x.2 then (true, L.set k (1, x.2)) else if ev = 3 ∧ x.1 = 1 then (true, L.set k (2, x.2)) else (false, L) := by
    unfold nx
    rw [if_neg (by omega), Int.toNat_natCast, hx]
  clear hI hx
  by_cases e1 : ev = 1
  · rw [hnx, if_pos e1]
    have b1 : (ev == 1) = true := beq_iff_eq.2 e1
    clear e1 hnx
    go_enter Try.func18, Try.ntmps18
    go_wp2
    go_ret
    exact ⟨rfl, HI.out.put _ _ _, (rmod_set _ _ _ (.inl rfl)).trans (rmod_set _ _ _ (.inr rfl)) (fun q hq => .inl hq)⟩
  have b1 : (ev == 1) = false := beq_eq_false_iff_ne.2 e1
  rw [if_neg e1] at hnx
  clear e1
  by_cases e2 : ev = 2
  · have b2 : (ev == 2) = true := beq_iff_eq.2 e2
    have b3 : (ev == 3) = false := beq_eq_false_iff_ne.2 (by omega)
    by_cases s0 : x.1 = 0
    · have d0 : (x.1 == 0) = true := beq_iff_eq.2 s0
      by_cases p0 : 0 < x.2
      · have d1 : decide (0 < x.2) = true := decide_eq_true p0
        rw [hnx, if_pos ⟨e2, s0, p0⟩]
        clear e2 hnx s0 p0
        go_enter Try.func18, Try.ntmps18
        go_wp2
        go_ret
        exact ⟨rfl, HI.out.put0 HX.out _, rmod_set _ _ _ (.inl rfl)⟩
      · have d1 : decide (0 < x.2) = false := decide_eq_false p0
        rw [hnx, if_neg (fun h => p0 h.2.2), if_neg (fun h => by have := h.1; omega)]
        clear e2 hnx s0 p0
        go_enter Try.func18, Try.ntmps18
        go_wp2
        go_ret
        exact ⟨rfl, HI.out, Mod.refl _ _⟩
    · have d0 : (x.1 == 0) = false := beq_eq_false_iff_ne.2 s0
      rw [hnx, if_neg (fun h => s0 h.2.1), if_neg (fun h => by have := h.1; omega)]
      clear e2 hnx s0
      go_enter Try.func18, Try.ntmps18
      go_wp2
      go_ret
      exact ⟨rfl, HI.out, Mod.refl _ _⟩
  have b2 : (ev == 2) = false := beq_eq_false_iff_ne.2 e2
  rw [if_neg (fun h => e2 h.1)] at hnx
  clear e2
  by_cases e3 : ev = 3
  · have b3 : (ev == 3) = true := beq_iff_eq.2 e3
    by_cases s0 : x.1 = 1
    · have d0 : (x.1 == 1) = true := beq_iff_eq.2 s0
      rw [hnx, if_pos ⟨e3, s0⟩]
      clear e3 hnx s0
      go_enter Try.func18, Try.ntmps18
      go_wp2
      go_ret
      exact ⟨rfl, HI.out.put0 HX.out _, rmod_set _ _ _ (.inl rfl)⟩
    · have d0 : (x.1 == 1) = false := beq_eq_false_iff_ne.2 s0
      rw [hnx, if_neg (fun h => s0 h.2)]
      clear e3 hnx s0
      go_enter Try.func18, Try.ntmps18
      go_wp2
      go_ret
      exact ⟨rfl, HI.out, Mod.refl _ _⟩
  have b3 : (ev == 3) = false := beq_eq_false_iff_ne.2 e3
  rw [hnx, if_neg (fun h => e3 h.1)]
  clear e3 hnx
  go_enter Try.func18, Try.ntmps18
  go_wp2
  go_ret
  exact ⟨rfl, HI.out, Mod.refl _ _⟩
theorem rnext_calls (g s t : Nat) (L : List (Int × Int)) (i ev : Int) (w : World) (hI : Rs w g s t L) :
    Calls Try.prog 18 #[.pointer (some ⟨g, 0, none⟩), .int .i64 i, .int .i64 ev] w fun e w' => e = .returned (.bool (nx L i ev).1) ∧ Rs w' g s t (nx L i ev).2 ∧ Mod (fun q => q = s ∨ q = t) w w' := by
  by_cases hi : i < 0 ∨ (L.length : Int) ≤ i
  · rw [nx_out hi]
    exact rnext_out g s t L i ev w hI hi
  · obtain ⟨k, rfl⟩ := Int.eq_ofNat_of_zero_le (show 0 ≤ i by omega)
    exact rnext_in g s t L k _ ev w hI (List.getElem?_eq_getElem (by omega))
end Go.Proofs.Ytnfnbcbbiaheeaa.Vw
