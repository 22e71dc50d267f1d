/- Contracts of package view: New, Next; and what an event does to a list of slots. -/
import Derived.Test.YtnfnbcbbiaheeaaLib2
import Derived.Test.YtnfnbcbbiaheeaaVPr
import Derived.Outline
namespace Go.Proofs.Ytnfnbcbbiaheeaa.Vw
open Go.RowKit Go.Proofs.YtnfnbcbbiaheeaaW.PrintWords Go.Proofs.YtnfnbcbbiaheeaaW.PrintLast Go.Proofs.Ytnfnbcbbiaheeaa.Lib

/-- A slot's cells. -/
def scl (x : Int × Int) : List Value := [.int .i64 x.1, .int .i64 x.2]
def scls (L : List (Int × Int)) : List Value := L.flatMap scl
theorem scl_length (x : Int × Int) : (scl x).length = 2 := rfl
theorem scls_length (L : List (Int × Int)) : (scls L).length = L.length * 2 := flat_length scl 2 scl_length L
theorem scls_at0 {L : List (Int × Int)} {k : Nat} {x : Int × Int} (h : L[k]? = some x) : (scls L)[k * 2]? = some (.int .i64 x.1) := by
  have := flat_at scl 2 scl_length L k x h 0 (.int .i64 x.1) rfl
  rwa [Nat.add_zero] at this
theorem scls_at1 {L : List (Int × Int)} {k : Nat} {x : Int × Int} (h : L[k]? = some x) : (scls L)[k * 2 + 1]? = some (.int .i64 x.2) := flat_at scl 2 scl_length L k x h 1 (.int .i64 x.2) rfl
theorem scls_set (L : List (Int × Int)) (k : Nat) (a b : Int) : ((scls L).set (k * 2) (.int .i64 a)).set (k * 2 + 1) (.int .i64 b) = scls (L.set k (a, b)) := by
  induction L generalizing k with
  | nil => rfl
  | cons x L ih =>
    cases k with
    | zero => rfl
    | succ k =>
      have e : (k + 1) * 2 = k * 2 + 2 := by omega
      rw [e]
      show Value.int .i64 x.1 :: Value.int .i64 x.2 :: (((scls L).set (k * 2) (.int .i64 a)).set (k * 2 + 1) (.int .i64 b)) = _
      rw [ih]
      rfl
/-- An event of a slot. -/
def nx (L : List (Int × Int)) (i ev : Int) : Bool × List (Int × Int) :=
  if i < 0 then (false, L) else
  match L[i.toNat]? with
  | none => (false, L)
  | some x =>
    if ev = 1 then (true, L.set i.toNat (0, wrap64 (x.2 + 1)))
    else if ev = 2 ∧ x.1 = 0 ∧ 0 < x.2 then (true, L.set i.toNat (1, x.2))
    else if ev = 3 ∧ x.1 = 1 then (true, L.set i.toNat (2, x.2))
    else (false, L)
theorem nx_length (L : List (Int × Int)) (i ev : Int) : (nx L i ev).2.length = L.length := by
  unfold nx
  split
  · rfl
  split
  · rfl
  split
  · simp
  split
  · simp
  split
  · simp
  · rfl
/-- A View at block g whose row lies at block r. -/
structure Vs (w : World) (g r : Nat) (L : List (Int × Int)) : Prop where
  blk : w.heap[g]? = some (.cells #[.slice (some ⟨r, 0, none⟩) L.length L.length] 67 (0, 0))
  row : w.heap[r]? = some (.cells (scls L).toArray 70 (0, 0))
section
variable {w W : World} {g r : Nat} {L : List (Int × Int)}
theorem Vs.below (h : Vs w g r L) (hb : Below w.heap.size w W) : Vs W g r L := ⟨(hb.block _ (blk_lt h.blk)).trans h.blk, (hb.block _ (blk_lt h.row)).trans h.row⟩
theorem Vs.gr (h : Vs w g r L) : g ≠ r := blk_ne h.blk h.row (by decide)
theorem Vs.mod {S : Nat → Prop} (h : Vs w g r L) (hm : Mod S w W) (h1 : ¬ S g) (h2 : ¬ S r) : Vs W g r L := ⟨hm.blk h.blk h1, hm.blk h.row h2⟩
theorem Vs.cell (h : Vs w g r L) : w.cell? ⟨g, 0, none⟩ = some (.slice (some ⟨r, 0, none⟩) L.length L.length) := (blk_cell h.blk 0).trans rfl
theorem Vs.cell0 (h : Vs w g r L) {k : Nat} {x : Int × Int} (hx : L[k]? = some x) : w.cell? ⟨r, k * 2, none⟩ = some (.int .i64 x.1) := by rw [blk_cell h.row, List.getElem?_toArray, scls_at0 hx]
theorem Vs.cell1 (h : Vs w g r L) {k : Nat} {x : Int × Int} (hx : L[k]? = some x) : w.cell? ⟨r, k * 2 + 1, none⟩ = some (.int .i64 x.2) := by rw [blk_cell h.row, List.getElem?_toArray, scls_at1 hx]
theorem Vs.put (h : Vs w g r L) (k : Nat) (a b : Int) : Vs ((w.setCell ⟨r, k * 2, none⟩ (.int .i64 a)).setCell ⟨r, k * 2 + 1, none⟩ (.int .i64 b)) g r (L.set k (a, b)) :=
  ⟨by rw [List.length_set]; exact blk_far (blk_far h.blk h.gr _) h.gr _, blk_put (blk_put h.row _ _ rfl) _ _ (by rw [← scls_set]; simp)⟩
theorem Vs.put0 (h : Vs w g r L) {k : Nat} {x : Int × Int} (hx : L[k]? = some x) (a : Int) : Vs (w.setCell ⟨r, k * 2, none⟩ (.int .i64 a)) g r (L.set k (a, x.2)) := by
  refine ⟨by rw [List.length_set]; exact blk_far h.blk h.gr _, blk_put h.row _ _ ?_⟩
  rw [← scls_set]
  have := scls_at1 hx
  simp only [List.setIfInBounds_toArray]
  congr 1
  refine List.ext_getElem? fun n => ?_
  by_cases hn : n = k * 2 + 1
  · subst hn
    rw [List.getElem?_set_ne (by omega), this, List.getElem?_set_self (by rw [List.length_set]; exact (List.getElem?_eq_some_iff.1 this).1)]
  · rw [List.getElem?_set_ne (i := k * 2 + 1) (fun e => hn e.symm)]
end
theorem mod_set {w : World} (r k : Nat) (u : Value) : Mod (fun q => q = r) w (w.setCell ⟨r, k, none⟩ u) := Mod.setCell (p := ⟨r, k, none⟩) (Mod.refl (fun q => q = r) w) (.inl rfl) u

set_option maxHeartbeats 1000000 in
set_option maxRecDepth 100000 in
theorem next_out (g r : Nat) (L : List (Int × Int)) (i ev : Int) (w : World) (hI : Vs w g r L) (hi : i < 0 ∨ (L.length : Int) ≤ i) :
    Calls Try.prog 12 #[.pointer (some ⟨g, 0, none⟩), .int .i64 i, .int .i64 ev] w fun e w' => e = .returned (.bool false) ∧ Vs w' g r L ∧ Mod (fun q => q = r) w w' := by
  have hc := hI.cell
  have HI := Aside0.mk hI
  clear hI
  by_cases h0 : i < 0
  · have t0 : decide (i < 0) = true := decide_eq_true h0
    clear hi h0
    go_enter Try.func12, Try.ntmps12
    go_wp2
    go_ret
    exact ⟨rfl, HI.out, Mod.refl _ _⟩
  · have t0 : decide (i < 0) = false := decide_eq_false h0
    have t1 : decide ((L.length : Int) ≤ i) = true := decide_eq_true (by omega)
    clear hi h0
    go_enter Try.func12, Try.ntmps12
    go_wp2
    go_ret
    exact ⟨rfl, HI.out, Mod.refl _ _⟩

set_option maxHeartbeats 2000000 in
set_option maxRecDepth 100000 in
theorem next_in (g r : Nat) (L : List (Int × Int)) (k : Nat) (x : Int × Int) (ev : Int) (w : World) (hI : Vs w g r L) (hx : L[k]? = some x) :
    Calls Try.prog 12 #[.pointer (some ⟨g, 0, none⟩), .int .i64 (k : Int), .int .i64 ev] w fun e w' => e = .returned (.bool (nx L k ev).1) ∧ Vs w' g r (nx L k ev).2 ∧ Mod (fun q => q = r) w w' := by
  have hc := hI.cell
  have c0 := hI.cell0 hx
  have c1 := hI.cell1 hx
  have f0 := blk_frozen hI.row (k * 2)
  have f1 := blk_frozen hI.row (k * 2 + 1)
  have HI := Aside0.mk hI
  have HX := Aside0.mk hx
  have hk : k < L.length := (List.getElem?_eq_some_iff.1 hx).1
  have t0 : decide ((k : Int) < 0) = false := decide_eq_false (by omega)
  have t1 : decide ((L.length : Int) ≤ (k : Int)) = false := decide_eq_false (by omega)
  have t2 : decide ((k : Int) < (L.length : Int)) = true := decide_eq_true (by omega)
  have t3 : decide (0 ≤ (k : Int)) = true := decide_eq_true (by omega)
  have hnx : nx L k ev = if ev = 1 then (true, L.set k (0, wrap64 (x.2 + 1))) else if ev = 2 ∧ x.1 = 0 ∧ 0 < x.2 then (true, L.set k (1, x.2)) else if ev = 3 ∧ x.1 = 1 then (true, L.set k (2, x.2)) else (false, L) := by
    unfold nx
    rw [if_neg (by omega), Int.toNat_natCast, hx]
  clear hI hx
  by_cases e1 : ev = 1
  · rw [hnx, if_pos e1]
    have b1 : (ev == 1) = true := beq_iff_eq.2 e1
    clear e1 hnx
    go_enter Try.func12, Try.ntmps12
    go_wp2
    go_ret
    exact ⟨rfl, HI.out.put _ _ _, (mod_set _ _ _).trans (mod_set _ _ _) (fun q hq => .inl hq)⟩
  have b1 : (ev == 1) = false := beq_eq_false_iff_ne.2 e1
  rw [if_neg e1] at hnx
  clear e1
  by_cases e2 : ev = 2
  · have b2 : (ev == 2) = true := beq_iff_eq.2 e2
    have b3 : (ev == 3) = false := beq_eq_false_iff_ne.2 (by omega)
    by_cases s0 : x.1 = 0
    · have d0 : (x.1 == 0) = true := beq_iff_eq.2 s0
      by_cases p0 : 0 < x.2
      · have d1 : decide (0 < x.2) = true := decide_eq_true p0
        rw [hnx, if_pos ⟨e2, s0, p0⟩]
        clear e2 hnx s0 p0
        go_enter Try.func12, Try.ntmps12
        go_wp2
        go_ret
        exact ⟨rfl, HI.out.put0 HX.out _, mod_set _ _ _⟩
      · have d1 : decide (0 < x.2) = false := decide_eq_false p0
        rw [hnx, if_neg (fun h => p0 h.2.2), if_neg (fun h => by have := h.1; omega)]
        clear e2 hnx s0 p0
        go_enter Try.func12, Try.ntmps12
        go_wp2
        go_ret
        exact ⟨rfl, HI.out, Mod.refl _ _⟩
    · have d0 : (x.1 == 0) = false := beq_eq_false_iff_ne.2 s0
      rw [hnx, if_neg (fun h => s0 h.2.1), if_neg (fun h => by have := h.1; omega)]
      clear e2 hnx s0
      go_enter Try.func12, Try.ntmps12
      go_wp2
      go_ret
      exact ⟨rfl, HI.out, Mod.refl _ _⟩
  have b2 : (ev == 2) = false := beq_eq_false_iff_ne.2 e2
  rw [if_neg (fun h => e2 h.1)] at hnx
  clear e2
  by_cases e3 : ev = 3
  · have b3 : (ev == 3) = true := beq_iff_eq.2 e3
    by_cases s0 : x.1 = 1
    · have d0 : (x.1 == 1) = true := beq_iff_eq.2 s0
      rw [hnx, if_pos ⟨e3, s0⟩]
      clear e3 hnx s0
      go_enter Try.func12, Try.ntmps12
      go_wp2
      go_ret
      exact ⟨rfl, HI.out.put0 HX.out _, mod_set _ _ _⟩
    · have d0 : (x.1 == 1) = false := beq_eq_false_iff_ne.2 s0
      rw [hnx, if_neg (fun h => s0 h.2)]
      clear e3 hnx s0
      go_enter Try.func12, Try.ntmps12
      go_wp2
      go_ret
      exact ⟨rfl, HI.out, Mod.refl _ _⟩
  have b3 : (ev == 3) = false := beq_eq_false_iff_ne.2 e3
  rw [hnx, if_neg (fun h => e3 h.1)]
  clear e3 hnx
  go_enter Try.func12, Try.ntmps12
  go_wp2
  go_ret
  exact ⟨rfl, HI.out, Mod.refl _ _⟩
theorem nx_out {L : List (Int × Int)} {i ev : Int} (hi : i < 0 ∨ (L.length : Int) ≤ i) : nx L i ev = (false, L) := by
  unfold nx
  by_cases h : i < 0
  · rw [if_pos h]
  · rw [if_neg h, List.getElem?_eq_none (by omega)]
theorem next_calls (g r : Nat) (L : List (Int × Int)) (i ev : Int) (w : World) (hI : Vs w g r L) :
    Calls Try.prog 12 #[.pointer (some ⟨g, 0, none⟩), .int .i64 i, .int .i64 ev] w fun e w' => e = .returned (.bool (nx L i ev).1) ∧ Vs w' g r (nx L i ev).2 ∧ Mod (fun q => q = r) w w' := by
  by_cases hi : i < 0 ∨ (L.length : Int) ≤ i
  · rw [nx_out hi]
    exact next_out g r L i ev w hI hi
  · obtain ⟨k, rfl⟩ := Int.eq_ofNat_of_zero_le (show 0 ≤ i by omega)
    exact next_in g r L k _ ev w hI (List.getElem?_eq_getElem (by omega))
/-- What State and Inc tell. -/
def st (L : List (Int × Int)) (i : Int) : Int × Int := if i < 0 then (0, 0) else (L[i.toNat]?).getD (0, 0)
theorem below_cells {w w1 : World} {gb : Nat} {a b : Value} (hb : Below w.heap.size w w1) (hg : gb = w.heap.size) : Below w.heap.size w ((w1.setCell ⟨gb, 0, none⟩ a).setCell ⟨gb, 1, none⟩ b) := by
  have h := (Mod.of_below hb (fun _ => False)).mono (S2 := fun k => k = gb) (fun _ h => h.elim)
  exact ((h.setCell (p := ⟨gb, 0, none⟩) (.inl rfl) a).setCell (p := ⟨gb, 1, none⟩) (.inl rfl) b).below_all (fun k hk => by rw [hk, hg]; exact Nat.le_refl _)
set_option maxHeartbeats 2000000 in
set_option maxRecDepth 100000 in
theorem of_calls (g r : Nat) (L : List (Int × Int)) (i : Int) (w : World) (hI : Vs w g r L) :
    Calls Try.prog 30 #[.pointer (some ⟨g, 0, none⟩), .int .i64 i] w fun e w' => e = .returned (.agg (scl (st L i)).toArray) ∧ Below w.heap.size w w' := by
  have hu70 := Try.underlying70
  have HI := Aside0.mk hI
  clear hI
  by_cases h0 : i < 0
  · have t0 : decide (i < 0) = true := decide_eq_true h0
    have hst : st L i = (0, 0) := by unfold st; rw [if_pos h0]
    rw [hst]
    clear h0 hst
    go_enter Try.func30, Try.ntmps30
    go_wp2_with (refine gate_ (.alloc 70) rfl ?_; refine box_event ?hg (N := 4) ?hd (cs := (scl (0, 0)).toArray) (t := 70) ?hr ?_; (case hd => rfl); (case hg => rfl); (case hr => first | (go_simp; done) | (go_simp; rfl)); intro gb hgb w_1 hbox hb; have K := Aside0.mk hbox; have HB := Aside0.mk hb; have HG := Aside0.mk hgb; have k0 := (blk_cell hbox 0).trans (show (scl (0, 0)).toArray[0]? = some (Value.int .i64 0) from rfl); have k1 := (blk_cell hbox 1).trans (show (scl (0, 0)).toArray[1]? = some (Value.int .i64 0) from rfl); have q0 := blk_frozen hbox 0; have q1 := blk_frozen hbox 1; skip; clear hgb hbox hb)
    refine bodyPost_ret (results_cell_row rfl _ _ gb 70 (scl (0, 0)).toArray (0, 0) _ rfl (blk_put (cs := #[.int .i64 ((0, 0)).1, .int .i64 0]) (blk_put K.out 0 _ rfl) 1 _ rfl) Try.underlying70 rfl (by kernel_rfl)) rfl ?_
    exact ⟨rfl, below_cells HB.out HG.out⟩
  have t0 : decide (i < 0) = false := decide_eq_false h0
  by_cases h1 : (L.length : Int) ≤ i
  · have t1 : decide ((L.length : Int) ≤ i) = true := decide_eq_true h1
    have hst : st L i = (0, 0) := by unfold st; rw [if_neg h0, List.getElem?_eq_none (by omega)]; rfl
    rw [hst]
    clear h0 h1 hst
    go_enter Try.func30, Try.ntmps30
    go_wp2_with (refine gate_ (.alloc 70) rfl ?_; refine box_event ?hg (N := 4) ?hd (cs := (scl (0, 0)).toArray) (t := 70) ?hr ?_; (case hd => rfl); (case hg => rfl); (case hr => first | (go_simp; done) | (go_simp; rfl)); intro gb hgb w_1 hbox hb; have K := Aside0.mk hbox; have HB := Aside0.mk hb; have HG := Aside0.mk hgb; have k0 := (blk_cell hbox 0).trans (show (scl (0, 0)).toArray[0]? = some (Value.int .i64 0) from rfl); have k1 := (blk_cell hbox 1).trans (show (scl (0, 0)).toArray[1]? = some (Value.int .i64 0) from rfl); have q0 := blk_frozen hbox 0; have q1 := blk_frozen hbox 1; have hc := (HI.out.below hb).cell; clear hgb hbox hb)
    refine bodyPost_ret (results_cell_row rfl _ _ gb 70 (scl (0, 0)).toArray (0, 0) _ rfl (blk_put (cs := #[.int .i64 ((0, 0)).1, .int .i64 0]) (blk_put K.out 0 _ rfl) 1 _ rfl) Try.underlying70 rfl (by kernel_rfl)) rfl ?_
    exact ⟨rfl, below_cells HB.out HG.out⟩
  · obtain ⟨k, rfl⟩ := Int.eq_ofNat_of_zero_le (show 0 ≤ i by omega)
    obtain ⟨x, hx⟩ : ∃ x, L[k]? = some x := ⟨_, List.getElem?_eq_getElem (by omega)⟩
    have hk : k < L.length := (List.getElem?_eq_some_iff.1 hx).1
    have t1 : decide ((L.length : Int) ≤ (k : Int)) = false := decide_eq_false (by omega)
    have t2 : decide ((k : Int) < (L.length : Int)) = true := decide_eq_true (by omega)
    have t3 : decide (0 ≤ (k : Int)) = true := decide_eq_true (by omega)
    have hst : st L k = x := by unfold st; rw [if_neg h0, Int.toNat_natCast, hx]; rfl
    rw [hst]
    have HX := Aside0.mk hx
    clear h0 h1 hst hx
    go_enter Try.func30, Try.ntmps30
    go_wp2_with (refine gate_ (.alloc 70) rfl ?_; refine box_event ?hg (N := 4) ?hd (cs := (scl (0, 0)).toArray) (t := 70) ?hr ?_; (case hd => rfl); (case hg => rfl); (case hr => first | (go_simp; done) | (go_simp; rfl)); intro gb hgb w_1 hbox hb; have K := Aside0.mk hbox; have HB := Aside0.mk hb; have HG := Aside0.mk hgb; have k0 := (blk_cell hbox 0).trans (show (scl (0, 0)).toArray[0]? = some (Value.int .i64 0) from rfl); have k1 := (blk_cell hbox 1).trans (show (scl (0, 0)).toArray[1]? = some (Value.int .i64 0) from rfl); have q0 := blk_frozen hbox 0; have q1 := blk_frozen hbox 1; have hc := (HI.out.below hb).cell; have c0 := (HI.out.below hb).cell0 HX.out; have c1 := (HI.out.below hb).cell1 HX.out; clear hgb hbox hb)
    refine bodyPost_ret (results_cell_row rfl _ _ gb 70 (scl x).toArray (0, 0) _ rfl (blk_put (cs := #[.int .i64 (x).1, .int .i64 0]) (blk_put K.out 0 _ rfl) 1 _ rfl) Try.underlying70 rfl (by kernel_rfl)) rfl ?_
    exact ⟨rfl, below_cells HB.out HG.out⟩
set_option maxHeartbeats 1000000 in
set_option maxRecDepth 100000 in
theorem state_calls (g r : Nat) (L : List (Int × Int)) (i : Int) (w : World) (hI : Vs w g r L) :
    Calls Try.prog 13 #[.pointer (some ⟨g, 0, none⟩), .int .i64 i] w fun e w' => e = .returned (.int .i64 (st L i).1) ∧ Below w.heap.size w w' := by
  have HI := Aside0.mk hI
  clear hI
  have hfd : ∀ (a b : Int) (w : World), (Instr.field 70 (.agg #[.int .i64 a, .int .i64 b]) 0).run Try.prog w = .ok (.int .i64 a) w := fun _ _ _ => by kernel_rfl
  go_enter Try.func13, Try.ntmps13
  go_wp2_with (go_at_call 30; (with_reducible refine (of_calls g r L i _ HI.out).mono ?_); rintro e_1 w_1 ⟨rfl, hb⟩; simp only [scl])
  go_ret
  exact ⟨rfl, hb⟩
set_option maxHeartbeats 1000000 in
set_option maxRecDepth 100000 in
theorem inc_calls (g r : Nat) (L : List (Int × Int)) (i : Int) (w : World) (hI : Vs w g r L) :
    Calls Try.prog 14 #[.pointer (some ⟨g, 0, none⟩), .int .i64 i] w fun e w' => e = .returned (.int .i64 (st L i).2) ∧ Below w.heap.size w w' := by
  have HI := Aside0.mk hI
  clear hI
  have hfd : ∀ (a b : Int) (w : World), (Instr.field 70 (.agg #[.int .i64 a, .int .i64 b]) 1).run Try.prog w = .ok (.int .i64 b) w := fun _ _ _ => by kernel_rfl
  go_enter Try.func14, Try.ntmps14
  go_wp2_with (go_at_call 30; (with_reducible refine (of_calls g r L i _ HI.out).mono ?_); rintro e_1 w_1 ⟨rfl, hb⟩; simp only [scl])
  go_ret
  exact ⟨rfl, hb⟩
set_option maxHeartbeats 1000000 in
set_option maxRecDepth 100000 in
theorem slots_calls (g r : Nat) (L : List (Int × Int)) (w : World) (hI : Vs w g r L) :
    Calls Try.prog 15 #[.pointer (some ⟨g, 0, none⟩)] w fun e w' => e = .returned (.int .i64 (L.length : Int)) ∧ Below w.heap.size w w' := by
  have hc := hI.cell
  go_enter Try.func15, Try.ntmps15
  go_wp2
  go_ret
  exact ⟨rfl, Below.refl _ _⟩
end Go.Proofs.Ytnfnbcbbiaheeaa.Vw
