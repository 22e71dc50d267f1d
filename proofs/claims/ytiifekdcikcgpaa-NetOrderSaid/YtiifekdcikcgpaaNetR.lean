/- Contracts of the document's own Net (package depotref9): Send. -/
import Derived.Test.YtiifekdcikcgpaaNetF
import Derived.Deep.RegionLaw
namespace Go.Proofs.Ytiifekdcikcgpaa.Net
open Go.RowKit Go.Proofs.YtiifekdcikcgpaaW.PrintWords Go.Proofs.YtiifekdcikcgpaaW.PrintLast Go.Proofs.Ytiifekdcikcgpaa.Lib
/-- The document's own Net at block g whose frames are xs; v: its slice. -/
structure RIs (w : World) (B g : Nat) (v : Value) (xs : List Fr) : Prop where
  blk : w.heap[g]? = some (.cells #[v] 44 (0, 0))
  ge : B ≤ g
  row : w.ownsRow B 32 9 v xs.length (cls xs)
theorem RIs.below {W w1 : World} {B g : Nat} {v : Value} {xs : List Fr} (h : RIs W B g v xs) (hb : Below W.heap.size W w1) : RIs w1 B g v xs :=
  ⟨(hb.block _ (blk_lt h.blk)).trans h.blk, h.ge, pw_own_below h.row hb⟩
theorem RIs.mod {S : Nat → Prop} {W w1 : World} {B g : Nat} {v : Value} {xs : List Fr} (h : RIs W B g v xs) (hm : Mod S W w1) (hg : ¬ S g) (hv : ∀ k, v.ownBlock = some k → ¬ S k) : RIs w1 B g v xs :=
  ⟨hm.blk h.blk hg, h.ge, hm.own h.row hv⟩
/-- A block that is none of the net's. -/
theorem RIs.mod1 {W w1 : World} {B g gb : Nat} {v : Value} {xs : List Fr} (h : RIs W B g v xs) (hm : Mod (fun k => k = gb) W w1) (hg : g ≠ gb) (hv : v.ownBlock ≠ some gb) : RIs w1 B g v xs :=
  h.mod hm hg (fun k hk hS => hv (by rw [hk, hS]))
theorem RIs.range {W : World} {B g b n c : Nat} {xs : List Fr} (h : RIs W B g (.slice (some ⟨b, 0, none⟩) n c) xs) (k : Nat) (x : Fr) (hx : xs[k]? = some x) : W.rangeAt b (k * 9) (cl x) := by
  have hn : n = xs.length := by
    rcases h.row.2 with ⟨h1, _⟩ | ⟨_, _, _, h1, _⟩
    · simp at h1
    · injection h1
  subst hn
  have hk := (List.getElem?_eq_some_iff.1 hx).1
  refine range_of_own h.row _ _ (fun j u hu => flat_at cl 9 cl_length xs k x hx j u hu) ?_
  rw [cl_length]; omega
theorem RIs.some_ {W : World} {B g : Nat} {v : Value} {xs : List Fr} (h : RIs W B g v xs) (hp : 0 < xs.length) : ∃ b c, v = .slice (some ⟨b, 0, none⟩) xs.length c ∧ B ≤ b := by
  obtain ⟨b, c, h1, h2, _⟩ := h.row.form hp
  exact ⟨b, c, h1, h2⟩
theorem RIs.lt {W : World} {B g : Nat} {v : Value} {xs : List Fr} (h : RIs W B g v xs) : ∀ k, v.ownBlock = some k → k < W.heap.size := fun k hk => own_lt h.row k hk
theorem RIs.row_ne {W : World} {B g : Nat} {v : Value} {xs : List Fr} (h : RIs W B g v xs) : v.ownBlock ≠ some g := fun e => own_ne h.row h.blk (by decide) e.symm
theorem RIs.grow {W w1 : World} {B g : Nat} {v : Value} {xs : List Fr} (h : RIs W B g v xs) (hg : W.drew.grownBy w1 v.ownBlock) : w1.heap[g]? = some (.cells #[v] 44 (0, 0)) := blk_grown (w := W.drew) h.blk hg (own_ne h.row h.blk (by decide))

theorem RIs.put {w1 : World} {B g n1 : Nat} {v v1 : Value} {ys : List Fr} {cs : List Value} (h : w1.ownsRow B 32 9 v1 n1 cs) (hb : w1.heap[g]? = some (.cells #[v] 44 (0, 0))) (ge : B ≤ g) (hn : ys.length = n1) (hc : cls ys = cs) : RIs (w1.setCell ⟨g, 0, none⟩ v1) B g v1 ys := by
  subst hn hc
  exact ⟨blk_put hb 0 v1 rfl, ge, own_setCell h (own_ne h hb (by decide)) v1⟩

set_option maxHeartbeats 1000000 in
set_option maxRecDepth 100000 in
theorem rsend_room (B g : Nat) (v : Value) (xs : List Fr) (f : Fr) (w0 w : World) (hI : RIs w B g v xs) (HB : Below B w0 w) (hl : xs.length < 4000) :
    Calls Try.prog 26 #[.pointer (some ⟨g, 0, none⟩), .agg (cl f).toArray] w fun e w' => e = .returned (.bool true) ∧
      ∃ v', RIs w' B g v' (xs ++ [f]) ∧ Mod (fun k => k = g ∨ some k = v.ownBlock) w w' ∧ (v'.ownBlock = v.ownBlock ∨ ∃ b, v'.ownBlock = some b ∧ w.heap.size ≤ b) := by
  have hu32 := Try.underlying32
  obtain ⟨A, c, rfl⟩ := own_slice hI.row
  have hc0 := (blk_cell hI.blk 0).trans (show #[Value.slice A xs.length c][0]? = some (Value.slice A xs.length c) from rfl)
  have hlt : decide (4000 ≤ (xs.length : Int)) = false := decide_eq_false (by omega)
  have hg := blk_lt hI.blk
  simp only [cl]
  go_enter Try.func26, Try.ntmps26
  go_wp2_with fail
  obtain ⟨W, hW⟩ : ∃ W, W = w.alloc (.cells #[.int .i64 f.f0, .int .i64 f.f1, .int .i64 f.f2, .int .i64 f.f3, .int .i64 f.f4, .int .i64 f.f5, .string f.f6, .int .i64 f.f7, .string f.f8] 32) := ⟨_, rfl⟩
  have hWb : W.heap[w.heap.size]? = some (.cells #[.int .i64 f.f0, .int .i64 f.f1, .int .i64 f.f2, .int .i64 f.f3, .int .i64 f.f4, .int .i64 f.f5, .string f.f6, .int .i64 f.f7, .string f.f8] 32 (0, 0)) := by rw [hW]; exact blk_new w _
  have hM : Mod (fun k => k = g ∨ some k = (Value.slice A xs.length c).ownBlock) w W := by rw [hW]; exact (Mod.refl _ _).alloc _
  have hIW : RIs W B g (.slice A xs.length c) xs := ⟨by rw [hW]; exact blk_alloc hI.blk _, hI.ge, by rw [hW]; exact hI.row.alloc _⟩
  have HBW : Below B w0 W := by rw [hW]; exact HB.alloc (by have := hI.ge; omega) _
  rw [← hW]
  clear hW hc0
  have hc0 := (blk_cell hIW.blk 0).trans (show #[Value.slice A xs.length c][0]? = some (Value.slice A xs.length c) from rfl)
  obtain ⟨gb, hgb⟩ : ∃ gb, gb = w.heap.size := ⟨_, rfl⟩
  rw [← hgb] at hWb ⊢
  have k0 := (blk_cell hWb 0)
  have k1 := (blk_cell hWb 1)
  have k2 := (blk_cell hWb 2)
  have k3 := (blk_cell hWb 3)
  have k4 := (blk_cell hWb 4)
  have k5 := (blk_cell hWb 5)
  have k6 := (blk_cell hWb 6)
  have k7 := (blk_cell hWb 7)
  have k8 := (blk_cell hWb 8)
  simp at k0 k1 k2 k3 k4 k5 k6 k7 k8
  have HIW := Aside0.mk hIW
  have HM := Aside0.mk hM
  have HBW' := Aside0.mk HBW
  have HG := Aside0.mk hgb
  clear hIW hM HBW hI HB hgb
  have hca := (blk_cell (blk_alloc HIW.out.blk (.cells #[.int .i64 f.f0, .int .i64 f.f1, .int .i64 f.f2, .int .i64 f.f3, .int .i64 f.f4, .int .i64 f.f5, .string f.f6, .int .i64 f.f7, .string f.f8] 32)) 0).trans (show #[Value.slice A xs.length c][0]? = some (Value.slice A xs.length c) from rfl)
  have S1 : Aside0 (B ≤ W.drew.heap.size) := ⟨by have h1 := HIW.out.ge; have h2 := blk_lt HIW.out.blk; show B ≤ W.heap.size; omega⟩
  have S2 : Aside0 ((xs.length + 1) * 88 ≤ 140737488355328) := ⟨by omega⟩
  go_region_law ((refine step_append_cells (W := W.drew) (w0 := w0) B rfl (.tmp 15) (.tmp 17) 38 32 _ 9 88 rfl Try.underlying38 Try.info32 rfl (by decide) (by decide) (.slice A xs.length c) xs.length (cls xs) (cl f) rfl rfl rfl (cl_one f) HIW.out.row HBW'.out.drew S1.out S2.out ?_); (intro v1 w1 hown1 hb1 hg1 hat1; obtain ⟨A1, c1, rfl⟩ := own_slice hown1; have hblk1 := HIW.out.grow hg1; have HX := Aside0.mk (show w1.ownsRow B 32 9 (.slice A1 (xs.length + 1) c1) (xs.length + 1) (cls xs ++ cl f) ∧ Below B w0 w1 ∧ W.drew.grownBy w1 (Value.slice A xs.length c).ownBlock ∧ ((Value.slice A1 (xs.length + 1) c1).ownBlock = (Value.slice A xs.length c).ownBlock ∨ ∃ b, (Value.slice A1 (xs.length + 1) c1).ownBlock = some b ∧ W.heap.size ≤ b) ∧ w1.heap[g]? = some (.cells #[.slice A xs.length c] 44 (0, 0)) from ⟨hown1, hb1, hg1, hat1, hblk1⟩); have hcs := (blk_cell hblk1 0).trans (show #[Value.slice A xs.length c][0]? = some (Value.slice A xs.length c) from rfl); have hfs := blk_frozen hblk1 0; clear hown1 hb1 hg1 hat1 hblk1))
  all_goals
    go_wp2
    go_ret
    exact ⟨rfl, _, RIs.put HX.out.1 HX.out.2.2.2.2 HIW.out.ge (by simp) (by simp [cls]), ((HM.out.drew.grown HX.out.2.2.1 (fun k h => .inl (.inr h.symm))).setCell (.inl (.inl rfl)) _), HX.out.2.2.2.1.imp id (fun ⟨b, h1, h2⟩ => ⟨b, h1, Nat.le_trans HM.out.size h2⟩)⟩
set_option maxHeartbeats 1000000 in
set_option maxRecDepth 100000 in
theorem rsend_full (B g : Nat) (v : Value) (xs : List Fr) (f : Fr) (w : World) (hI : RIs w B g v xs) (hl : 4000 ≤ xs.length) :
    Calls Try.prog 26 #[.pointer (some ⟨g, 0, none⟩), .agg (cl f).toArray] w fun e w' => e = .returned (.bool false) ∧ Below w.heap.size w w' := by
  have hu32 := Try.underlying32
  obtain ⟨A, c, rfl⟩ := own_slice hI.row
  have hc0 := (blk_cell hI.blk 0).trans (show #[Value.slice A xs.length c][0]? = some (Value.slice A xs.length c) from rfl)
  have hlt : decide (4000 ≤ (xs.length : Int)) = true := decide_eq_true (by omega)
  have hg := blk_lt hI.blk
  simp only [cl]
  go_enter Try.func26, Try.ntmps26
  go_wp2
  go_ret
  exact ⟨rfl, below_alloc (Below.refl _ _) _⟩
/-- Send, room or not. -/
theorem rsend_calls (B g : Nat) (v : Value) (xs : List Fr) (f : Fr) (w0 w : World) (hI : RIs w B g v xs) (HB : Below B w0 w) :
    Calls Try.prog 26 #[.pointer (some ⟨g, 0, none⟩), .agg (cl f).toArray] w fun e w' => e = .returned (.bool (decide (xs.length < 4000))) ∧
      ∃ v', RIs w' B g v' (if xs.length < 4000 then xs ++ [f] else xs) ∧ Mod (fun k => k = g ∨ some k = v.ownBlock) w w' ∧ (v'.ownBlock = v.ownBlock ∨ ∃ b, v'.ownBlock = some b ∧ w.heap.size ≤ b) := by
  by_cases h : xs.length < 4000
  · rw [if_pos h, decide_eq_true h]
    exact rsend_room B g v xs f w0 w hI HB h
  · rw [if_neg h, decide_eq_false h]
    refine (rsend_full B g v xs f w hI (by omega)).mono ?_
    rintro e w' ⟨rfl, hb⟩
    exact ⟨rfl, v, hI.below hb, Mod.of_below hb _, .inl rfl⟩
end Go.Proofs.Ytiifekdcikcgpaa.Net
