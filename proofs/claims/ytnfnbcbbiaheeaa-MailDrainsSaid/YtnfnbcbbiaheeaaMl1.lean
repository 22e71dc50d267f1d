/- Contracts of package mail: Put. -/
import Derived.Test.YtnfnbcbbiaheeaaLib2
import Derived.Test.YtnfnbcbbiaheeaaVPr
import Derived.Conc.LoneSelect
import Derived.Conc.LoneSelectN
import Derived.Outline
namespace Go.Proofs.Ytnfnbcbbiaheeaa.Ml
open Go.Conc Go.RowKit Go.Proofs.YtnfnbcbbiaheeaaW.PrintWords Go.Proofs.YtnfnbcbbiaheeaaW.PrintLast Go.Proofs.Ytnfnbcbbiaheeaa.Lib
/-- A frame. -/
structure Fr where
  f0 : Int
  f1 : Int
  f2 : Int
  f3 : Int
  f4 : Int
  f5 : Int
  f6 : ByteArray
  f7 : Int
  f8 : ByteArray
def z : Fr := ⟨0, 0, 0, 0, 0, 0, ⟨#[]⟩, 0, ⟨#[]⟩⟩
def cl (x : Fr) : List Value := [.int .i64 x.f0, .int .i64 x.f1, .int .i64 x.f2, .int .i64 x.f3, .int .i64 x.f4, .int .i64 x.f5, .string x.f6, .int .i64 x.f7, .string x.f8]
def fv (x : Fr) : Value := .agg (cl x).toArray
theorem cl_length (x : Fr) : (cl x).length = 9 := rfl
/-- A Box at block g whose channel lies at block c. -/
structure Bx (w : World) (g c cap : Nat) (xs : List Fr) : Prop where
  blk : w.heap[g]? = some (.cells #[.chan (some c)] 75 (0, 0))
  ch : ∃ s r, w.heap[c]? = some (.chan cap (xs.map fv).toArray false s r false)
  le : xs.length ≤ cap
section
variable {w W : World} {g c cap : Nat} {xs : List Fr}
theorem Bx.mod {S : Nat → Prop} (h : Bx w g c cap xs) (hm : Mod S w W) (h1 : ¬ S g) (h2 : ¬ S c) : Bx W g c cap xs := by
  obtain ⟨s, r, hc⟩ := h.ch
  exact ⟨hm.blk h.blk h1, ⟨s, r, hm.blk hc h2⟩, h.le⟩
theorem Bx.below (h : Bx w g c cap xs) (hb : Below w.heap.size w W) : Bx W g c cap xs := by
  obtain ⟨s, r, hc⟩ := h.ch
  exact ⟨(hb.block _ (blk_lt h.blk)).trans h.blk, ⟨s, r, (hb.block _ (blk_lt hc)).trans hc⟩, h.le⟩
theorem Bx.cell (h : Bx w g c cap xs) : w.cell? ⟨g, 0, none⟩ = some (.chan (some c)) := (blk_cell h.blk 0).trans rfl
theorem mod_chan (w : World) (c cap : Nat) (buf : Array Value) (cl : Bool) (s r : Nat) (tm : Bool) : Mod (fun k => k = c) w (w.setChan c cap buf cl s r tm) :=
  ⟨rfl, rfl, rfl, by simp [World.setChan], fun k _ hk => by simp only [World.setChan]; rw [Array.getElem?_setIfInBounds_ne (fun e => hk e.symm)]⟩
theorem Bx.gc (h : Bx w g c cap xs) : g ≠ c := by
  obtain ⟨s, r, hc⟩ := h.ch
  intro e
  have := h.blk
  rw [e, hc] at this
  cases this
theorem Bx.pushed (h : Bx w g c cap xs) {s r : Nat} (hc : w.heap[c]? = some (.chan cap (xs.map fv).toArray false s r false)) (f : Fr) (hl : xs.length < cap) : Bx (w.setChan c cap (xs.map fv ++ [fv f]).toArray false (s + 1) r false) g c cap (xs ++ [f]) :=
  ⟨(mod_chan w _ _ _ _ _ _ _).blk h.blk h.gc, ⟨s + 1, r, by rw [heap_setChan _ _ _ _ _ _ _ _ (blk_lt hc)]; simp⟩, by rw [List.length_append]; exact hl⟩
theorem Bx.popped {x : Fr} (h : Bx w g c cap (x :: xs)) {s r : Nat} (hc : w.heap[c]? = some (.chan cap ((x :: xs).map fv).toArray false s r false)) : Bx (w.setChan c cap (((x :: xs).map fv).toArray.extract 1 ((x :: xs).map fv).toArray.size) false s (r + 1) false) g c cap xs :=
  ⟨(mod_chan w _ _ _ _ _ _ _).blk h.blk h.gc, ⟨s, r + 1, by rw [heap_setChan _ _ _ _ _ _ _ _ (blk_lt hc)]; simp [List.take_of_length_le]⟩, Nat.le_of_succ_le h.le⟩
end
set_option maxRecDepth 100000 in
set_option maxHeartbeats 1000000 in
theorem put_room (g c cap : Nat) (xs : List Fr) (f : Fr) (w : World) (hI : Bx w g c cap xs) (hl : xs.length < cap) :
    Calls Try.prog 21 #[.pointer (some ⟨g, 0, none⟩), .agg (cl f).toArray] w fun e w' => e = .returned (.bool true) ∧ Bx w' g c cap (xs ++ [f]) ∧ Mod (fun k => k = c) w w' := by
  refine calls_of_loneTo fun cs => ?_
  have hu44 := Try.underlying44
  have e : Frame.enter Try.prog 21 #[.pointer (some ⟨g, 0, none⟩), .agg (cl f).toArray] .normal = (base 21).at ⟨#[.pointer (some ⟨g, 0, none⟩), .agg (cl f).toArray, undef, undef, undef, undef, undef, undef, undef, undef, undef, undef, undef], []⟩ [.code (Try.f21.body.getD .skip)] := by
    simp [Frame.enter, Frame.at, Try.func21, base, Try.f21]
  rw [e]
  clear e
  simp only [cl]
  refine LoneTo.goes (n := 40) ?_
  simp only [Try.f21, Option.getD_some]
  s_c stepG_seq
  s_reg
  s_op
  s_op
  obtain ⟨W, hW⟩ : ∃ W, W = w.alloc (.cells #[.int .i64 f.f0, .int .i64 f.f1, .int .i64 f.f2, .int .i64 f.f3, .int .i64 f.f4, .int .i64 f.f5, .string f.f6, .int .i64 f.f7, .string f.f8] 44) := ⟨_, rfl⟩
  have hWb : W.heap[w.heap.size]? = some (.cells #[.int .i64 f.f0, .int .i64 f.f1, .int .i64 f.f2, .int .i64 f.f3, .int .i64 f.f4, .int .i64 f.f5, .string f.f6, .int .i64 f.f7, .string f.f8] 44 (0, 0)) := by rw [hW]; exact blk_new w _
  have hB : Below w.heap.size w W := by rw [hW]; exact below_alloc (Below.refl _ _) _
  have hIW := hI.below hB
  rw [← hW]
  clear hW
  have hc := hIW.cell
  obtain ⟨s, r, hch⟩ := hIW.ch
  have k0 := blk_cell hWb 0
  have k1 := blk_cell hWb 1
  have k2 := blk_cell hWb 2
  have k3 := blk_cell hWb 3
  have k4 := blk_cell hWb 4
  have k5 := blk_cell hWb 5
  have k6 := blk_cell hWb 6
  have k7 := blk_cell hWb 7
  have k8 := blk_cell hWb 8
  simp at k0 k1 k2 k3 k4 k5 k6 k7 k8
  s_c stepG_region_end
  s_c stepG_seq
  s_c stepG_seq
  s_reg
  s_op
  s_op
  s_op
  s_op
  s_c stepG_region_end
  s_reg
  s_op
  s_c stepG_region_end
  s_c stepG_seq
  s_reg
  s_stop
  refine LoneTo.step (step_lone_select_send_room (c := c) (cap := cap) (buf := (xs.map fv).toArray) (s := s) (r := r) (tm := false) (stepG_comm (cases := #[scase c (fv f) (fv z)]) (blocking := false) (shape := .select) (w' := W) rfl rfl (by decide) (by simp [go_sem, execOp, scase, Act.eval, fv, cl, z])) hch (by simpa using hl)) ?_
  rw [Frame.finish_at]
  walk_nrm
  refine LoneTo.goes (n := 30) ?_
  s_op
  s_op
  s_c stepG_region_end
  s_c stepG_block
  s_cond true
  s_c stepG_seq
  s_reg
  s_op
  s_c stepG_region_end
  s_c stepG_ret'
  s_stop
  refine LoneTo.done ⟨.returned (.bool true), _, rfl, ⟨rfl, hIW.pushed hch f hl, ((Mod.of_below hB _).trans (mod_chan W _ _ _ _ _ _ _) (fun k hk => .inl hk))⟩, rfl, rfl, rfl, rfl, _, Try.func21, by simp [results, Try.f21, Frame.at]⟩
set_option maxRecDepth 100000 in
set_option maxHeartbeats 1000000 in
theorem put_full (g c cap : Nat) (xs : List Fr) (f : Fr) (w : World) (hI : Bx w g c cap xs) (hl : xs.length = cap) :
    Calls Try.prog 21 #[.pointer (some ⟨g, 0, none⟩), .agg (cl f).toArray] w fun e w' => e = .returned (.bool false) ∧ Bx w' g c cap xs ∧ Mod (fun k => k = c) w w' := by
  refine calls_of_loneTo fun cs => ?_
  have hu44 := Try.underlying44
  have e : Frame.enter Try.prog 21 #[.pointer (some ⟨g, 0, none⟩), .agg (cl f).toArray] .normal = (base 21).at ⟨#[.pointer (some ⟨g, 0, none⟩), .agg (cl f).toArray, undef, undef, undef, undef, undef, undef, undef, undef, undef, undef, undef], []⟩ [.code (Try.f21.body.getD .skip)] := by
    simp [Frame.enter, Frame.at, Try.func21, base, Try.f21]
  rw [e]
  clear e
  simp only [cl]
  refine LoneTo.goes (n := 40) ?_
  simp only [Try.f21, Option.getD_some]
  s_c stepG_seq
  s_reg
  s_op
  s_op
  obtain ⟨W, hW⟩ : ∃ W, W = w.alloc (.cells #[.int .i64 f.f0, .int .i64 f.f1, .int .i64 f.f2, .int .i64 f.f3, .int .i64 f.f4, .int .i64 f.f5, .string f.f6, .int .i64 f.f7, .string f.f8] 44) := ⟨_, rfl⟩
  have hWb : W.heap[w.heap.size]? = some (.cells #[.int .i64 f.f0, .int .i64 f.f1, .int .i64 f.f2, .int .i64 f.f3, .int .i64 f.f4, .int .i64 f.f5, .string f.f6, .int .i64 f.f7, .string f.f8] 44 (0, 0)) := by rw [hW]; exact blk_new w _
  have hB : Below w.heap.size w W := by rw [hW]; exact below_alloc (Below.refl _ _) _
  have hIW := hI.below hB
  rw [← hW]
  clear hW
  have hc := hIW.cell
  obtain ⟨s, r, hch⟩ := hIW.ch
  have k0 := blk_cell hWb 0
  have k1 := blk_cell hWb 1
  have k2 := blk_cell hWb 2
  have k3 := blk_cell hWb 3
  have k4 := blk_cell hWb 4
  have k5 := blk_cell hWb 5
  have k6 := blk_cell hWb 6
  have k7 := blk_cell hWb 7
  have k8 := blk_cell hWb 8
  simp at k0 k1 k2 k3 k4 k5 k6 k7 k8
  s_c stepG_region_end
  s_c stepG_seq
  s_c stepG_seq
  s_reg
  s_op
  s_op
  s_op
  s_op
  s_c stepG_region_end
  s_reg
  s_op
  s_c stepG_region_end
  s_c stepG_seq
  s_reg
  s_stop
  refine LoneTo.step (step_lone_select_send_full (c := c) (cap := cap) (buf := (xs.map fv).toArray) (s := s) (r := r) (tm := false) (stepG_comm (cases := #[scase c (fv f) (fv z)]) (blocking := false) (shape := .select) (w' := W) rfl rfl (by decide) (by simp [go_sem, execOp, scase, Act.eval, fv, cl, z])) hch (by simpa using Nat.le_of_eq hl.symm)) ?_
  rw [Frame.finish_at]
  walk_nrm
  refine LoneTo.goes (n := 30) ?_
  s_op
  s_op
  s_c stepG_region_end
  s_c stepG_block
  s_cond false
  s_c stepG_seq
  s_reg
  s_op
  s_c stepG_region_end
  s_c stepG_ret'
  s_stop
  refine LoneTo.done ⟨.returned (.bool false), _, rfl, ⟨rfl, hIW, Mod.of_below hB _⟩, rfl, rfl, rfl, rfl, _, Try.func21, by simp [results, Try.f21, Frame.at]⟩
end Go.Proofs.Ytnfnbcbbiaheeaa.Ml
