/- Contracts of package mail: Take, Len, New. -/
import Derived.Test.YtnfnbcbbiaheeaaMl1
import Derived.Laws.Tables
namespace Go.Proofs.Ytnfnbcbbiaheeaa.Ml
open Go.Conc Go.RowKit Go.Proofs.YtnfnbcbbiaheeaaW.PrintWords Go.Proofs.YtnfnbcbbiaheeaaW.PrintLast Go.Proofs.Ytnfnbcbbiaheeaa.Lib
section
variable {P : Program} {o : Oper} {a : Act} {w : World}
theorem run_store_op (ty : TypeId) (x y : Operand) (ho : o.op = .store ty x y) (g : Nat) (cells : Array Value) (hx : a.eval x = .pointer (some ⟨g, 0, none⟩)) (hy : a.eval y = .agg cells)
    (t : TypeId) (old : Array Value) (hg : w.heap[g]? = some (.cells old t (0, 0))) (hi : (P.info? ty).map (·.size) = some cells.size) (hold : old.size = cells.size) (h1 : cells.all (·.oneCell') = true) :
    (execOp a.eval o).run P w = .ok .skip (w.setRow g cells) := by
  unfold execOp
  simp only [ho, hx, hy, Instr.storeAt, Instr.sureAddr, Sem.run_bind, Sem.run_pure, Result.andThen_ok, run_storeVar_row w g t ty old cells hg hi hold h1]
theorem run_load_op (ty : TypeId) (x : Operand) (ho : o.op = .load ty x) (g : Nat) (hx : a.eval x = .pointer (some ⟨g, 0, none⟩)) (t : TypeId) (cs : Array Value) (d : TypeDesc) (hg : w.heap[g]? = some (.cells cs t (0, 0)))
    (hu : P.underlying ty = some d) (hd : (match d with | .struct _ | .array _ _ => true | _ => false) = true) (hi : (P.info? ty).map (·.size) = some cs.size) :
    (execOp a.eval o).run P w = .ok (.value (.agg cs)) w := by
  unfold execOp
  simp only [ho, hx, Instr.loadAt, Instr.sureAddr, Sem.run_bind, Sem.run_pure, Result.andThen_ok, run_loadVar_row w g t ty cs (0, 0) d hg hu hd hi]
end
theorem row_mod {W : World} (g : Nat) (old cells : Array Value) (t : TypeId) (hg : W.heap[g]? = some (.cells old t (0, 0))) : (W.setRow g cells).heap[g]? = some (.cells cells t (0, 0)) ∧ Mod (fun k => k = g) W (W.setRow g cells) :=
  ⟨setRow_heap W g old cells t (0, 0) hg, ⟨rfl, rfl, rfl, by simp [World.setRow], fun k _ hk => setRow_other W g k cells hk⟩⟩
theorem cl_all (x : Fr) : (cl x).toArray.all (·.oneCell') = true := by simp [cl, Value.oneCell']
theorem dd : (.agg #[.int .i64 0, .int .i64 0, .int .i64 0, .int .i64 0, .int .i64 0, .int .i64 0, .string ⟨#[]⟩, .int .i64 0, .string ⟨#[]⟩] : Value) = fv z := rfl
theorem zero44 (w : World) : (zeroValue 44).run Try.prog w = .ok (fv z) w := by kernel_rfl
theorem res23 (g : Nat) (x : Fr) (b : Bool) (tmps : Array Value) (w : World) (hp : tmps.getD 2 undef = .pointer (some ⟨g, 0, none⟩)) (hb : tmps.getD 3 undef = .bool b) (hg : w.heap[g]? = some (.cells (cl x).toArray 44 (0, 0))) :
    (results Try.f23 tmps).run Try.prog w = .ok (.tuple #[.agg (cl x).toArray, .bool b]) w := by
  rw [results_ct (p := 2) (u := 3) (ty := 44) rfl tmps w g 44 (cl x).toArray (0, 0) _ hp hg Try.underlying44 rfl (by kernel_rfl), hb]
set_option maxRecDepth 100000 in
set_option maxHeartbeats 1000000 in
theorem take_some (g c cap : Nat) (x : Fr) (xs : List Fr) (w : World) (hI : Bx w g c cap (x :: xs)) :
    Calls Try.prog 23 #[.pointer (some ⟨g, 0, none⟩)] w fun e w' => e = .returned (.tuple #[.agg (cl x).toArray, .bool true]) ∧ Bx w' g c cap xs ∧ Mod (fun k => k = c) w w' := by
  refine calls_of_loneTo fun cs => ?_
  have hu44 := Try.underlying44
  have e : Frame.enter Try.prog 23 #[.pointer (some ⟨g, 0, none⟩)] .normal = (base 23).at ⟨#[.pointer (some ⟨g, 0, none⟩), undef, undef, undef, undef, undef, undef, undef, undef, undef, undef, undef, undef, undef, undef], []⟩ [.code (Try.f23.body.getD .skip)] := by
    simp [Frame.enter, Frame.at, Try.func23, base, Try.f23]
  rw [e]
  clear e
  refine LoneTo.goes (n := 40) ?_
  simp only [Try.f23, Option.getD_some]
  s_c stepG_seq
  s_reg
  s_op
  obtain ⟨W, hW⟩ : ∃ W, W = w.alloc (.cells (cl z).toArray 44) := ⟨_, rfl⟩
  have hWb : W.heap[w.heap.size]? = some (.cells (cl z).toArray 44 (0, 0)) := by rw [hW]; exact blk_new w _
  have hB : Below w.heap.size w W := by rw [hW]; exact below_alloc (Below.refl _ _) _
  have hIW := hI.below hB
  rw [show (w.alloc (.cells #[.int .i64 0, .int .i64 0, .int .i64 0, .int .i64 0, .int .i64 0, .int .i64 0, .string ⟨#[]⟩, .int .i64 0, .string ⟨#[]⟩] 44)) = W from hW.symm]
  clear hW
  have hc := hIW.cell
  obtain ⟨s, r, hch⟩ := hIW.ch
  s_op
  s_c stepG_region_end
  s_c stepG_seq
  s_reg
  s_op
  s_op
  s_op
  s_op
  s_c stepG_region_end
  s_c stepG_seq
  s_reg
  s_stop
  refine LoneTo.step (step_lone_select_recv_buf (c := c) (z := fv z) (stepG_comm (cases := #[rcase c (fv z)]) (blocking := false) (shape := .select) (w' := W) rfl rfl (by decide) (by simp [go_sem, execOp, rcase, Act.eval, fv, cl, z])) hch (by simp)) ?_
  rw [Frame.finish_at]
  have hI1 := hIW.popped hch
  have hM1 := mod_chan W c cap (((x :: xs).map fv).toArray.extract 1 ((x :: xs).map fv).toArray.size) false s (r + 1) false
  obtain ⟨W1, hW1⟩ : ∃ W1, W1 = W.setChan c cap (((x :: xs).map fv).toArray.extract 1 ((x :: xs).map fv).toArray.size) false s (r + 1) false := ⟨_, rfl⟩
  rw [← hW1] at hI1 hM1 ⊢
  clear hW1
  have gc : w.heap.size ≠ c := fun e => by rw [← e, hWb] at hch; cases hch
  have hb1 := hM1.blk hWb gc
  rw [show ((x :: xs).map fv).toArray.getD 0 undef = fv x from rfl]
  walk_nrm
  refine LoneTo.goes (n := 40) ?_
  s_op
  s_op
  s_c stepG_region_end
  s_c stepG_block
  s_cond true
  s_c stepG_seq
  s_reg
  s_op
  s_op
  obtain ⟨W2, hW2⟩ : ∃ W2, W2 = W1.alloc (.cells (cl z).toArray 44) := ⟨_, rfl⟩
  have hb2 : W2.heap[W1.heap.size]? = some (.cells (cl z).toArray 44 (0, 0)) := by rw [hW2]; exact blk_new W1 _
  have hB2 : Below W1.heap.size W1 W2 := by rw [hW2]; exact below_alloc (Below.refl _ _) _
  have hI2 := hI1.below hB2
  have hb1' := (hB2.block _ (blk_lt hb1)).trans hb1
  have n1 := Nat.ne_of_lt (blk_lt hb1)
  rw [show (W1.alloc (.cells #[.int .i64 0, .int .i64 0, .int .i64 0, .int .i64 0, .int .i64 0, .int .i64 0, .string ⟨#[]⟩, .int .i64 0, .string ⟨#[]⟩] 44)) = W2 from hW2.symm]
  clear hW2
  s_in
  refine goes_oper_k rfl rfl (by decide) (fun K hK => ?_)
  rw [run_store_op 44 (.tmp 4) (.tmp 13) rfl W1.heap.size (cl x).toArray rfl rfl 44 (cl z).toArray hb2 (by kernel_rfl) rfl (cl_all x)]
  refine hK _ _ ⟨trivial, ?_⟩
  clear hK K
  obtain ⟨hb3, hM3⟩ := row_mod W1.heap.size (cl z).toArray (cl x).toArray 44 hb2
  obtain ⟨W3, hW3⟩ : ∃ W3, W3 = W2.setRow W1.heap.size (cl x).toArray := ⟨_, rfl⟩
  rw [← hW3] at hb3 hM3 ⊢
  clear hW3
  have hb3' := hM3.blk hb1' (fun e => n1 e)
  s_c stepG_region_end
  s_c stepG_seq
  s_reg
  s_in
  refine goes_oper_k rfl rfl (by decide) (fun K hK => ?_)
  rw [run_load_op 44 (.tmp 4) rfl W1.heap.size rfl 44 (cl x).toArray _ hb3 hu44 rfl (by kernel_rfl)]
  refine hK _ _ ⟨trivial, ?_⟩
  clear hK K
  s_in
  refine goes_oper_k rfl rfl (by decide) (fun K hK => ?_)
  rw [run_store_op 44 (.tmp 2) (.tmp 14) rfl w.heap.size (cl x).toArray rfl rfl 44 (cl z).toArray hb3' (by kernel_rfl) rfl (cl_all x)]
  refine hK _ _ ⟨trivial, ?_⟩
  clear hK K
  obtain ⟨hb4, hM4⟩ := row_mod w.heap.size (cl z).toArray (cl x).toArray 44 hb3'
  obtain ⟨W4, hW4⟩ : ∃ W4, W4 = W3.setRow w.heap.size (cl x).toArray := ⟨_, rfl⟩
  rw [← hW4] at hb4 hM4 ⊢
  clear hW4
  s_op
  s_c stepG_region_end
  s_c stepG_ret'
  s_stop
  have hg := blk_lt hI.blk
  have hcw : c < w.heap.size := by obtain ⟨_, _, h⟩ := hI.ch; exact blk_lt h
  have hs1 := hM1.size
  have hs0 := hB.size
  have hM : Mod (fun k => k = c) w W4 := ((((Mod.of_below hB _).trans hM1 (fun k hk => .inl hk)).then_below hB2).trans hM3 (fun k hk => .inr (by rw [hk]; omega))).trans hM4 (fun k hk => .inr (Nat.le_of_eq hk.symm))
  have hI4 := (hI2.mod hM3 (fun e => by omega) (fun e => by omega)).mod hM4 (fun e => by omega) (fun e => by omega)
  exact LoneTo.done ⟨.returned (.tuple #[.agg (cl x).toArray, .bool true]), _, rfl, ⟨rfl, hI4, hM⟩, rfl, rfl, rfl, rfl, _, Try.func23, res23 w.heap.size x true _ W4 rfl rfl hb4⟩
set_option maxRecDepth 100000 in
set_option maxHeartbeats 1000000 in
theorem take_none (g c cap : Nat) (w : World) (hI : Bx w g c cap []) :
    Calls Try.prog 23 #[.pointer (some ⟨g, 0, none⟩)] w fun e w' => e = .returned (.tuple #[.agg (cl z).toArray, .bool false]) ∧ Bx w' g c cap [] ∧ Mod (fun k => k = c) w w' := by
  refine calls_of_loneTo fun cs => ?_
  have hu44 := Try.underlying44
  have e : Frame.enter Try.prog 23 #[.pointer (some ⟨g, 0, none⟩)] .normal = (base 23).at ⟨#[.pointer (some ⟨g, 0, none⟩), undef, undef, undef, undef, undef, undef, undef, undef, undef, undef, undef, undef, undef, undef], []⟩ [.code (Try.f23.body.getD .skip)] := by
    simp [Frame.enter, Frame.at, Try.func23, base, Try.f23]
  rw [e]
  clear e
  refine LoneTo.goes (n := 40) ?_
  simp only [Try.f23, Option.getD_some]
  s_c stepG_seq
  s_reg
  s_op
  obtain ⟨W, hW⟩ : ∃ W, W = w.alloc (.cells (cl z).toArray 44) := ⟨_, rfl⟩
  have hWb : W.heap[w.heap.size]? = some (.cells (cl z).toArray 44 (0, 0)) := by rw [hW]; exact blk_new w _
  have hB : Below w.heap.size w W := by rw [hW]; exact below_alloc (Below.refl _ _) _
  have hIW := hI.below hB
  rw [show (w.alloc (.cells #[.int .i64 0, .int .i64 0, .int .i64 0, .int .i64 0, .int .i64 0, .int .i64 0, .string ⟨#[]⟩, .int .i64 0, .string ⟨#[]⟩] 44)) = W from hW.symm]
  clear hW
  have hc := hIW.cell
  obtain ⟨s, r, hch⟩ := hIW.ch
  s_op
  s_c stepG_region_end
  s_c stepG_seq
  s_reg
  s_op
  s_op
  s_op
  s_op
  s_c stepG_region_end
  s_c stepG_seq
  s_reg
  s_stop
  refine LoneTo.step (step_lone_select_default (c := c) (z := fv z) (cap := cap) (s := s) (r := r) (tm := false) (stepG_comm (cases := #[rcase c (fv z)]) (blocking := false) (shape := .select) (w' := W) rfl rfl (by decide) (by simp [go_sem, execOp, rcase, Act.eval, fv, cl, z])) hch) ?_
  rw [Frame.finish_at]
  walk_nrm
  refine LoneTo.goes (n := 40) ?_
  s_op
  s_op
  s_c stepG_region_end
  s_c stepG_block
  s_cond false
  s_c stepG_seq
  s_reg
  s_op
  s_in
  refine goes_oper_k rfl rfl (by decide) (fun K hK => ?_)
  rw [run_store_op 44 (.tmp 2) (.tmp 12) rfl w.heap.size (cl z).toArray rfl rfl 44 (cl z).toArray hWb (by kernel_rfl) rfl (cl_all z)]
  refine hK _ _ ⟨trivial, ?_⟩
  clear hK K
  obtain ⟨hb4, hM4⟩ := row_mod w.heap.size (cl z).toArray (cl z).toArray 44 hWb
  obtain ⟨W4, hW4⟩ : ∃ W4, W4 = W.setRow w.heap.size (cl z).toArray := ⟨_, rfl⟩
  rw [← hW4] at hb4 hM4 ⊢
  clear hW4
  s_op
  s_c stepG_region_end
  s_c stepG_ret'
  s_stop
  have hg := blk_lt hI.blk
  have hcw : c < w.heap.size := by obtain ⟨_, _, h⟩ := hI.ch; exact blk_lt h
  have hM : Mod (fun k => k = c) w W4 := (Mod.of_below hB _).trans hM4 (fun k hk => .inr (Nat.le_of_eq hk.symm))
  have hI4 := hIW.mod hM4 (fun e => by omega) (fun e => by omega)
  exact LoneTo.done ⟨.returned (.tuple #[.agg (cl z).toArray, .bool false]), _, rfl, ⟨rfl, hI4, hM⟩, rfl, rfl, rfl, rfl, _, Try.func23, res23 w.heap.size z false _ W4 rfl rfl hb4⟩
set_option maxHeartbeats 1000000 in
set_option maxRecDepth 100000 in
theorem len_calls (g c cap : Nat) (xs : List Fr) (w : World) (hI : Bx w g c cap xs) :
    Calls Try.prog 26 #[.pointer (some ⟨g, 0, none⟩)] w fun e w' => e = .returned (.int .i64 (xs.length : Int)) ∧ Below w.heap.size w w' := by
  have hc := hI.cell
  obtain ⟨s, r, hch⟩ := hI.ch
  have hlen := fun ty => run_len_chan (P := Try.prog) 73 ty Try.underlying73 hch
  go_enter Try.func26, Try.ntmps26
  go_wp2
  go_ret
  exact ⟨by simp, Below.refl _ _⟩
theorem new_no (n : Int) (w : World) (h : n < 1 ∨ 256 < n) : Calls Try.prog 29 #[.int .i64 n] w fun e w' => e = .returned (.tuple #[.pointer none, .int .i64 1]) ∧ Below w.heap.size w w' := by
  by_cases h1 : n < 1
  · have t0 : decide (n < 1) = true := decide_eq_true h1
    clear h h1
    go_enter Try.func29, Try.ntmps29
    go_wp2
    refine bodyPost_ret (results_tmp2 rfl _ _ _) rfl ?_
    exact ⟨rfl, Below.refl _ _⟩
  · have t0 : decide (n < 1) = false := decide_eq_false h1
    have t1 : decide (256 < n) = true := decide_eq_true (by omega)
    clear h h1
    go_enter Try.func29, Try.ntmps29
    go_wp2
    refine bodyPost_ret (results_tmp2 rfl _ _ _) rfl ?_
    exact ⟨rfl, Below.refl _ _⟩
theorem bytes44 : ∃ i, Try.prog.info? 44 = some i ∧ i.bytes = 88 := by
  have h : (Try.prog.info? 44).map (·.bytes) = some 88 := by kernel_rfl
  obtain ⟨i, hi, hb⟩ := Option.map_eq_some_iff.1 h
  exact ⟨i, hi, hb⟩
theorem bx_made (w : World) (n : Nat) : Bx ((w.alloc (.chan n #[] false 0 0 false)).alloc (.cells #[.chan (some w.heap.size)] 75)) (w.heap.size + 1) w.heap.size n [] := by
  have h1 := blk_alloc (blk_new w (.chan n #[] false 0 0 false)) (.cells #[.chan (some w.heap.size)] 75)
  have h2 := blk_new (w.alloc (.chan n #[] false 0 0 false)) (.cells #[.chan (some w.heap.size)] 75)
  rw [show (w.alloc (.chan n #[] false 0 0 false)).heap.size = w.heap.size + 1 by simp] at h2
  exact ⟨h2, ⟨0, 0, h1⟩, Nat.zero_le _⟩
set_option maxHeartbeats 1000000 in
set_option maxRecDepth 100000 in
theorem new_ok (n : Nat) (w : World) (h : 1 ≤ n) (h' : n ≤ 256) : Calls Try.prog 29 #[.int .i64 (n : Int)] w fun e w' => ∃ g c, e = .returned (.tuple #[.pointer (some ⟨g, 0, none⟩), .int .i64 0]) ∧ Bx w' g c n [] ∧ w.heap.size ≤ g ∧ w.heap.size ≤ c ∧ Below w.heap.size w w' := by
  have t0 : decide ((n : Int) < 1) = false := decide_eq_false (by omega)
  have t1 : decide (256 < (n : Int)) = false := decide_eq_false (by omega)
  have hu75 := Try.underlying75
  obtain ⟨i, hi, hb⟩ := bytes44
  have hmk := fun w => run_makeChan (P := Try.prog) (w := w) Try.underlying73 hi .i64 n (by omega) (by rw [hb]; omega)
  clear h h' hi hb
  go_enter Try.func29, Try.ntmps29
  go_wp2
  refine bodyPost_ret (results_tmp2 rfl _ _ _) rfl ?_
  exact ⟨_, _, rfl, bx_made w n, by omega, Nat.le_refl _, below_alloc (below_alloc (Below.refl _ _) _) _⟩
end Go.Proofs.Ytnfnbcbbiaheeaa.Ml
