/- The document: count. -/
import Derived.Test.YtepklobkppdliaaDoorURn2
namespace Go.Proofs.YtepklobkppdliaaDoor.Md
open Go.RowKit Go.Proofs.YtepklobkppdliaaDoorW.PrintWords Go.Proofs.YtepklobkppdliaaDoorW.PrintLast Go.Proofs.YtepklobkppdliaaDoorW.PrintMore Go.Proofs.YtepklobkppdliaaDoor.Lib Go.Proofs.YtepklobkppdliaaDoor.Open
set_option maxHeartbeats 4000000 in
set_option maxRecDepth 100000 in
theorem rcount_no (r : Rq) (kv : Value) (e : Ent) (ver : Int) (w : World) :
    Calls Tryd.prog 42 #[.agg (r.c kv), .agg e.c, .bool false, .int .i64 ver] w fun e_ w' => e_ = .returned (.tuple #[.agg (ans 5 0 ⟨#[]⟩), .agg e.c, .bool false, .bool false]) ∧ Below w.heap.size w w' := by
  simp only [Rq.c, Ent.c]
  go_enter Tryd.func42, Tryd.ntmps42
  go_wp2
  obtain ⟨V, hV⟩ : ∃ V, V = (((w.alloc (.cells (r.c kv) 27)).alloc (.cells e.c 38)).alloc (.cells A0 32)).alloc (.cells E0 38) := ⟨_, rfl⟩
  obtain ⟨b1, b2, b3, b4, hB⟩ := four w (.cells (r.c kv) 27) (.cells e.c 38) (.cells A0 32) (.cells E0 38)
  change Code.wp _ _ _ _ (((((w.alloc (.cells (r.c kv) 27)).alloc (.cells e.c 38)).alloc (.cells A0 32)).alloc (.cells E0 38)))
  rw [← hV] at b1 b2 b3 b4 hB ⊢
  clear hV
  obtain ⟨W, hW⟩ : ∃ W, W = V := ⟨_, rfl⟩
  have b2w : W.heap[w.heap.size + 1]? = some (.cells e.c 38 (0, 0)) := by rw [hW]; exact b2
  have b3w : W.heap[w.heap.size + 1 + 1]? = some (.cells A0 32 (0, 0)) := by rw [hW]; exact b3
  have b4w : W.heap[w.heap.size + 1 + 1 + 1]? = some (.cells E0 38 (0, 0)) := by rw [hW]; exact b4
  have hBw : Below w.heap.size w W := by rw [hW]; exact hB
  rw [← hW]
  clear hW hB b1 b2 b3 b4
  refine Ev.region_ev (Ev.Two W (w.heap.size + 1 + 1) (w.heap.size + 1 + 1 + 1) 32 38 A0 (ans 5 0 ⟨#[]⟩) E0 e.c 2 3) (by kernel_rfl) (by kernel_rfl) (Ev.two_start b3w b4w) ?_
  refine Ev.ev_step (v := .agg (ans 5 0 ⟨#[]⟩)) rfl rfl (Ev.two_pure (by decide) (by decide) (fun _ => by first | (go_simp; done) | (go_simp; rfl))) ?_
  simp only [Act.put, List.setIfInBounds_toArray, List.set_cons_succ, List.set_cons_zero]
  refine Ev.ev_step (v := .agg e.c) rfl rfl (Ev.two_load (by decide) (by decide) 38 (.tmp 5) rfl (w.heap.size + 1) rfl _ _ _ b2w (by omega) (by omega) Tryd.underlying38 rfl (by kernel_rfl)) ?_
  simp only [Act.put, List.setIfInBounds_toArray, List.set_cons_succ, List.set_cons_zero]
  refine Ev.ev_step (v := undef) rfl rfl (Ev.two_store1 (by decide) (by omega) 32 (.tmp 8) (.tmp 16) rfl rfl rfl rfl (by kernel_rfl) (ans_one _ _ _)) ?_
  simp only [Act.put]
  refine Ev.ev_step (v := undef) rfl rfl (Ev.two_store2 (by decide) (by omega) 38 (.tmp 9) (.tmp 17) rfl rfl rfl rfl (by kernel_rfl) (ent_one _)) ?_
  simp only [Act.put]
  refine Ev.ev_step (v := .bool false) rfl rfl (Ev.two_pure (by decide) (by decide) (fun _ => by rfl)) ?_
  simp only [Act.put, List.setIfInBounds_toArray, List.set_cons_succ, List.set_cons_zero]
  refine Ev.ev_step (v := .bool false) rfl rfl (Ev.two_pure (by decide) (by decide) (fun _ => by rfl)) ?_
  simp only [Act.put, List.setIfInBounds_toArray, List.set_cons_succ, List.set_cons_zero]
  refine Ev.ev_nil (fun w_e hw_e => ?_)
  obtain ⟨hM_e, hA_e, hX_e⟩ := Ev.two_end hw_e (by decide) (by decide)
  clear hw_e
  go_wp2
  refine bodyPost_ret (Ev.results_c3 rfl rfl hA_e Tryd.underlying32 rfl (by kernel_rfl) rfl hX_e Tryd.underlying38 rfl (by kernel_rfl) rfl rfl) rfl ⟨rfl, ?_⟩
  exact Mod.after hBw hBw.size hM_e (fun k hk => by omega)

set_option maxHeartbeats 4000000 in
set_option maxRecDepth 100000 in
theorem rcount_bad (r : Rq) (kv : Value) (e : Ent) (ver : Int) (w : World) (h : numOf e.val = none) :
    Calls Tryd.prog 42 #[.agg (r.c kv), .agg e.c, .bool true, .int .i64 ver] w fun e_ w' => e_ = .returned (.tuple #[.agg (ans 13 0 badNum), .agg e.c, .bool false, .bool false]) ∧ Below w.heap.size w w' := by
  have HN := Aside0.mk h
  clear h
  simp only [Rq.c, Ent.c]
  go_enter Tryd.func42, Tryd.ntmps42
  go_wp2_with (go_at_call 55; refine (refNumber_calls _ _).mono ?_; rintro e_1 w_1 ⟨rfl, hd⟩; obtain ⟨⟨nq, rfl⟩⟩ := hd; rw [HN.out]; simp only [nout]; clear HN)
  obtain ⟨V, hV⟩ : ∃ V, V = (((w.alloc (.cells (r.c kv) 27)).alloc (.cells e.c 38)).alloc (.cells A0 32)).alloc (.cells E0 38) := ⟨_, rfl⟩
  obtain ⟨b1, b2, b3, b4, hB⟩ := four w (.cells (r.c kv) 27) (.cells e.c 38) (.cells A0 32) (.cells E0 38)
  change Code.wp _ _ _ _ (((((w.alloc (.cells (r.c kv) 27)).alloc (.cells e.c 38)).alloc (.cells A0 32)).alloc (.cells E0 38)).drewN nq)
  rw [← hV] at b1 b2 b3 b4 hB ⊢
  clear hV
  obtain ⟨W, hW⟩ : ∃ W, W = V.drewN nq := ⟨_, rfl⟩
  have b2w : W.heap[w.heap.size + 1]? = some (.cells e.c 38 (0, 0)) := by rw [hW]; exact b2
  have b3w : W.heap[w.heap.size + 1 + 1]? = some (.cells A0 32 (0, 0)) := by rw [hW]; exact b3
  have b4w : W.heap[w.heap.size + 1 + 1 + 1]? = some (.cells E0 38 (0, 0)) := by rw [hW]; exact b4
  have hBw : Below w.heap.size w W := by rw [hW]; exact pw_below_drewN hB nq
  rw [← hW]
  clear hW hB b1 b2 b3 b4
  refine Ev.region_ev (Ev.Two W (w.heap.size + 1 + 1) (w.heap.size + 1 + 1 + 1) 32 38 A0 (ans 13 0 badNum) E0 e.c 2 3) (by kernel_rfl) (by kernel_rfl) (Ev.two_start b3w b4w) ?_
  refine Ev.ev_step (v := .agg (ans 13 0 badNum)) rfl rfl (Ev.two_pure (by decide) (by decide) (fun _ => by first | (go_simp; done) | (go_simp; rfl))) ?_
  simp only [Act.put, List.setIfInBounds_toArray, List.set_cons_succ, List.set_cons_zero]
  refine Ev.ev_step (v := .agg e.c) rfl rfl (Ev.two_load (by decide) (by decide) 38 (.tmp 5) rfl (w.heap.size + 1) rfl _ _ _ b2w (by omega) (by omega) Tryd.underlying38 rfl (by kernel_rfl)) ?_
  simp only [Act.put, List.setIfInBounds_toArray, List.set_cons_succ, List.set_cons_zero]
  refine Ev.ev_step (v := undef) rfl rfl (Ev.two_store1 (by decide) (by omega) 32 (.tmp 8) (.tmp 26) rfl rfl rfl rfl (by kernel_rfl) (ans_one _ _ _)) ?_
  simp only [Act.put]
  refine Ev.ev_step (v := undef) rfl rfl (Ev.two_store2 (by decide) (by omega) 38 (.tmp 9) (.tmp 27) rfl rfl rfl rfl (by kernel_rfl) (ent_one _)) ?_
  simp only [Act.put]
  refine Ev.ev_step (v := .bool false) rfl rfl (Ev.two_pure (by decide) (by decide) (fun _ => by rfl)) ?_
  simp only [Act.put, List.setIfInBounds_toArray, List.set_cons_succ, List.set_cons_zero]
  refine Ev.ev_step (v := .bool false) rfl rfl (Ev.two_pure (by decide) (by decide) (fun _ => by rfl)) ?_
  simp only [Act.put, List.setIfInBounds_toArray, List.set_cons_succ, List.set_cons_zero]
  refine Ev.ev_nil (fun w_e hw_e => ?_)
  obtain ⟨hM_e, hA_e, hX_e⟩ := Ev.two_end hw_e (by decide) (by decide)
  clear hw_e
  go_wp2
  refine bodyPost_ret (Ev.results_c3 rfl rfl hA_e Tryd.underlying32 rfl (by kernel_rfl) rfl hX_e Tryd.underlying38 rfl (by kernel_rfl) rfl rfl) rfl ⟨rfl, ?_⟩
  exact Mod.after hBw hBw.size hM_e (fun k hk => by omega)

set_option maxHeartbeats 4000000 in
set_option maxRecDepth 100000 in
theorem rcount_up (r : Rq) (kv : Value) (e : Ent) (ver n : Int) (m : Nat) (w : World) (h : numOf e.val = some n) (hr : r.verb = 10)  (hm : IntKind.u64.wrap (n + r.delta) = (m : Int)) :
    Calls Tryd.prog 42 #[.agg (r.c kv), .agg e.c, .bool true, .int .i64 ver] w fun e_ w' => e_ = .returned (.tuple #[.agg (ans 8 (m : Int) ⟨#[]⟩), .agg (Ent.c { e with val := dec m, cas := ver }), .bool true, .bool false]) ∧ Below w.heap.size w w' := by
  obtain ⟨n0, n1⟩ := numOf_bd h
  have HN := Aside0.mk h
  have hm0 : 0 ≤ IntKind.u64.wrap (n + r.delta) ∧ IntKind.u64.wrap (n + r.delta) < 18446744073709551616 := by rw [IntKind.wrap_u64]; omega
  have HM := Aside0.mk (show m < 18446744073709551616 by omega)
  clear hm0
  have hr2 : (r.verb == 10) = true := by simp [hr]
  clear hr h
  simp only [Rq.c, Ent.c]
  go_enter Tryd.func42, Tryd.ntmps42
  go_wp2_with (go_at_call 55; refine (refNumber_calls _ _).mono ?_; rintro e_1 w_1 ⟨rfl, hd⟩; obtain ⟨⟨nq, rfl⟩⟩ := hd; rw [HN.out]; simp only [nout]; clear HN)
  go_at_call 56
  obtain ⟨V, hV⟩ : ∃ V, V = (((w.alloc (.cells (r.c kv) 27)).alloc (.cells e.c 38)).alloc (.cells A0 32)).alloc (.cells E0 38) := ⟨_, rfl⟩
  obtain ⟨b1, b2, b3, b4, hB⟩ := four w (.cells (r.c kv) 27) (.cells e.c 38) (.cells A0 32) (.cells E0 38)
  change Calls _ _ _ (((((w.alloc (.cells (r.c kv) 27)).alloc (.cells e.c 38)).alloc (.cells A0 32)).alloc (.cells E0 38)).drewN nq) _
  rw [← hV] at b1 b2 b3 b4 hB ⊢
  clear hV
  refine (refDigits_calls m HM.out _).mono ?_
  rintro e_1 w_1 ⟨rfl, hb⟩
  have hB1 := Aside0.mk ((pw_below_drewN hB nq).trans (hb.mono hB.size))
  have B2 := Aside0.mk ((hb.block _ (blk_lt b2)).trans b2)
  have B3 := Aside0.mk ((hb.block _ (blk_lt b3)).trans b3)
  have B4 := Aside0.mk ((hb.block _ (blk_lt b4)).trans b4)
  have c3 : w_1.cell? ⟨w.heap.size + 1, 3, none⟩ = some (.string e.val) := blk_cell B2.out 3
  have c4 : w_1.cell? ⟨w.heap.size + 1, 4, none⟩ = some (.int .i64 e.cas) := blk_cell B2.out 4
  have f3 : w_1.frozen? ⟨w.heap.size + 1, 3, none⟩ = false := blk_frozen B2.out 3
  have f4 : w_1.frozen? ⟨w.heap.size + 1, 4, none⟩ = false := blk_frozen B2.out 4
  clear b1 b2 b3 b4 hB hb HM
  go_wp2
  obtain ⟨W, hW⟩ : ∃ W, W = (w_1.setCell ⟨w.heap.size + 1, 3, none⟩ (.string (dec m))).setCell ⟨w.heap.size + 1, 4, none⟩ (.int .i64 ver) := ⟨_, rfl⟩
  have hM : Mod (fun k => k = w.heap.size + 1) w_1 W := by rw [hW]; exact Mod.setCell (p := ⟨w.heap.size + 1, 4, none⟩) (Mod.setCell (p := ⟨w.heap.size + 1, 3, none⟩) (Mod.refl (fun k => k = w.heap.size + 1) _) (.inl rfl) _) (.inl rfl) _
  have b2w : W.heap[w.heap.size + 1]? = some (.cells (Ent.c { e with val := dec m, cas := ver }) 38 (0, 0)) := by rw [hW]; exact blk_put (blk_put B2.out 3 _ rfl) 4 _ rfl
  have b3w : W.heap[w.heap.size + 1 + 1]? = some (.cells A0 32 (0, 0)) := hM.blk B3.out (by omega)
  have b4w : W.heap[w.heap.size + 1 + 1 + 1]? = some (.cells E0 38 (0, 0)) := hM.blk B4.out (by omega)
  have hBw : Below w.heap.size w W := hM.after hB1.out hB1.out.size (fun k hk => by omega)
  rw [← hW]
  clear hW hM c3 c4 f3 f4
  refine Ev.region_ev (Ev.Two W (w.heap.size + 1 + 1) (w.heap.size + 1 + 1 + 1) 32 38 A0 (ans 8 (m : Int) ⟨#[]⟩) E0 (Ent.c { e with val := dec m, cas := ver }) 3 4) (by kernel_rfl) (by kernel_rfl) (Ev.two_start b3w b4w) ?_
  refine Ev.ev_step (v := .int .u64 (m : Int)) rfl rfl (Ev.two_pure (by decide) (by decide) (fun _ => by rfl)) ?_
  simp only [Act.put, List.setIfInBounds_toArray, List.set_cons_succ, List.set_cons_zero]
  refine Ev.ev_step (v := .agg (ans 8 (m : Int) ⟨#[]⟩)) rfl rfl (Ev.two_pure (by decide) (by decide) (fun _ => by first | (go_simp; done) | (go_simp; rfl))) ?_
  simp only [Act.put, List.setIfInBounds_toArray, List.set_cons_succ, List.set_cons_zero]
  refine Ev.ev_step (v := .agg (Ent.c { e with val := dec m, cas := ver })) rfl rfl (Ev.two_load (by decide) (by decide) 38 (.tmp 5) rfl (w.heap.size + 1) rfl _ _ _ b2w (by omega) (by omega) Tryd.underlying38 rfl (by kernel_rfl)) ?_
  simp only [Act.put, List.setIfInBounds_toArray, List.set_cons_succ, List.set_cons_zero]
  refine Ev.ev_step (v := undef) rfl rfl (Ev.two_store1 (by decide) (by omega) 32 (.tmp 8) (.tmp 47) rfl rfl rfl rfl (by kernel_rfl) (ans_one _ _ _)) ?_
  simp only [Act.put]
  refine Ev.ev_step (v := undef) rfl rfl (Ev.two_store2 (by decide) (by omega) 38 (.tmp 9) (.tmp 48) rfl rfl rfl rfl (by kernel_rfl) (ent_one _)) ?_
  simp only [Act.put]
  refine Ev.ev_step (v := .bool true) rfl rfl (Ev.two_pure (by decide) (by decide) (fun _ => by rfl)) ?_
  simp only [Act.put, List.setIfInBounds_toArray, List.set_cons_succ, List.set_cons_zero]
  refine Ev.ev_step (v := .bool false) rfl rfl (Ev.two_pure (by decide) (by decide) (fun _ => by rfl)) ?_
  simp only [Act.put, List.setIfInBounds_toArray, List.set_cons_succ, List.set_cons_zero]
  refine Ev.ev_nil (fun w_e hw_e => ?_)
  obtain ⟨hM_e, hA_e, hX_e⟩ := Ev.two_end hw_e (by decide) (by decide)
  clear hw_e
  go_wp2
  refine bodyPost_ret (Ev.results_c3 rfl rfl hA_e Tryd.underlying32 rfl (by kernel_rfl) rfl hX_e Tryd.underlying38 rfl (by kernel_rfl) rfl rfl) rfl ⟨rfl, ?_⟩
  exact Mod.after hBw hBw.size hM_e (fun k hk => by omega)

set_option maxHeartbeats 4000000 in
set_option maxRecDepth 100000 in
theorem rcount_down (r : Rq) (kv : Value) (e : Ent) (ver n : Int) (m : Nat) (w : World) (h : numOf e.val = some n) (hr : r.verb ≠ 10) (h0 : 0 ≤ r.delta) (hm : n - min n r.delta = (m : Int)) :
    Calls Tryd.prog 42 #[.agg (r.c kv), .agg e.c, .bool true, .int .i64 ver] w fun e_ w' => e_ = .returned (.tuple #[.agg (ans 8 (m : Int) ⟨#[]⟩), .agg (Ent.c { e with val := dec m, cas := ver }), .bool true, .bool false]) ∧ Below w.heap.size w w' := by
  obtain ⟨n0, n1⟩ := numOf_bd h
  have HN := Aside0.mk h
  have HM := Aside0.mk (show m < 18446744073709551616 by omega)
  have hr2 : (r.verb == 10) = false := by simp [hr]
  clear hr h
  simp only [Rq.c, Ent.c]
  go_enter Tryd.func42, Tryd.ntmps42
  go_wp2_with (go_at_call 55; refine (refNumber_calls _ _).mono ?_; rintro e_1 w_1 ⟨rfl, hd⟩; obtain ⟨⟨nq, rfl⟩⟩ := hd; rw [HN.out]; simp only [nout]; clear HN)
  go_at_call 56
  obtain ⟨V, hV⟩ : ∃ V, V = (((w.alloc (.cells (r.c kv) 27)).alloc (.cells e.c 38)).alloc (.cells A0 32)).alloc (.cells E0 38) := ⟨_, rfl⟩
  obtain ⟨b1, b2, b3, b4, hB⟩ := four w (.cells (r.c kv) 27) (.cells e.c 38) (.cells A0 32) (.cells E0 38)
  change Calls _ _ _ (((((w.alloc (.cells (r.c kv) 27)).alloc (.cells e.c 38)).alloc (.cells A0 32)).alloc (.cells E0 38)).drewN nq) _
  rw [← hV] at b1 b2 b3 b4 hB ⊢
  clear hV
  refine (refDigits_calls m HM.out _).mono ?_
  rintro e_1 w_1 ⟨rfl, hb⟩
  have hB1 := Aside0.mk ((pw_below_drewN hB nq).trans (hb.mono hB.size))
  have B2 := Aside0.mk ((hb.block _ (blk_lt b2)).trans b2)
  have B3 := Aside0.mk ((hb.block _ (blk_lt b3)).trans b3)
  have B4 := Aside0.mk ((hb.block _ (blk_lt b4)).trans b4)
  have c3 : w_1.cell? ⟨w.heap.size + 1, 3, none⟩ = some (.string e.val) := blk_cell B2.out 3
  have c4 : w_1.cell? ⟨w.heap.size + 1, 4, none⟩ = some (.int .i64 e.cas) := blk_cell B2.out 4
  have f3 : w_1.frozen? ⟨w.heap.size + 1, 3, none⟩ = false := blk_frozen B2.out 3
  have f4 : w_1.frozen? ⟨w.heap.size + 1, 4, none⟩ = false := blk_frozen B2.out 4
  clear b1 b2 b3 b4 hB hb HM
  go_wp2
  obtain ⟨W, hW⟩ : ∃ W, W = (w_1.setCell ⟨w.heap.size + 1, 3, none⟩ (.string (dec m))).setCell ⟨w.heap.size + 1, 4, none⟩ (.int .i64 ver) := ⟨_, rfl⟩
  have hM : Mod (fun k => k = w.heap.size + 1) w_1 W := by rw [hW]; exact Mod.setCell (p := ⟨w.heap.size + 1, 4, none⟩) (Mod.setCell (p := ⟨w.heap.size + 1, 3, none⟩) (Mod.refl (fun k => k = w.heap.size + 1) _) (.inl rfl) _) (.inl rfl) _
  have b2w : W.heap[w.heap.size + 1]? = some (.cells (Ent.c { e with val := dec m, cas := ver }) 38 (0, 0)) := by rw [hW]; exact blk_put (blk_put B2.out 3 _ rfl) 4 _ rfl
  have b3w : W.heap[w.heap.size + 1 + 1]? = some (.cells A0 32 (0, 0)) := hM.blk B3.out (by omega)
  have b4w : W.heap[w.heap.size + 1 + 1 + 1]? = some (.cells E0 38 (0, 0)) := hM.blk B4.out (by omega)
  have hBw : Below w.heap.size w W := hM.after hB1.out hB1.out.size (fun k hk => by omega)
  rw [← hW]
  clear hW hM c3 c4 f3 f4
  refine Ev.region_ev (Ev.Two W (w.heap.size + 1 + 1) (w.heap.size + 1 + 1 + 1) 32 38 A0 (ans 8 (m : Int) ⟨#[]⟩) E0 (Ent.c { e with val := dec m, cas := ver }) 3 4) (by kernel_rfl) (by kernel_rfl) (Ev.two_start b3w b4w) ?_
  refine Ev.ev_step (v := .int .u64 (m : Int)) rfl rfl (Ev.two_pure (by decide) (by decide) (fun _ => by rfl)) ?_
  simp only [Act.put, List.setIfInBounds_toArray, List.set_cons_succ, List.set_cons_zero]
  refine Ev.ev_step (v := .agg (ans 8 (m : Int) ⟨#[]⟩)) rfl rfl (Ev.two_pure (by decide) (by decide) (fun _ => by first | (go_simp; done) | (go_simp; rfl))) ?_
  simp only [Act.put, List.setIfInBounds_toArray, List.set_cons_succ, List.set_cons_zero]
  refine Ev.ev_step (v := .agg (Ent.c { e with val := dec m, cas := ver })) rfl rfl (Ev.two_load (by decide) (by decide) 38 (.tmp 5) rfl (w.heap.size + 1) rfl _ _ _ b2w (by omega) (by omega) Tryd.underlying38 rfl (by kernel_rfl)) ?_
  simp only [Act.put, List.setIfInBounds_toArray, List.set_cons_succ, List.set_cons_zero]
  refine Ev.ev_step (v := undef) rfl rfl (Ev.two_store1 (by decide) (by omega) 32 (.tmp 8) (.tmp 47) rfl rfl rfl rfl (by kernel_rfl) (ans_one _ _ _)) ?_
  simp only [Act.put]
  refine Ev.ev_step (v := undef) rfl rfl (Ev.two_store2 (by decide) (by omega) 38 (.tmp 9) (.tmp 48) rfl rfl rfl rfl (by kernel_rfl) (ent_one _)) ?_
  simp only [Act.put]
  refine Ev.ev_step (v := .bool true) rfl rfl (Ev.two_pure (by decide) (by decide) (fun _ => by rfl)) ?_
  simp only [Act.put, List.setIfInBounds_toArray, List.set_cons_succ, List.set_cons_zero]
  refine Ev.ev_step (v := .bool false) rfl rfl (Ev.two_pure (by decide) (by decide) (fun _ => by rfl)) ?_
  simp only [Act.put, List.setIfInBounds_toArray, List.set_cons_succ, List.set_cons_zero]
  refine Ev.ev_nil (fun w_e hw_e => ?_)
  obtain ⟨hM_e, hA_e, hX_e⟩ := Ev.two_end hw_e (by decide) (by decide)
  clear hw_e
  go_wp2
  refine bodyPost_ret (Ev.results_c3 rfl rfl hA_e Tryd.underlying32 rfl (by kernel_rfl) rfl hX_e Tryd.underlying38 rfl (by kernel_rfl) rfl rfl) rfl ⟨rfl, ?_⟩
  exact Mod.after hBw hBw.size hM_e (fun k hk => by omega)
end Go.Proofs.YtepklobkppdliaaDoor.Md
