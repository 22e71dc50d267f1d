/- The document: Next (cas, delete; no entry; any other verb). -/
import Derived.Test.YtepklobkppdliaaDoorURn2
namespace Go.Proofs.YtepklobkppdliaaDoor.Md
open Go.RowKit Go.Proofs.YtepklobkppdliaaDoorW.PrintWords Go.Proofs.YtepklobkppdliaaDoorW.PrintLast Go.Proofs.YtepklobkppdliaaDoorW.PrintMore Go.Proofs.YtepklobkppdliaaDoor.Lib Go.Proofs.YtepklobkppdliaaDoor.Open
set_option maxHeartbeats 4000000 in
set_option maxRecDepth 100000 in
theorem rnext_cas_no (r : Rq) (kv : Value) (e : Ent) (now ver : Int) (w : World) (hr : r.verb = 8) :
    Calls Tryd.prog 18 #[.agg (r.c kv), .agg e.c, .bool false, .int .i64 now, .int .i64 ver] w fun e_ w' => e_ = .returned (.tuple #[.agg (ans 5 0 ⟨#[]⟩), .agg (fresh r e now ver).c, .bool false, .bool false]) ∧ Below w.heap.size w w' := by
  have HR := Aside0.mk hr
  clear hr
  simp only [Rq.c, Ent.c]
  go_enter Tryd.func18, Tryd.ntmps18
  go_wp2
  obtain ⟨W, hW⟩ : ∃ W, W = (((w.alloc (.cells (r.c kv) 27)).alloc (.cells e.c 38)).alloc (.cells A0 32)).alloc (.cells E0 38) := ⟨_, rfl⟩
  obtain ⟨b1, b2, b3, b4, hB⟩ := four w (.cells (r.c kv) 27) (.cells e.c 38) (.cells A0 32) (.cells E0 38)
  change Code.wp _ _ _ _ ((((w.alloc (.cells (r.c kv) 27)).alloc (.cells e.c 38)).alloc (.cells A0 32)).alloc (.cells E0 38))
  rw [← hW] at b1 b2 b3 b4 hB ⊢
  clear hW
  have c60 : W.cell? ⟨w.heap.size + 1, 0, none⟩ = some (.string e.key) := blk_cell b2 0
  have c52 : W.cell? ⟨w.heap.size, 2, none⟩ = some (.int .i64 r.fl) := blk_cell b1 2
  have c53 : W.cell? ⟨w.heap.size, 3, none⟩ = some (.int .i64 r.exp) := blk_cell b1 3
  have c58 : W.cell? ⟨w.heap.size, 8, none⟩ = some (.string r.data) := blk_cell b1 8
  refine Ev.region_ev (Gen W (w.heap.size + 1 + 1 + 1) 38 (freshAt (fresh r e now ver).c)) (by kernel_rfl) (by kernel_rfl) (gen_start b4 (by unfold freshAt; rw [no_bit]; rfl)) ?_
  refine Ev.ev_step (v := .pointer (some ⟨(w.heap.size + 1), 0, none⟩)) rfl rfl (gen_pure (freshAt_other _ (by decide)) (fun _ => by first | rfl | (go_simp; done) | (go_simp; rfl))) ?_
  simp only [Act.put, List.setIfInBounds_toArray, List.set_cons_succ, List.set_cons_zero]
  refine Ev.ev_step (v := .string e.key) rfl rfl (gen_load (freshAt_other _ (by decide)) ⟨(w.heap.size + 1), 0, none⟩ (c60) (show (w.heap.size + 1) ≠ (w.heap.size + 1 + 1 + 1) by omega) (fun w hc => by go_simp)) ?_
  simp only [Act.put, List.setIfInBounds_toArray, List.set_cons_succ, List.set_cons_zero]
  refine Ev.ev_step (v := .pointer (some ⟨w.heap.size, 2, none⟩)) rfl rfl (gen_pure (freshAt_other _ (by decide)) (fun _ => by first | rfl | (go_simp; done) | (go_simp; rfl))) ?_
  simp only [Act.put, List.setIfInBounds_toArray, List.set_cons_succ, List.set_cons_zero]
  refine Ev.ev_step (v := .int .i64 r.fl) rfl rfl (gen_load (freshAt_other _ (by decide)) ⟨w.heap.size, 2, none⟩ (c52) (show w.heap.size ≠ (w.heap.size + 1 + 1 + 1) by omega) (fun w hc => by go_simp)) ?_
  simp only [Act.put, List.setIfInBounds_toArray, List.set_cons_succ, List.set_cons_zero]
  refine Ev.ev_step (v := .pointer (some ⟨w.heap.size, 3, none⟩)) rfl rfl (gen_pure (freshAt_other _ (by decide)) (fun _ => by first | rfl | (go_simp; done) | (go_simp; rfl))) ?_
  simp only [Act.put, List.setIfInBounds_toArray, List.set_cons_succ, List.set_cons_zero]
  refine Ev.ev_step (v := .int .i64 r.exp) rfl rfl (gen_load (freshAt_other _ (by decide)) ⟨w.heap.size, 3, none⟩ (c53) (show w.heap.size ≠ (w.heap.size + 1 + 1 + 1) by omega) (fun w hc => by go_simp)) ?_
  simp only [Act.put, List.setIfInBounds_toArray, List.set_cons_succ, List.set_cons_zero]
  refine Ev.ev_step (v := .int .i64 now) rfl rfl (gen_pure (freshAt_other _ (by decide)) (fun _ => by first | rfl | (go_simp; done) | (go_simp; rfl))) ?_
  simp only [Act.put, List.setIfInBounds_toArray, List.set_cons_succ, List.set_cons_zero]
  refine Ev.ev_step (v := .int .i64 (dead r.exp now)) rfl rfl (gen_call (freshAt_other _ (by decide)) 40 #[.int .i64 r.exp, .int .i64 now] (fun _ => by first | (go_simp; done) | (go_simp; rfl)) (fun w => refDead_calls _ _ w)) ?_
  simp only [Act.put, List.setIfInBounds_toArray, List.set_cons_succ, List.set_cons_zero]
  refine Ev.ev_step (v := .pointer (some ⟨w.heap.size, 8, none⟩)) rfl rfl (gen_pure (freshAt_other _ (by decide)) (fun _ => by first | rfl | (go_simp; done) | (go_simp; rfl))) ?_
  simp only [Act.put, List.setIfInBounds_toArray, List.set_cons_succ, List.set_cons_zero]
  refine Ev.ev_step (v := .string r.data) rfl rfl (gen_load (freshAt_other _ (by decide)) ⟨w.heap.size, 8, none⟩ (c58) (show w.heap.size ≠ (w.heap.size + 1 + 1 + 1) by omega) (fun w hc => by go_simp)) ?_
  simp only [Act.put, List.setIfInBounds_toArray, List.set_cons_succ, List.set_cons_zero]
  refine Ev.ev_step (v := .int .i64 ver) rfl rfl (gen_pure (freshAt_other _ (by decide)) (fun _ => by first | rfl | (go_simp; done) | (go_simp; rfl))) ?_
  simp only [Act.put, List.setIfInBounds_toArray, List.set_cons_succ, List.set_cons_zero]
  refine Ev.ev_step (v := .agg (fresh r e now ver).c) rfl rfl (gen_pure (freshAt_other _ (by decide)) (fun _ => by first | rfl | (go_simp; done) | (go_simp; rfl))) ?_
  simp only [Act.put, List.setIfInBounds_toArray, List.set_cons_succ, List.set_cons_zero]
  refine Ev.ev_step (v := undef) rfl rfl (gen_store (fresh r e now ver).c (fun S h => by unfold freshAt; rw [Ev.set_same h, if_pos rfl]) (fun S => by unfold freshAt; split <;> rfl) 38 (.tmp 11) (.tmp 26) rfl rfl rfl (by kernel_rfl) (ent_one _)) ?_
  simp only [Act.put]
  refine Ev.ev_nil (fun w_e hw_e => ?_)
  have hm := hw_e.mod
  have b4e := hw_e.blk
  rw [show freshAt (fresh r e now ver).c (Array.replicate _ true) = (fresh r e now ver).c by unfold freshAt; rw [all_bit (by decide), if_pos rfl]] at b4e
  clear hw_e c60 c52 c53 c58 b4
  replace b1 := hm.blk b1 (by omega)
  replace b2 := hm.blk b2 (by omega)
  replace b3 := hm.blk b3 (by omega)
  replace hB := hm.after hB hB.size (fun k hk => by omega)
  have b4 := b4e
  clear hm b4e
  have hr := HR.out
  have e3 : (r.verb == 3) = false := by rw [hr]; rfl
  have e4 : (r.verb == 4) = false := by rw [hr]; rfl
  have e5 : (r.verb == 5) = false := by rw [hr]; rfl
  have e6 : (r.verb == 6) = false := by rw [hr]; rfl
  have e7 : (r.verb == 7) = false := by rw [hr]; rfl
  have e8 : (r.verb == 8) = true := by rw [hr]; rfl
  have e9 : (r.verb == 9) = false := by rw [hr]; rfl
  have e10 : (r.verb == 10) = false := by rw [hr]; rfl
  have e11 : (r.verb == 11) = false := by rw [hr]; rfl
  have e12 : (r.verb == 12) = false := by rw [hr]; rfl
  have c50 : w_e.cell? ⟨w.heap.size, 0, none⟩ = some (.int .i64 r.verb) := blk_cell b1 0
  clear hr HR
  go_wp2
  clear e3 e4 e5 e6 e7 e8 e9 e10 e11 e12 c50
  obtain ⟨W2, hW2⟩ : ∃ W2, W2 = w_e := ⟨_, rfl⟩
  rw [← hW2] at b1 b2 b3 b4 hB ⊢
  clear hW2
  refine Ev.region_ev (Ev.Two W2 (w.heap.size + 1 + 1) (w.heap.size + 1 + 1 + 1) 32 38 A0 (ans 5 0 ⟨#[]⟩) (fresh r e now ver).c (fresh r e now ver).c 2 3) (by kernel_rfl) (by kernel_rfl) (Ev.two_start b3 b4) ?_
  refine Ev.ev_step (v := .agg (ans 5 0 ⟨#[]⟩)) rfl rfl (Ev.two_call (by decide) (by decide) 41 #[.int .i64 5] (fun _ => by first | (go_simp; done) | (go_simp; rfl)) (fun w => refSay_calls 5 w)) ?_
  simp only [Act.put, List.setIfInBounds_toArray, List.set_cons_succ, List.set_cons_zero]
  refine Ev.ev_step (v := .agg (fresh r e now ver).c) rfl rfl (Ev.two_load2 (by decide) (by decide) 38 (.tmp 11) rfl rfl _ rfl Tryd.underlying38 rfl (by kernel_rfl)) ?_
  simp only [Act.put, List.setIfInBounds_toArray, List.set_cons_succ, List.set_cons_zero]
  refine Ev.ev_step (v := undef) rfl rfl (Ev.two_store1 (by decide) (by omega) 32 (.tmp 10) (.tmp 86) rfl rfl rfl rfl (by kernel_rfl) (ans_one _ _ _)) ?_
  simp only [Act.put]
  refine Ev.ev_step (v := undef) rfl rfl (Ev.two_store2 (by decide) (by omega) 38 (.tmp 11) (.tmp 87) rfl rfl rfl rfl (by kernel_rfl) (ent_one _)) ?_
  simp only [Act.put]
  refine Ev.ev_step (v := .bool false) rfl rfl (Ev.two_pure (by decide) (by decide) (fun _ => by rfl)) ?_
  simp only [Act.put, List.setIfInBounds_toArray, List.set_cons_succ, List.set_cons_zero]
  refine Ev.ev_step (v := .bool false) rfl rfl (Ev.two_pure (by decide) (by decide) (fun _ => by rfl)) ?_
  simp only [Act.put, List.setIfInBounds_toArray, List.set_cons_succ, List.set_cons_zero]
  refine Ev.ev_nil (fun w_e hw_e => ?_)
  obtain ⟨hM_e, hA_e, hX_e⟩ := Ev.two_end hw_e (by decide) (by decide)
  clear hw_e
  go_wp2
  refine bodyPost_ret (Ev.results_c3 rfl rfl hA_e Tryd.underlying32 rfl (by kernel_rfl) rfl hX_e Tryd.underlying38 rfl (by kernel_rfl) rfl rfl) rfl ⟨rfl, ?_⟩
  exact Mod.after hB hB.size hM_e (fun k hk => by omega)
set_option maxHeartbeats 4000000 in
set_option maxRecDepth 100000 in
theorem rnext_delete_no (r : Rq) (kv : Value) (e : Ent) (now ver : Int) (w : World) (hr : r.verb = 9) :
    Calls Tryd.prog 18 #[.agg (r.c kv), .agg e.c, .bool false, .int .i64 now, .int .i64 ver] w fun e_ w' => e_ = .returned (.tuple #[.agg (ans 5 0 ⟨#[]⟩), .agg (fresh r e now ver).c, .bool false, .bool false]) ∧ Below w.heap.size w w' := by
  have HR := Aside0.mk hr
  clear hr
  simp only [Rq.c, Ent.c]
  go_enter Tryd.func18, Tryd.ntmps18
  go_wp2
  obtain ⟨W, hW⟩ : ∃ W, W = (((w.alloc (.cells (r.c kv) 27)).alloc (.cells e.c 38)).alloc (.cells A0 32)).alloc (.cells E0 38) := ⟨_, rfl⟩
  obtain ⟨b1, b2, b3, b4, hB⟩ := four w (.cells (r.c kv) 27) (.cells e.c 38) (.cells A0 32) (.cells E0 38)
  change Code.wp _ _ _ _ ((((w.alloc (.cells (r.c kv) 27)).alloc (.cells e.c 38)).alloc (.cells A0 32)).alloc (.cells E0 38))
  rw [← hW] at b1 b2 b3 b4 hB ⊢
  clear hW
  have c60 : W.cell? ⟨w.heap.size + 1, 0, none⟩ = some (.string e.key) := blk_cell b2 0
  have c52 : W.cell? ⟨w.heap.size, 2, none⟩ = some (.int .i64 r.fl) := blk_cell b1 2
  have c53 : W.cell? ⟨w.heap.size, 3, none⟩ = some (.int .i64 r.exp) := blk_cell b1 3
  have c58 : W.cell? ⟨w.heap.size, 8, none⟩ = some (.string r.data) := blk_cell b1 8
  refine Ev.region_ev (Gen W (w.heap.size + 1 + 1 + 1) 38 (freshAt (fresh r e now ver).c)) (by kernel_rfl) (by kernel_rfl) (gen_start b4 (by unfold freshAt; rw [no_bit]; rfl)) ?_
  refine Ev.ev_step (v := .pointer (some ⟨(w.heap.size + 1), 0, none⟩)) rfl rfl (gen_pure (freshAt_other _ (by decide)) (fun _ => by first | rfl | (go_simp; done) | (go_simp; rfl))) ?_
  simp only [Act.put, List.setIfInBounds_toArray, List.set_cons_succ, List.set_cons_zero]
  refine Ev.ev_step (v := .string e.key) rfl rfl (gen_load (freshAt_other _ (by decide)) ⟨(w.heap.size + 1), 0, none⟩ (c60) (show (w.heap.size + 1) ≠ (w.heap.size + 1 + 1 + 1) by omega) (fun w hc => by go_simp)) ?_
  simp only [Act.put, List.setIfInBounds_toArray, List.set_cons_succ, List.set_cons_zero]
  refine Ev.ev_step (v := .pointer (some ⟨w.heap.size, 2, none⟩)) rfl rfl (gen_pure (freshAt_other _ (by decide)) (fun _ => by first | rfl | (go_simp; done) | (go_simp; rfl))) ?_
  simp only [Act.put, List.setIfInBounds_toArray, List.set_cons_succ, List.set_cons_zero]
  refine Ev.ev_step (v := .int .i64 r.fl) rfl rfl (gen_load (freshAt_other _ (by decide)) ⟨w.heap.size, 2, none⟩ (c52) (show w.heap.size ≠ (w.heap.size + 1 + 1 + 1) by omega) (fun w hc => by go_simp)) ?_
  simp only [Act.put, List.setIfInBounds_toArray, List.set_cons_succ, List.set_cons_zero]
  refine Ev.ev_step (v := .pointer (some ⟨w.heap.size, 3, none⟩)) rfl rfl (gen_pure (freshAt_other _ (by decide)) (fun _ => by first | rfl | (go_simp; done) | (go_simp; rfl))) ?_
  simp only [Act.put, List.setIfInBounds_toArray, List.set_cons_succ, List.set_cons_zero]
  refine Ev.ev_step (v := .int .i64 r.exp) rfl rfl (gen_load (freshAt_other _ (by decide)) ⟨w.heap.size, 3, none⟩ (c53) (show w.heap.size ≠ (w.heap.size + 1 + 1 + 1) by omega) (fun w hc => by go_simp)) ?_
  simp only [Act.put, List.setIfInBounds_toArray, List.set_cons_succ, List.set_cons_zero]
  refine Ev.ev_step (v := .int .i64 now) rfl rfl (gen_pure (freshAt_other _ (by decide)) (fun _ => by first | rfl | (go_simp; done) | (go_simp; rfl))) ?_
  simp only [Act.put, List.setIfInBounds_toArray, List.set_cons_succ, List.set_cons_zero]
  refine Ev.ev_step (v := .int .i64 (dead r.exp now)) rfl rfl (gen_call (freshAt_other _ (by decide)) 40 #[.int .i64 r.exp, .int .i64 now] (fun _ => by first | (go_simp; done) | (go_simp; rfl)) (fun w => refDead_calls _ _ w)) ?_
  simp only [Act.put, List.setIfInBounds_toArray, List.set_cons_succ, List.set_cons_zero]
  refine Ev.ev_step (v := .pointer (some ⟨w.heap.size, 8, none⟩)) rfl rfl (gen_pure (freshAt_other _ (by decide)) (fun _ => by first | rfl | (go_simp; done) | (go_simp; rfl))) ?_
  simp only [Act.put, List.setIfInBounds_toArray, List.set_cons_succ, List.set_cons_zero]
  refine Ev.ev_step (v := .string r.data) rfl rfl (gen_load (freshAt_other _ (by decide)) ⟨w.heap.size, 8, none⟩ (c58) (show w.heap.size ≠ (w.heap.size + 1 + 1 + 1) by omega) (fun w hc => by go_simp)) ?_
  simp only [Act.put, List.setIfInBounds_toArray, List.set_cons_succ, List.set_cons_zero]
  refine Ev.ev_step (v := .int .i64 ver) rfl rfl (gen_pure (freshAt_other _ (by decide)) (fun _ => by first | rfl | (go_simp; done) | (go_simp; rfl))) ?_
  simp only [Act.put, List.setIfInBounds_toArray, List.set_cons_succ, List.set_cons_zero]
  refine Ev.ev_step (v := .agg (fresh r e now ver).c) rfl rfl (gen_pure (freshAt_other _ (by decide)) (fun _ => by first | rfl | (go_simp; done) | (go_simp; rfl))) ?_
  simp only [Act.put, List.setIfInBounds_toArray, List.set_cons_succ, List.set_cons_zero]
  refine Ev.ev_step (v := undef) rfl rfl (gen_store (fresh r e now ver).c (fun S h => by unfold freshAt; rw [Ev.set_same h, if_pos rfl]) (fun S => by unfold freshAt; split <;> rfl) 38 (.tmp 11) (.tmp 26) rfl rfl rfl (by kernel_rfl) (ent_one _)) ?_
  simp only [Act.put]
  refine Ev.ev_nil (fun w_e hw_e => ?_)
  have hm := hw_e.mod
  have b4e := hw_e.blk
  rw [show freshAt (fresh r e now ver).c (Array.replicate _ true) = (fresh r e now ver).c by unfold freshAt; rw [all_bit (by decide), if_pos rfl]] at b4e
  clear hw_e c60 c52 c53 c58 b4
  replace b1 := hm.blk b1 (by omega)
  replace b2 := hm.blk b2 (by omega)
  replace b3 := hm.blk b3 (by omega)
  replace hB := hm.after hB hB.size (fun k hk => by omega)
  have b4 := b4e
  clear hm b4e
  have hr := HR.out
  have e3 : (r.verb == 3) = false := by rw [hr]; rfl
  have e4 : (r.verb == 4) = false := by rw [hr]; rfl
  have e5 : (r.verb == 5) = false := by rw [hr]; rfl
  have e6 : (r.verb == 6) = false := by rw [hr]; rfl
  have e7 : (r.verb == 7) = false := by rw [hr]; rfl
  have e8 : (r.verb == 8) = false := by rw [hr]; rfl
  have e9 : (r.verb == 9) = true := by rw [hr]; rfl
  have e10 : (r.verb == 10) = false := by rw [hr]; rfl
  have e11 : (r.verb == 11) = false := by rw [hr]; rfl
  have e12 : (r.verb == 12) = false := by rw [hr]; rfl
  have c50 : w_e.cell? ⟨w.heap.size, 0, none⟩ = some (.int .i64 r.verb) := blk_cell b1 0
  clear hr HR
  go_wp2
  clear e3 e4 e5 e6 e7 e8 e9 e10 e11 e12 c50
  obtain ⟨W2, hW2⟩ : ∃ W2, W2 = w_e := ⟨_, rfl⟩
  rw [← hW2] at b1 b2 b3 b4 hB ⊢
  clear hW2
  refine Ev.region_ev (Ev.Two W2 (w.heap.size + 1 + 1) (w.heap.size + 1 + 1 + 1) 32 38 A0 (ans 5 0 ⟨#[]⟩) (fresh r e now ver).c (fresh r e now ver).c 2 3) (by kernel_rfl) (by kernel_rfl) (Ev.two_start b3 b4) ?_
  refine Ev.ev_step (v := .agg (ans 5 0 ⟨#[]⟩)) rfl rfl (Ev.two_call (by decide) (by decide) 41 #[.int .i64 5] (fun _ => by first | (go_simp; done) | (go_simp; rfl)) (fun w => refSay_calls 5 w)) ?_
  simp only [Act.put, List.setIfInBounds_toArray, List.set_cons_succ, List.set_cons_zero]
  refine Ev.ev_step (v := .agg (fresh r e now ver).c) rfl rfl (Ev.two_load2 (by decide) (by decide) 38 (.tmp 11) rfl rfl _ rfl Tryd.underlying38 rfl (by kernel_rfl)) ?_
  simp only [Act.put, List.setIfInBounds_toArray, List.set_cons_succ, List.set_cons_zero]
  refine Ev.ev_step (v := undef) rfl rfl (Ev.two_store1 (by decide) (by omega) 32 (.tmp 10) (.tmp 101) rfl rfl rfl rfl (by kernel_rfl) (ans_one _ _ _)) ?_
  simp only [Act.put]
  refine Ev.ev_step (v := undef) rfl rfl (Ev.two_store2 (by decide) (by omega) 38 (.tmp 11) (.tmp 102) rfl rfl rfl rfl (by kernel_rfl) (ent_one _)) ?_
  simp only [Act.put]
  refine Ev.ev_step (v := .bool false) rfl rfl (Ev.two_pure (by decide) (by decide) (fun _ => by rfl)) ?_
  simp only [Act.put, List.setIfInBounds_toArray, List.set_cons_succ, List.set_cons_zero]
  refine Ev.ev_step (v := .bool false) rfl rfl (Ev.two_pure (by decide) (by decide) (fun _ => by rfl)) ?_
  simp only [Act.put, List.setIfInBounds_toArray, List.set_cons_succ, List.set_cons_zero]
  refine Ev.ev_nil (fun w_e hw_e => ?_)
  obtain ⟨hM_e, hA_e, hX_e⟩ := Ev.two_end hw_e (by decide) (by decide)
  clear hw_e
  go_wp2
  refine bodyPost_ret (Ev.results_c3 rfl rfl hA_e Tryd.underlying32 rfl (by kernel_rfl) rfl hX_e Tryd.underlying38 rfl (by kernel_rfl) rfl rfl) rfl ⟨rfl, ?_⟩
  exact Mod.after hB hB.size hM_e (fun k hk => by omega)
set_option maxHeartbeats 4000000 in
set_option maxRecDepth 100000 in
theorem rnext_touch_no (r : Rq) (kv : Value) (e : Ent) (now ver : Int) (w : World) (hr : r.verb = 12) :
    Calls Tryd.prog 18 #[.agg (r.c kv), .agg e.c, .bool false, .int .i64 now, .int .i64 ver] w fun e_ w' => e_ = .returned (.tuple #[.agg (ans 5 0 ⟨#[]⟩), .agg (fresh r e now ver).c, .bool false, .bool false]) ∧ Below w.heap.size w w' := by
  have HR := Aside0.mk hr
  clear hr
  simp only [Rq.c, Ent.c]
  go_enter Tryd.func18, Tryd.ntmps18
  go_wp2
  obtain ⟨W, hW⟩ : ∃ W, W = (((w.alloc (.cells (r.c kv) 27)).alloc (.cells e.c 38)).alloc (.cells A0 32)).alloc (.cells E0 38) := ⟨_, rfl⟩
  obtain ⟨b1, b2, b3, b4, hB⟩ := four w (.cells (r.c kv) 27) (.cells e.c 38) (.cells A0 32) (.cells E0 38)
  change Code.wp _ _ _ _ ((((w.alloc (.cells (r.c kv) 27)).alloc (.cells e.c 38)).alloc (.cells A0 32)).alloc (.cells E0 38))
  rw [← hW] at b1 b2 b3 b4 hB ⊢
  clear hW
  have c60 : W.cell? ⟨w.heap.size + 1, 0, none⟩ = some (.string e.key) := blk_cell b2 0
  have c52 : W.cell? ⟨w.heap.size, 2, none⟩ = some (.int .i64 r.fl) := blk_cell b1 2
  have c53 : W.cell? ⟨w.heap.size, 3, none⟩ = some (.int .i64 r.exp) := blk_cell b1 3
  have c58 : W.cell? ⟨w.heap.size, 8, none⟩ = some (.string r.data) := blk_cell b1 8
  refine Ev.region_ev (Gen W (w.heap.size + 1 + 1 + 1) 38 (freshAt (fresh r e now ver).c)) (by kernel_rfl) (by kernel_rfl) (gen_start b4 (by unfold freshAt; rw [no_bit]; rfl)) ?_
  refine Ev.ev_step (v := .pointer (some ⟨(w.heap.size + 1), 0, none⟩)) rfl rfl (gen_pure (freshAt_other _ (by decide)) (fun _ => by first | rfl | (go_simp; done) | (go_simp; rfl))) ?_
  simp only [Act.put, List.setIfInBounds_toArray, List.set_cons_succ, List.set_cons_zero]
  refine Ev.ev_step (v := .string e.key) rfl rfl (gen_load (freshAt_other _ (by decide)) ⟨(w.heap.size + 1), 0, none⟩ (c60) (show (w.heap.size + 1) ≠ (w.heap.size + 1 + 1 + 1) by omega) (fun w hc => by go_simp)) ?_
  simp only [Act.put, List.setIfInBounds_toArray, List.set_cons_succ, List.set_cons_zero]
  refine Ev.ev_step (v := .pointer (some ⟨w.heap.size, 2, none⟩)) rfl rfl (gen_pure (freshAt_other _ (by decide)) (fun _ => by first | rfl | (go_simp; done) | (go_simp; rfl))) ?_
  simp only [Act.put, List.setIfInBounds_toArray, List.set_cons_succ, List.set_cons_zero]
  refine Ev.ev_step (v := .int .i64 r.fl) rfl rfl (gen_load (freshAt_other _ (by decide)) ⟨w.heap.size, 2, none⟩ (c52) (show w.heap.size ≠ (w.heap.size + 1 + 1 + 1) by omega) (fun w hc => by go_simp)) ?_
  simp only [Act.put, List.setIfInBounds_toArray, List.set_cons_succ, List.set_cons_zero]
  refine Ev.ev_step (v := .pointer (some ⟨w.heap.size, 3, none⟩)) rfl rfl (gen_pure (freshAt_other _ (by decide)) (fun _ => by first | rfl | (go_simp; done) | (go_simp; rfl))) ?_
  simp only [Act.put, List.setIfInBounds_toArray, List.set_cons_succ, List.set_cons_zero]
  refine Ev.ev_step (v := .int .i64 r.exp) rfl rfl (gen_load (freshAt_other _ (by decide)) ⟨w.heap.size, 3, none⟩ (c53) (show w.heap.size ≠ (w.heap.size + 1 + 1 + 1) by omega) (fun w hc => by go_simp)) ?_
  simp only [Act.put, List.setIfInBounds_toArray, List.set_cons_succ, List.set_cons_zero]
  refine Ev.ev_step (v := .int .i64 now) rfl rfl (gen_pure (freshAt_other _ (by decide)) (fun _ => by first | rfl | (go_simp; done) | (go_simp; rfl))) ?_
  simp only [Act.put, List.setIfInBounds_toArray, List.set_cons_succ, List.set_cons_zero]
  refine Ev.ev_step (v := .int .i64 (dead r.exp now)) rfl rfl (gen_call (freshAt_other _ (by decide)) 40 #[.int .i64 r.exp, .int .i64 now] (fun _ => by first | (go_simp; done) | (go_simp; rfl)) (fun w => refDead_calls _ _ w)) ?_
  simp only [Act.put, List.setIfInBounds_toArray, List.set_cons_succ, List.set_cons_zero]
  refine Ev.ev_step (v := .pointer (some ⟨w.heap.size, 8, none⟩)) rfl rfl (gen_pure (freshAt_other _ (by decide)) (fun _ => by first | rfl | (go_simp; done) | (go_simp; rfl))) ?_
  simp only [Act.put, List.setIfInBounds_toArray, List.set_cons_succ, List.set_cons_zero]
  refine Ev.ev_step (v := .string r.data) rfl rfl (gen_load (freshAt_other _ (by decide)) ⟨w.heap.size, 8, none⟩ (c58) (show w.heap.size ≠ (w.heap.size + 1 + 1 + 1) by omega) (fun w hc => by go_simp)) ?_
  simp only [Act.put, List.setIfInBounds_toArray, List.set_cons_succ, List.set_cons_zero]
  refine Ev.ev_step (v := .int .i64 ver) rfl rfl (gen_pure (freshAt_other _ (by decide)) (fun _ => by first | rfl | (go_simp; done) | (go_simp; rfl))) ?_
  simp only [Act.put, List.setIfInBounds_toArray, List.set_cons_succ, List.set_cons_zero]
  refine Ev.ev_step (v := .agg (fresh r e now ver).c) rfl rfl (gen_pure (freshAt_other _ (by decide)) (fun _ => by first | rfl | (go_simp; done) | (go_simp; rfl))) ?_
  simp only [Act.put, List.setIfInBounds_toArray, List.set_cons_succ, List.set_cons_zero]
  refine Ev.ev_step (v := undef) rfl rfl (gen_store (fresh r e now ver).c (fun S h => by unfold freshAt; rw [Ev.set_same h, if_pos rfl]) (fun S => by unfold freshAt; split <;> rfl) 38 (.tmp 11) (.tmp 26) rfl rfl rfl (by kernel_rfl) (ent_one _)) ?_
  simp only [Act.put]
  refine Ev.ev_nil (fun w_e hw_e => ?_)
  have hm := hw_e.mod
  have b4e := hw_e.blk
  rw [show freshAt (fresh r e now ver).c (Array.replicate _ true) = (fresh r e now ver).c by unfold freshAt; rw [all_bit (by decide), if_pos rfl]] at b4e
  clear hw_e c60 c52 c53 c58 b4
  replace b1 := hm.blk b1 (by omega)
  replace b2 := hm.blk b2 (by omega)
  replace b3 := hm.blk b3 (by omega)
  replace hB := hm.after hB hB.size (fun k hk => by omega)
  have b4 := b4e
  clear hm b4e
  have hr := HR.out
  have e3 : (r.verb == 3) = false := by rw [hr]; rfl
  have e4 : (r.verb == 4) = false := by rw [hr]; rfl
  have e5 : (r.verb == 5) = false := by rw [hr]; rfl
  have e6 : (r.verb == 6) = false := by rw [hr]; rfl
  have e7 : (r.verb == 7) = false := by rw [hr]; rfl
  have e8 : (r.verb == 8) = false := by rw [hr]; rfl
  have e9 : (r.verb == 9) = false := by rw [hr]; rfl
  have e10 : (r.verb == 10) = false := by rw [hr]; rfl
  have e11 : (r.verb == 11) = false := by rw [hr]; rfl
  have e12 : (r.verb == 12) = true := by rw [hr]; rfl
  have c50 : w_e.cell? ⟨w.heap.size, 0, none⟩ = some (.int .i64 r.verb) := blk_cell b1 0
  clear hr HR
  go_wp2
  clear e3 e4 e5 e6 e7 e8 e9 e10 e11 e12 c50
  obtain ⟨W2, hW2⟩ : ∃ W2, W2 = w_e := ⟨_, rfl⟩
  rw [← hW2] at b1 b2 b3 b4 hB ⊢
  clear hW2
  refine Ev.region_ev (Ev.Two W2 (w.heap.size + 1 + 1) (w.heap.size + 1 + 1 + 1) 32 38 A0 (ans 5 0 ⟨#[]⟩) (fresh r e now ver).c (fresh r e now ver).c 2 3) (by kernel_rfl) (by kernel_rfl) (Ev.two_start b3 b4) ?_
  refine Ev.ev_step (v := .agg (ans 5 0 ⟨#[]⟩)) rfl rfl (Ev.two_call (by decide) (by decide) 41 #[.int .i64 5] (fun _ => by first | (go_simp; done) | (go_simp; rfl)) (fun w => refSay_calls 5 w)) ?_
  simp only [Act.put, List.setIfInBounds_toArray, List.set_cons_succ, List.set_cons_zero]
  refine Ev.ev_step (v := .agg (fresh r e now ver).c) rfl rfl (Ev.two_load2 (by decide) (by decide) 38 (.tmp 11) rfl rfl _ rfl Tryd.underlying38 rfl (by kernel_rfl)) ?_
  simp only [Act.put, List.setIfInBounds_toArray, List.set_cons_succ, List.set_cons_zero]
  refine Ev.ev_step (v := undef) rfl rfl (Ev.two_store1 (by decide) (by omega) 32 (.tmp 10) (.tmp 109) rfl rfl rfl rfl (by kernel_rfl) (ans_one _ _ _)) ?_
  simp only [Act.put]
  refine Ev.ev_step (v := undef) rfl rfl (Ev.two_store2 (by decide) (by omega) 38 (.tmp 11) (.tmp 110) rfl rfl rfl rfl (by kernel_rfl) (ent_one _)) ?_
  simp only [Act.put]
  refine Ev.ev_step (v := .bool false) rfl rfl (Ev.two_pure (by decide) (by decide) (fun _ => by rfl)) ?_
  simp only [Act.put, List.setIfInBounds_toArray, List.set_cons_succ, List.set_cons_zero]
  refine Ev.ev_step (v := .bool false) rfl rfl (Ev.two_pure (by decide) (by decide) (fun _ => by rfl)) ?_
  simp only [Act.put, List.setIfInBounds_toArray, List.set_cons_succ, List.set_cons_zero]
  refine Ev.ev_nil (fun w_e hw_e => ?_)
  obtain ⟨hM_e, hA_e, hX_e⟩ := Ev.two_end hw_e (by decide) (by decide)
  clear hw_e
  go_wp2
  refine bodyPost_ret (Ev.results_c3 rfl rfl hA_e Tryd.underlying32 rfl (by kernel_rfl) rfl hX_e Tryd.underlying38 rfl (by kernel_rfl) rfl rfl) rfl ⟨rfl, ?_⟩
  exact Mod.after hB hB.size hM_e (fun k hk => by omega)
set_option maxHeartbeats 4000000 in
set_option maxRecDepth 100000 in
theorem rnext_delete (r : Rq) (kv : Value) (e : Ent) (now ver : Int) (w : World) (hr : r.verb = 9) :
    Calls Tryd.prog 18 #[.agg (r.c kv), .agg e.c, .bool true, .int .i64 now, .int .i64 ver] w fun e_ w' => e_ = .returned (.tuple #[.agg (ans 6 0 ⟨#[]⟩), .agg (fresh r e now ver).c, .bool false, .bool true]) ∧ Below w.heap.size w w' := by
  have HR := Aside0.mk hr
  clear hr
  simp only [Rq.c, Ent.c]
  go_enter Tryd.func18, Tryd.ntmps18
  go_wp2
  obtain ⟨W, hW⟩ : ∃ W, W = (((w.alloc (.cells (r.c kv) 27)).alloc (.cells e.c 38)).alloc (.cells A0 32)).alloc (.cells E0 38) := ⟨_, rfl⟩
  obtain ⟨b1, b2, b3, b4, hB⟩ := four w (.cells (r.c kv) 27) (.cells e.c 38) (.cells A0 32) (.cells E0 38)
  change Code.wp _ _ _ _ ((((w.alloc (.cells (r.c kv) 27)).alloc (.cells e.c 38)).alloc (.cells A0 32)).alloc (.cells E0 38))
  rw [← hW] at b1 b2 b3 b4 hB ⊢
  clear hW
  have c60 : W.cell? ⟨w.heap.size + 1, 0, none⟩ = some (.string e.key) := blk_cell b2 0
  have c52 : W.cell? ⟨w.heap.size, 2, none⟩ = some (.int .i64 r.fl) := blk_cell b1 2
  have c53 : W.cell? ⟨w.heap.size, 3, none⟩ = some (.int .i64 r.exp) := blk_cell b1 3
  have c58 : W.cell? ⟨w.heap.size, 8, none⟩ = some (.string r.data) := blk_cell b1 8
  refine Ev.region_ev (Gen W (w.heap.size + 1 + 1 + 1) 38 (freshAt (fresh r e now ver).c)) (by kernel_rfl) (by kernel_rfl) (gen_start b4 (by unfold freshAt; rw [no_bit]; rfl)) ?_
  refine Ev.ev_step (v := .pointer (some ⟨(w.heap.size + 1), 0, none⟩)) rfl rfl (gen_pure (freshAt_other _ (by decide)) (fun _ => by first | rfl | (go_simp; done) | (go_simp; rfl))) ?_
  simp only [Act.put, List.setIfInBounds_toArray, List.set_cons_succ, List.set_cons_zero]
  refine Ev.ev_step (v := .string e.key) rfl rfl (gen_load (freshAt_other _ (by decide)) ⟨(w.heap.size + 1), 0, none⟩ (c60) (show (w.heap.size + 1) ≠ (w.heap.size + 1 + 1 + 1) by omega) (fun w hc => by go_simp)) ?_
  simp only [Act.put, List.setIfInBounds_toArray, List.set_cons_succ, List.set_cons_zero]
  refine Ev.ev_step (v := .pointer (some ⟨w.heap.size, 2, none⟩)) rfl rfl (gen_pure (freshAt_other _ (by decide)) (fun _ => by first | rfl | (go_simp; done) | (go_simp; rfl))) ?_
  simp only [Act.put, List.setIfInBounds_toArray, List.set_cons_succ, List.set_cons_zero]
  refine Ev.ev_step (v := .int .i64 r.fl) rfl rfl (gen_load (freshAt_other _ (by decide)) ⟨w.heap.size, 2, none⟩ (c52) (show w.heap.size ≠ (w.heap.size + 1 + 1 + 1) by omega) (fun w hc => by go_simp)) ?_
  simp only [Act.put, List.setIfInBounds_toArray, List.set_cons_succ, List.set_cons_zero]
  refine Ev.ev_step (v := .pointer (some ⟨w.heap.size, 3, none⟩)) rfl rfl (gen_pure (freshAt_other _ (by decide)) (fun _ => by first | rfl | (go_simp; done) | (go_simp; rfl))) ?_
  simp only [Act.put, List.setIfInBounds_toArray, List.set_cons_succ, List.set_cons_zero]
  refine Ev.ev_step (v := .int .i64 r.exp) rfl rfl (gen_load (freshAt_other _ (by decide)) ⟨w.heap.size, 3, none⟩ (c53) (show w.heap.size ≠ (w.heap.size + 1 + 1 + 1) by omega) (fun w hc => by go_simp)) ?_
  simp only [Act.put, List.setIfInBounds_toArray, List.set_cons_succ, List.set_cons_zero]
  refine Ev.ev_step (v := .int .i64 now) rfl rfl (gen_pure (freshAt_other _ (by decide)) (fun _ => by first | rfl | (go_simp; done) | (go_simp; rfl))) ?_
  simp only [Act.put, List.setIfInBounds_toArray, List.set_cons_succ, List.set_cons_zero]
  refine Ev.ev_step (v := .int .i64 (dead r.exp now)) rfl rfl (gen_call (freshAt_other _ (by decide)) 40 #[.int .i64 r.exp, .int .i64 now] (fun _ => by first | (go_simp; done) | (go_simp; rfl)) (fun w => refDead_calls _ _ w)) ?_
  simp only [Act.put, List.setIfInBounds_toArray, List.set_cons_succ, List.set_cons_zero]
  refine Ev.ev_step (v := .pointer (some ⟨w.heap.size, 8, none⟩)) rfl rfl (gen_pure (freshAt_other _ (by decide)) (fun _ => by first | rfl | (go_simp; done) | (go_simp; rfl))) ?_
  simp only [Act.put, List.setIfInBounds_toArray, List.set_cons_succ, List.set_cons_zero]
  refine Ev.ev_step (v := .string r.data) rfl rfl (gen_load (freshAt_other _ (by decide)) ⟨w.heap.size, 8, none⟩ (c58) (show w.heap.size ≠ (w.heap.size + 1 + 1 + 1) by omega) (fun w hc => by go_simp)) ?_
  simp only [Act.put, List.setIfInBounds_toArray, List.set_cons_succ, List.set_cons_zero]
  refine Ev.ev_step (v := .int .i64 ver) rfl rfl (gen_pure (freshAt_other _ (by decide)) (fun _ => by first | rfl | (go_simp; done) | (go_simp; rfl))) ?_
  simp only [Act.put, List.setIfInBounds_toArray, List.set_cons_succ, List.set_cons_zero]
  refine Ev.ev_step (v := .agg (fresh r e now ver).c) rfl rfl (gen_pure (freshAt_other _ (by decide)) (fun _ => by first | rfl | (go_simp; done) | (go_simp; rfl))) ?_
  simp only [Act.put, List.setIfInBounds_toArray, List.set_cons_succ, List.set_cons_zero]
  refine Ev.ev_step (v := undef) rfl rfl (gen_store (fresh r e now ver).c (fun S h => by unfold freshAt; rw [Ev.set_same h, if_pos rfl]) (fun S => by unfold freshAt; split <;> rfl) 38 (.tmp 11) (.tmp 26) rfl rfl rfl (by kernel_rfl) (ent_one _)) ?_
  simp only [Act.put]
  refine Ev.ev_nil (fun w_e hw_e => ?_)
  have hm := hw_e.mod
  have b4e := hw_e.blk
  rw [show freshAt (fresh r e now ver).c (Array.replicate _ true) = (fresh r e now ver).c by unfold freshAt; rw [all_bit (by decide), if_pos rfl]] at b4e
  clear hw_e c60 c52 c53 c58 b4
  replace b1 := hm.blk b1 (by omega)
  replace b2 := hm.blk b2 (by omega)
  replace b3 := hm.blk b3 (by omega)
  replace hB := hm.after hB hB.size (fun k hk => by omega)
  have b4 := b4e
  clear hm b4e
  have hr := HR.out
  have e3 : (r.verb == 3) = false := by rw [hr]; rfl
  have e4 : (r.verb == 4) = false := by rw [hr]; rfl
  have e5 : (r.verb == 5) = false := by rw [hr]; rfl
  have e6 : (r.verb == 6) = false := by rw [hr]; rfl
  have e7 : (r.verb == 7) = false := by rw [hr]; rfl
  have e8 : (r.verb == 8) = false := by rw [hr]; rfl
  have e9 : (r.verb == 9) = true := by rw [hr]; rfl
  have e10 : (r.verb == 10) = false := by rw [hr]; rfl
  have e11 : (r.verb == 11) = false := by rw [hr]; rfl
  have e12 : (r.verb == 12) = false := by rw [hr]; rfl
  have c50 : w_e.cell? ⟨w.heap.size, 0, none⟩ = some (.int .i64 r.verb) := blk_cell b1 0
  clear hr HR
  go_wp2
  clear e3 e4 e5 e6 e7 e8 e9 e10 e11 e12 c50
  obtain ⟨W2, hW2⟩ : ∃ W2, W2 = w_e := ⟨_, rfl⟩
  rw [← hW2] at b1 b2 b3 b4 hB ⊢
  clear hW2
  refine Ev.region_ev (Ev.Two W2 (w.heap.size + 1 + 1) (w.heap.size + 1 + 1 + 1) 32 38 A0 (ans 6 0 ⟨#[]⟩) (fresh r e now ver).c (fresh r e now ver).c 2 3) (by kernel_rfl) (by kernel_rfl) (Ev.two_start b3 b4) ?_
  refine Ev.ev_step (v := .agg (ans 6 0 ⟨#[]⟩)) rfl rfl (Ev.two_call (by decide) (by decide) 41 #[.int .i64 6] (fun _ => by first | (go_simp; done) | (go_simp; rfl)) (fun w => refSay_calls 6 w)) ?_
  simp only [Act.put, List.setIfInBounds_toArray, List.set_cons_succ, List.set_cons_zero]
  refine Ev.ev_step (v := .agg (fresh r e now ver).c) rfl rfl (Ev.two_load2 (by decide) (by decide) 38 (.tmp 11) rfl rfl _ rfl Tryd.underlying38 rfl (by kernel_rfl)) ?_
  simp only [Act.put, List.setIfInBounds_toArray, List.set_cons_succ, List.set_cons_zero]
  refine Ev.ev_step (v := undef) rfl rfl (Ev.two_store1 (by decide) (by omega) 32 (.tmp 10) (.tmp 103) rfl rfl rfl rfl (by kernel_rfl) (ans_one _ _ _)) ?_
  simp only [Act.put]
  refine Ev.ev_step (v := undef) rfl rfl (Ev.two_store2 (by decide) (by omega) 38 (.tmp 11) (.tmp 104) rfl rfl rfl rfl (by kernel_rfl) (ent_one _)) ?_
  simp only [Act.put]
  refine Ev.ev_step (v := .bool false) rfl rfl (Ev.two_pure (by decide) (by decide) (fun _ => by rfl)) ?_
  simp only [Act.put, List.setIfInBounds_toArray, List.set_cons_succ, List.set_cons_zero]
  refine Ev.ev_step (v := .bool true) rfl rfl (Ev.two_pure (by decide) (by decide) (fun _ => by rfl)) ?_
  simp only [Act.put, List.setIfInBounds_toArray, List.set_cons_succ, List.set_cons_zero]
  refine Ev.ev_nil (fun w_e hw_e => ?_)
  obtain ⟨hM_e, hA_e, hX_e⟩ := Ev.two_end hw_e (by decide) (by decide)
  clear hw_e
  go_wp2
  refine bodyPost_ret (Ev.results_c3 rfl rfl hA_e Tryd.underlying32 rfl (by kernel_rfl) rfl hX_e Tryd.underlying38 rfl (by kernel_rfl) rfl rfl) rfl ⟨rfl, ?_⟩
  exact Mod.after hB hB.size hM_e (fun k hk => by omega)
set_option maxHeartbeats 4000000 in
set_option maxRecDepth 100000 in
theorem rnext_cas_other (r : Rq) (kv : Value) (e : Ent) (hc : e.cas ≠ r.cas) (now ver : Int) (w : World) (hr : r.verb = 8) :
    Calls Tryd.prog 18 #[.agg (r.c kv), .agg e.c, .bool true, .int .i64 now, .int .i64 ver] w fun e_ w' => e_ = .returned (.tuple #[.agg (ans 4 0 ⟨#[]⟩), .agg (fresh r e now ver).c, .bool false, .bool false]) ∧ Below w.heap.size w w' := by
  have HC := Aside0.mk hc
  clear hc
  have HR := Aside0.mk hr
  clear hr
  simp only [Rq.c, Ent.c]
  go_enter Tryd.func18, Tryd.ntmps18
  go_wp2
  obtain ⟨W, hW⟩ : ∃ W, W = (((w.alloc (.cells (r.c kv) 27)).alloc (.cells e.c 38)).alloc (.cells A0 32)).alloc (.cells E0 38) := ⟨_, rfl⟩
  obtain ⟨b1, b2, b3, b4, hB⟩ := four w (.cells (r.c kv) 27) (.cells e.c 38) (.cells A0 32) (.cells E0 38)
  change Code.wp _ _ _ _ ((((w.alloc (.cells (r.c kv) 27)).alloc (.cells e.c 38)).alloc (.cells A0 32)).alloc (.cells E0 38))
  rw [← hW] at b1 b2 b3 b4 hB ⊢
  clear hW
  have c60 : W.cell? ⟨w.heap.size + 1, 0, none⟩ = some (.string e.key) := blk_cell b2 0
  have c52 : W.cell? ⟨w.heap.size, 2, none⟩ = some (.int .i64 r.fl) := blk_cell b1 2
  have c53 : W.cell? ⟨w.heap.size, 3, none⟩ = some (.int .i64 r.exp) := blk_cell b1 3
  have c58 : W.cell? ⟨w.heap.size, 8, none⟩ = some (.string r.data) := blk_cell b1 8
  refine Ev.region_ev (Gen W (w.heap.size + 1 + 1 + 1) 38 (freshAt (fresh r e now ver).c)) (by kernel_rfl) (by kernel_rfl) (gen_start b4 (by unfold freshAt; rw [no_bit]; rfl)) ?_
  refine Ev.ev_step (v := .pointer (some ⟨(w.heap.size + 1), 0, none⟩)) rfl rfl (gen_pure (freshAt_other _ (by decide)) (fun _ => by first | rfl | (go_simp; done) | (go_simp; rfl))) ?_
  simp only [Act.put, List.setIfInBounds_toArray, List.set_cons_succ, List.set_cons_zero]
  refine Ev.ev_step (v := .string e.key) rfl rfl (gen_load (freshAt_other _ (by decide)) ⟨(w.heap.size + 1), 0, none⟩ (c60) (show (w.heap.size + 1) ≠ (w.heap.size + 1 + 1 + 1) by omega) (fun w hc => by go_simp)) ?_
  simp only [Act.put, List.setIfInBounds_toArray, List.set_cons_succ, List.set_cons_zero]
  refine Ev.ev_step (v := .pointer (some ⟨w.heap.size, 2, none⟩)) rfl rfl (gen_pure (freshAt_other _ (by decide)) (fun _ => by first | rfl | (go_simp; done) | (go_simp; rfl))) ?_
  simp only [Act.put, List.setIfInBounds_toArray, List.set_cons_succ, List.set_cons_zero]
  refine Ev.ev_step (v := .int .i64 r.fl) rfl rfl (gen_load (freshAt_other _ (by decide)) ⟨w.heap.size, 2, none⟩ (c52) (show w.heap.size ≠ (w.heap.size + 1 + 1 + 1) by omega) (fun w hc => by go_simp)) ?_
  simp only [Act.put, List.setIfInBounds_toArray, List.set_cons_succ, List.set_cons_zero]
  refine Ev.ev_step (v := .pointer (some ⟨w.heap.size, 3, none⟩)) rfl rfl (gen_pure (freshAt_other _ (by decide)) (fun _ => by first | rfl | (go_simp; done) | (go_simp; rfl))) ?_
  simp only [Act.put, List.setIfInBounds_toArray, List.set_cons_succ, List.set_cons_zero]
  refine Ev.ev_step (v := .int .i64 r.exp) rfl rfl (gen_load (freshAt_other _ (by decide)) ⟨w.heap.size, 3, none⟩ (c53) (show w.heap.size ≠ (w.heap.size + 1 + 1 + 1) by omega) (fun w hc => by go_simp)) ?_
  simp only [Act.put, List.setIfInBounds_toArray, List.set_cons_succ, List.set_cons_zero]
  refine Ev.ev_step (v := .int .i64 now) rfl rfl (gen_pure (freshAt_other _ (by decide)) (fun _ => by first | rfl | (go_simp; done) | (go_simp; rfl))) ?_
  simp only [Act.put, List.setIfInBounds_toArray, List.set_cons_succ, List.set_cons_zero]
  refine Ev.ev_step (v := .int .i64 (dead r.exp now)) rfl rfl (gen_call (freshAt_other _ (by decide)) 40 #[.int .i64 r.exp, .int .i64 now] (fun _ => by first | (go_simp; done) | (go_simp; rfl)) (fun w => refDead_calls _ _ w)) ?_
  simp only [Act.put, List.setIfInBounds_toArray, List.set_cons_succ, List.set_cons_zero]
  refine Ev.ev_step (v := .pointer (some ⟨w.heap.size, 8, none⟩)) rfl rfl (gen_pure (freshAt_other _ (by decide)) (fun _ => by first | rfl | (go_simp; done) | (go_simp; rfl))) ?_
  simp only [Act.put, List.setIfInBounds_toArray, List.set_cons_succ, List.set_cons_zero]
  refine Ev.ev_step (v := .string r.data) rfl rfl (gen_load (freshAt_other _ (by decide)) ⟨w.heap.size, 8, none⟩ (c58) (show w.heap.size ≠ (w.heap.size + 1 + 1 + 1) by omega) (fun w hc => by go_simp)) ?_
  simp only [Act.put, List.setIfInBounds_toArray, List.set_cons_succ, List.set_cons_zero]
  refine Ev.ev_step (v := .int .i64 ver) rfl rfl (gen_pure (freshAt_other _ (by decide)) (fun _ => by first | rfl | (go_simp; done) | (go_simp; rfl))) ?_
  simp only [Act.put, List.setIfInBounds_toArray, List.set_cons_succ, List.set_cons_zero]
  refine Ev.ev_step (v := .agg (fresh r e now ver).c) rfl rfl (gen_pure (freshAt_other _ (by decide)) (fun _ => by first | rfl | (go_simp; done) | (go_simp; rfl))) ?_
  simp only [Act.put, List.setIfInBounds_toArray, List.set_cons_succ, List.set_cons_zero]
  refine Ev.ev_step (v := undef) rfl rfl (gen_store (fresh r e now ver).c (fun S h => by unfold freshAt; rw [Ev.set_same h, if_pos rfl]) (fun S => by unfold freshAt; split <;> rfl) 38 (.tmp 11) (.tmp 26) rfl rfl rfl (by kernel_rfl) (ent_one _)) ?_
  simp only [Act.put]
  refine Ev.ev_nil (fun w_e hw_e => ?_)
  have hm := hw_e.mod
  have b4e := hw_e.blk
  rw [show freshAt (fresh r e now ver).c (Array.replicate _ true) = (fresh r e now ver).c by unfold freshAt; rw [all_bit (by decide), if_pos rfl]] at b4e
  clear hw_e c60 c52 c53 c58 b4
  replace b1 := hm.blk b1 (by omega)
  replace b2 := hm.blk b2 (by omega)
  replace b3 := hm.blk b3 (by omega)
  replace hB := hm.after hB hB.size (fun k hk => by omega)
  have b4 := b4e
  clear hm b4e
  have hr := HR.out
  have e3 : (r.verb == 3) = false := by rw [hr]; rfl
  have e4 : (r.verb == 4) = false := by rw [hr]; rfl
  have e5 : (r.verb == 5) = false := by rw [hr]; rfl
  have e6 : (r.verb == 6) = false := by rw [hr]; rfl
  have e7 : (r.verb == 7) = false := by rw [hr]; rfl
  have e8 : (r.verb == 8) = true := by rw [hr]; rfl
  have e9 : (r.verb == 9) = false := by rw [hr]; rfl
  have e10 : (r.verb == 10) = false := by rw [hr]; rfl
  have e11 : (r.verb == 11) = false := by rw [hr]; rfl
  have e12 : (r.verb == 12) = false := by rw [hr]; rfl
  have c50 : w_e.cell? ⟨w.heap.size, 0, none⟩ = some (.int .i64 r.verb) := blk_cell b1 0
  clear hr HR
  have c54 : w_e.cell? ⟨w.heap.size + 1, 4, none⟩ = some (.int .i64 e.cas) := blk_cell b2 4
  have c55 : w_e.cell? ⟨w.heap.size, 5, none⟩ = some (.int .i64 r.cas) := blk_cell b1 5
  have ec : (e.cas == r.cas) = false := by simp [HC.out]
  clear HC
  go_wp2
  clear e3 e4 e5 e6 e7 e8 e9 e10 e11 e12 c50 c54 c55 ec
  obtain ⟨W2, hW2⟩ : ∃ W2, W2 = w_e := ⟨_, rfl⟩
  rw [← hW2] at b1 b2 b3 b4 hB ⊢
  clear hW2
  refine Ev.region_ev (Ev.Two W2 (w.heap.size + 1 + 1) (w.heap.size + 1 + 1 + 1) 32 38 A0 (ans 4 0 ⟨#[]⟩) (fresh r e now ver).c (fresh r e now ver).c 2 3) (by kernel_rfl) (by kernel_rfl) (Ev.two_start b3 b4) ?_
  refine Ev.ev_step (v := .agg (ans 4 0 ⟨#[]⟩)) rfl rfl (Ev.two_call (by decide) (by decide) 41 #[.int .i64 4] (fun _ => by first | (go_simp; done) | (go_simp; rfl)) (fun w => refSay_calls 4 w)) ?_
  simp only [Act.put, List.setIfInBounds_toArray, List.set_cons_succ, List.set_cons_zero]
  refine Ev.ev_step (v := .agg (fresh r e now ver).c) rfl rfl (Ev.two_load2 (by decide) (by decide) 38 (.tmp 11) rfl rfl _ rfl Tryd.underlying38 rfl (by kernel_rfl)) ?_
  simp only [Act.put, List.setIfInBounds_toArray, List.set_cons_succ, List.set_cons_zero]
  refine Ev.ev_step (v := undef) rfl rfl (Ev.two_store1 (by decide) (by omega) 32 (.tmp 10) (.tmp 93) rfl rfl rfl rfl (by kernel_rfl) (ans_one _ _ _)) ?_
  simp only [Act.put]
  refine Ev.ev_step (v := undef) rfl rfl (Ev.two_store2 (by decide) (by omega) 38 (.tmp 11) (.tmp 94) rfl rfl rfl rfl (by kernel_rfl) (ent_one _)) ?_
  simp only [Act.put]
  refine Ev.ev_step (v := .bool false) rfl rfl (Ev.two_pure (by decide) (by decide) (fun _ => by rfl)) ?_
  simp only [Act.put, List.setIfInBounds_toArray, List.set_cons_succ, List.set_cons_zero]
  refine Ev.ev_step (v := .bool false) rfl rfl (Ev.two_pure (by decide) (by decide) (fun _ => by rfl)) ?_
  simp only [Act.put, List.setIfInBounds_toArray, List.set_cons_succ, List.set_cons_zero]
  refine Ev.ev_nil (fun w_e hw_e => ?_)
  obtain ⟨hM_e, hA_e, hX_e⟩ := Ev.two_end hw_e (by decide) (by decide)
  clear hw_e
  go_wp2
  refine bodyPost_ret (Ev.results_c3 rfl rfl hA_e Tryd.underlying32 rfl (by kernel_rfl) rfl hX_e Tryd.underlying38 rfl (by kernel_rfl) rfl rfl) rfl ⟨rfl, ?_⟩
  exact Mod.after hB hB.size hM_e (fun k hk => by omega)
set_option maxHeartbeats 4000000 in
set_option maxRecDepth 100000 in
theorem rnext_cas (r : Rq) (kv : Value) (e : Ent) (hc : e.cas = r.cas) (now ver : Int) (w : World) (hr : r.verb = 8) :
    Calls Tryd.prog 18 #[.agg (r.c kv), .agg e.c, .bool true, .int .i64 now, .int .i64 ver] w fun e_ w' => e_ = .returned (.tuple #[.agg (ans 2 0 ⟨#[]⟩), .agg (fresh r e now ver).c, .bool true, .bool false]) ∧ Below w.heap.size w w' := by
  have HC := Aside0.mk hc
  clear hc
  have HR := Aside0.mk hr
  clear hr
  simp only [Rq.c, Ent.c]
  go_enter Tryd.func18, Tryd.ntmps18
  go_wp2
  obtain ⟨W, hW⟩ : ∃ W, W = (((w.alloc (.cells (r.c kv) 27)).alloc (.cells e.c 38)).alloc (.cells A0 32)).alloc (.cells E0 38) := ⟨_, rfl⟩
  obtain ⟨b1, b2, b3, b4, hB⟩ := four w (.cells (r.c kv) 27) (.cells e.c 38) (.cells A0 32) (.cells E0 38)
  change Code.wp _ _ _ _ ((((w.alloc (.cells (r.c kv) 27)).alloc (.cells e.c 38)).alloc (.cells A0 32)).alloc (.cells E0 38))
  rw [← hW] at b1 b2 b3 b4 hB ⊢
  clear hW
  have c60 : W.cell? ⟨w.heap.size + 1, 0, none⟩ = some (.string e.key) := blk_cell b2 0
  have c52 : W.cell? ⟨w.heap.size, 2, none⟩ = some (.int .i64 r.fl) := blk_cell b1 2
  have c53 : W.cell? ⟨w.heap.size, 3, none⟩ = some (.int .i64 r.exp) := blk_cell b1 3
  have c58 : W.cell? ⟨w.heap.size, 8, none⟩ = some (.string r.data) := blk_cell b1 8
  refine Ev.region_ev (Gen W (w.heap.size + 1 + 1 + 1) 38 (freshAt (fresh r e now ver).c)) (by kernel_rfl) (by kernel_rfl) (gen_start b4 (by unfold freshAt; rw [no_bit]; rfl)) ?_
  refine Ev.ev_step (v := .pointer (some ⟨(w.heap.size + 1), 0, none⟩)) rfl rfl (gen_pure (freshAt_other _ (by decide)) (fun _ => by first | rfl | (go_simp; done) | (go_simp; rfl))) ?_
  simp only [Act.put, List.setIfInBounds_toArray, List.set_cons_succ, List.set_cons_zero]
  refine Ev.ev_step (v := .string e.key) rfl rfl (gen_load (freshAt_other _ (by decide)) ⟨(w.heap.size + 1), 0, none⟩ (c60) (show (w.heap.size + 1) ≠ (w.heap.size + 1 + 1 + 1) by omega) (fun w hc => by go_simp)) ?_
  simp only [Act.put, List.setIfInBounds_toArray, List.set_cons_succ, List.set_cons_zero]
  refine Ev.ev_step (v := .pointer (some ⟨w.heap.size, 2, none⟩)) rfl rfl (gen_pure (freshAt_other _ (by decide)) (fun _ => by first | rfl | (go_simp; done) | (go_simp; rfl))) ?_
  simp only [Act.put, List.setIfInBounds_toArray, List.set_cons_succ, List.set_cons_zero]
  refine Ev.ev_step (v := .int .i64 r.fl) rfl rfl (gen_load (freshAt_other _ (by decide)) ⟨w.heap.size, 2, none⟩ (c52) (show w.heap.size ≠ (w.heap.size + 1 + 1 + 1) by omega) (fun w hc => by go_simp)) ?_
  simp only [Act.put, List.setIfInBounds_toArray, List.set_cons_succ, List.set_cons_zero]
  refine Ev.ev_step (v := .pointer (some ⟨w.heap.size, 3, none⟩)) rfl rfl (gen_pure (freshAt_other _ (by decide)) (fun _ => by first | rfl | (go_simp; done) | (go_simp; rfl))) ?_
  simp only [Act.put, List.setIfInBounds_toArray, List.set_cons_succ, List.set_cons_zero]
  refine Ev.ev_step (v := .int .i64 r.exp) rfl rfl (gen_load (freshAt_other _ (by decide)) ⟨w.heap.size, 3, none⟩ (c53) (show w.heap.size ≠ (w.heap.size + 1 + 1 + 1) by omega) (fun w hc => by go_simp)) ?_
  simp only [Act.put, List.setIfInBounds_toArray, List.set_cons_succ, List.set_cons_zero]
  refine Ev.ev_step (v := .int .i64 now) rfl rfl (gen_pure (freshAt_other _ (by decide)) (fun _ => by first | rfl | (go_simp; done) | (go_simp; rfl))) ?_
  simp only [Act.put, List.setIfInBounds_toArray, List.set_cons_succ, List.set_cons_zero]
  refine Ev.ev_step (v := .int .i64 (dead r.exp now)) rfl rfl (gen_call (freshAt_other _ (by decide)) 40 #[.int .i64 r.exp, .int .i64 now] (fun _ => by first | (go_simp; done) | (go_simp; rfl)) (fun w => refDead_calls _ _ w)) ?_
  simp only [Act.put, List.setIfInBounds_toArray, List.set_cons_succ, List.set_cons_zero]
  refine Ev.ev_step (v := .pointer (some ⟨w.heap.size, 8, none⟩)) rfl rfl (gen_pure (freshAt_other _ (by decide)) (fun _ => by first | rfl | (go_simp; done) | (go_simp; rfl))) ?_
  simp only [Act.put, List.setIfInBounds_toArray, List.set_cons_succ, List.set_cons_zero]
  refine Ev.ev_step (v := .string r.data) rfl rfl (gen_load (freshAt_other _ (by decide)) ⟨w.heap.size, 8, none⟩ (c58) (show w.heap.size ≠ (w.heap.size + 1 + 1 + 1) by omega) (fun w hc => by go_simp)) ?_
  simp only [Act.put, List.setIfInBounds_toArray, List.set_cons_succ, List.set_cons_zero]
  refine Ev.ev_step (v := .int .i64 ver) rfl rfl (gen_pure (freshAt_other _ (by decide)) (fun _ => by first | rfl | (go_simp; done) | (go_simp; rfl))) ?_
  simp only [Act.put, List.setIfInBounds_toArray, List.set_cons_succ, List.set_cons_zero]
  refine Ev.ev_step (v := .agg (fresh r e now ver).c) rfl rfl (gen_pure (freshAt_other _ (by decide)) (fun _ => by first | rfl | (go_simp; done) | (go_simp; rfl))) ?_
  simp only [Act.put, List.setIfInBounds_toArray, List.set_cons_succ, List.set_cons_zero]
  refine Ev.ev_step (v := undef) rfl rfl (gen_store (fresh r e now ver).c (fun S h => by unfold freshAt; rw [Ev.set_same h, if_pos rfl]) (fun S => by unfold freshAt; split <;> rfl) 38 (.tmp 11) (.tmp 26) rfl rfl rfl (by kernel_rfl) (ent_one _)) ?_
  simp only [Act.put]
  refine Ev.ev_nil (fun w_e hw_e => ?_)
  have hm := hw_e.mod
  have b4e := hw_e.blk
  rw [show freshAt (fresh r e now ver).c (Array.replicate _ true) = (fresh r e now ver).c by unfold freshAt; rw [all_bit (by decide), if_pos rfl]] at b4e
  clear hw_e c60 c52 c53 c58 b4
  replace b1 := hm.blk b1 (by omega)
  replace b2 := hm.blk b2 (by omega)
  replace b3 := hm.blk b3 (by omega)
  replace hB := hm.after hB hB.size (fun k hk => by omega)
  have b4 := b4e
  clear hm b4e
  have hr := HR.out
  have e3 : (r.verb == 3) = false := by rw [hr]; rfl
  have e4 : (r.verb == 4) = false := by rw [hr]; rfl
  have e5 : (r.verb == 5) = false := by rw [hr]; rfl
  have e6 : (r.verb == 6) = false := by rw [hr]; rfl
  have e7 : (r.verb == 7) = false := by rw [hr]; rfl
  have e8 : (r.verb == 8) = true := by rw [hr]; rfl
  have e9 : (r.verb == 9) = false := by rw [hr]; rfl
  have e10 : (r.verb == 10) = false := by rw [hr]; rfl
  have e11 : (r.verb == 11) = false := by rw [hr]; rfl
  have e12 : (r.verb == 12) = false := by rw [hr]; rfl
  have c50 : w_e.cell? ⟨w.heap.size, 0, none⟩ = some (.int .i64 r.verb) := blk_cell b1 0
  clear hr HR
  have c54 : w_e.cell? ⟨w.heap.size + 1, 4, none⟩ = some (.int .i64 e.cas) := blk_cell b2 4
  have c55 : w_e.cell? ⟨w.heap.size, 5, none⟩ = some (.int .i64 r.cas) := blk_cell b1 5
  have ec : (e.cas == r.cas) = true := by simp [HC.out]
  clear HC
  go_wp2
  clear e3 e4 e5 e6 e7 e8 e9 e10 e11 e12 c50 c54 c55 ec
  obtain ⟨W2, hW2⟩ : ∃ W2, W2 = w_e := ⟨_, rfl⟩
  rw [← hW2] at b1 b2 b3 b4 hB ⊢
  clear hW2
  refine Ev.region_ev (Ev.Two W2 (w.heap.size + 1 + 1) (w.heap.size + 1 + 1 + 1) 32 38 A0 (ans 2 0 ⟨#[]⟩) (fresh r e now ver).c (fresh r e now ver).c 2 3) (by kernel_rfl) (by kernel_rfl) (Ev.two_start b3 b4) ?_
  refine Ev.ev_step (v := .agg (ans 2 0 ⟨#[]⟩)) rfl rfl (Ev.two_call (by decide) (by decide) 41 #[.int .i64 2] (fun _ => by first | (go_simp; done) | (go_simp; rfl)) (fun w => refSay_calls 2 w)) ?_
  simp only [Act.put, List.setIfInBounds_toArray, List.set_cons_succ, List.set_cons_zero]
  refine Ev.ev_step (v := .agg (fresh r e now ver).c) rfl rfl (Ev.two_load2 (by decide) (by decide) 38 (.tmp 11) rfl rfl _ rfl Tryd.underlying38 rfl (by kernel_rfl)) ?_
  simp only [Act.put, List.setIfInBounds_toArray, List.set_cons_succ, List.set_cons_zero]
  refine Ev.ev_step (v := undef) rfl rfl (Ev.two_store1 (by decide) (by omega) 32 (.tmp 10) (.tmp 95) rfl rfl rfl rfl (by kernel_rfl) (ans_one _ _ _)) ?_
  simp only [Act.put]
  refine Ev.ev_step (v := undef) rfl rfl (Ev.two_store2 (by decide) (by omega) 38 (.tmp 11) (.tmp 96) rfl rfl rfl rfl (by kernel_rfl) (ent_one _)) ?_
  simp only [Act.put]
  refine Ev.ev_step (v := .bool true) rfl rfl (Ev.two_pure (by decide) (by decide) (fun _ => by rfl)) ?_
  simp only [Act.put, List.setIfInBounds_toArray, List.set_cons_succ, List.set_cons_zero]
  refine Ev.ev_step (v := .bool false) rfl rfl (Ev.two_pure (by decide) (by decide) (fun _ => by rfl)) ?_
  simp only [Act.put, List.setIfInBounds_toArray, List.set_cons_succ, List.set_cons_zero]
  refine Ev.ev_nil (fun w_e hw_e => ?_)
  obtain ⟨hM_e, hA_e, hX_e⟩ := Ev.two_end hw_e (by decide) (by decide)
  clear hw_e
  go_wp2
  refine bodyPost_ret (Ev.results_c3 rfl rfl hA_e Tryd.underlying32 rfl (by kernel_rfl) rfl hX_e Tryd.underlying38 rfl (by kernel_rfl) rfl rfl) rfl ⟨rfl, ?_⟩
  exact Mod.after hB hB.size hM_e (fun k hk => by omega)
set_option maxHeartbeats 4000000 in
set_option maxRecDepth 100000 in
theorem rnext_else (r : Rq) (kv : Value) (e : Ent) (there : Bool) (now ver : Int) (w : World) (hr : r.verb ≠ 3 ∧ r.verb ≠ 4 ∧ r.verb ≠ 5 ∧ r.verb ≠ 6 ∧ r.verb ≠ 7 ∧ r.verb ≠ 8 ∧ r.verb ≠ 9 ∧ r.verb ≠ 10 ∧ r.verb ≠ 11 ∧ r.verb ≠ 12) :
    Calls Tryd.prog 18 #[.agg (r.c kv), .agg e.c, .bool there, .int .i64 now, .int .i64 ver] w fun e_ w' => e_ = .returned (.tuple #[.agg (ans 0 0 ⟨#[]⟩), .agg (fresh r e now ver).c, .bool false, .bool false]) ∧ Below w.heap.size w w' := by
  have HR := Aside0.mk hr
  clear hr
  simp only [Rq.c, Ent.c]
  go_enter Tryd.func18, Tryd.ntmps18
  go_wp2
  obtain ⟨W, hW⟩ : ∃ W, W = (((w.alloc (.cells (r.c kv) 27)).alloc (.cells e.c 38)).alloc (.cells A0 32)).alloc (.cells E0 38) := ⟨_, rfl⟩
  obtain ⟨b1, b2, b3, b4, hB⟩ := four w (.cells (r.c kv) 27) (.cells e.c 38) (.cells A0 32) (.cells E0 38)
  change Code.wp _ _ _ _ ((((w.alloc (.cells (r.c kv) 27)).alloc (.cells e.c 38)).alloc (.cells A0 32)).alloc (.cells E0 38))
  rw [← hW] at b1 b2 b3 b4 hB ⊢
  clear hW
  have c60 : W.cell? ⟨w.heap.size + 1, 0, none⟩ = some (.string e.key) := blk_cell b2 0
  have c52 : W.cell? ⟨w.heap.size, 2, none⟩ = some (.int .i64 r.fl) := blk_cell b1 2
  have c53 : W.cell? ⟨w.heap.size, 3, none⟩ = some (.int .i64 r.exp) := blk_cell b1 3
  have c58 : W.cell? ⟨w.heap.size, 8, none⟩ = some (.string r.data) := blk_cell b1 8
  refine Ev.region_ev (Gen W (w.heap.size + 1 + 1 + 1) 38 (freshAt (fresh r e now ver).c)) (by kernel_rfl) (by kernel_rfl) (gen_start b4 (by unfold freshAt; rw [no_bit]; rfl)) ?_
  refine Ev.ev_step (v := .pointer (some ⟨(w.heap.size + 1), 0, none⟩)) rfl rfl (gen_pure (freshAt_other _ (by decide)) (fun _ => by first | rfl | (go_simp; done) | (go_simp; rfl))) ?_
  simp only [Act.put, List.setIfInBounds_toArray, List.set_cons_succ, List.set_cons_zero]
  refine Ev.ev_step (v := .string e.key) rfl rfl (gen_load (freshAt_other _ (by decide)) ⟨(w.heap.size + 1), 0, none⟩ (c60) (show (w.heap.size + 1) ≠ (w.heap.size + 1 + 1 + 1) by omega) (fun w hc => by go_simp)) ?_
  simp only [Act.put, List.setIfInBounds_toArray, List.set_cons_succ, List.set_cons_zero]
  refine Ev.ev_step (v := .pointer (some ⟨w.heap.size, 2, none⟩)) rfl rfl (gen_pure (freshAt_other _ (by decide)) (fun _ => by first | rfl | (go_simp; done) | (go_simp; rfl))) ?_
  simp only [Act.put, List.setIfInBounds_toArray, List.set_cons_succ, List.set_cons_zero]
  refine Ev.ev_step (v := .int .i64 r.fl) rfl rfl (gen_load (freshAt_other _ (by decide)) ⟨w.heap.size, 2, none⟩ (c52) (show w.heap.size ≠ (w.heap.size + 1 + 1 + 1) by omega) (fun w hc => by go_simp)) ?_
  simp only [Act.put, List.setIfInBounds_toArray, List.set_cons_succ, List.set_cons_zero]
  refine Ev.ev_step (v := .pointer (some ⟨w.heap.size, 3, none⟩)) rfl rfl (gen_pure (freshAt_other _ (by decide)) (fun _ => by first | rfl | (go_simp; done) | (go_simp; rfl))) ?_
  simp only [Act.put, List.setIfInBounds_toArray, List.set_cons_succ, List.set_cons_zero]
  refine Ev.ev_step (v := .int .i64 r.exp) rfl rfl (gen_load (freshAt_other _ (by decide)) ⟨w.heap.size, 3, none⟩ (c53) (show w.heap.size ≠ (w.heap.size + 1 + 1 + 1) by omega) (fun w hc => by go_simp)) ?_
  simp only [Act.put, List.setIfInBounds_toArray, List.set_cons_succ, List.set_cons_zero]
  refine Ev.ev_step (v := .int .i64 now) rfl rfl (gen_pure (freshAt_other _ (by decide)) (fun _ => by first | rfl | (go_simp; done) | (go_simp; rfl))) ?_
  simp only [Act.put, List.setIfInBounds_toArray, List.set_cons_succ, List.set_cons_zero]
  refine Ev.ev_step (v := .int .i64 (dead r.exp now)) rfl rfl (gen_call (freshAt_other _ (by decide)) 40 #[.int .i64 r.exp, .int .i64 now] (fun _ => by first | (go_simp; done) | (go_simp; rfl)) (fun w => refDead_calls _ _ w)) ?_
  simp only [Act.put, List.setIfInBounds_toArray, List.set_cons_succ, List.set_cons_zero]
  refine Ev.ev_step (v := .pointer (some ⟨w.heap.size, 8, none⟩)) rfl rfl (gen_pure (freshAt_other _ (by decide)) (fun _ => by first | rfl | (go_simp; done) | (go_simp; rfl))) ?_
  simp only [Act.put, List.setIfInBounds_toArray, List.set_cons_succ, List.set_cons_zero]
  refine Ev.ev_step (v := .string r.data) rfl rfl (gen_load (freshAt_other _ (by decide)) ⟨w.heap.size, 8, none⟩ (c58) (show w.heap.size ≠ (w.heap.size + 1 + 1 + 1) by omega) (fun w hc => by go_simp)) ?_
  simp only [Act.put, List.setIfInBounds_toArray, List.set_cons_succ, List.set_cons_zero]
  refine Ev.ev_step (v := .int .i64 ver) rfl rfl (gen_pure (freshAt_other _ (by decide)) (fun _ => by first | rfl | (go_simp; done) | (go_simp; rfl))) ?_
  simp only [Act.put, List.setIfInBounds_toArray, List.set_cons_succ, List.set_cons_zero]
  refine Ev.ev_step (v := .agg (fresh r e now ver).c) rfl rfl (gen_pure (freshAt_other _ (by decide)) (fun _ => by first | rfl | (go_simp; done) | (go_simp; rfl))) ?_
  simp only [Act.put, List.setIfInBounds_toArray, List.set_cons_succ, List.set_cons_zero]
  refine Ev.ev_step (v := undef) rfl rfl (gen_store (fresh r e now ver).c (fun S h => by unfold freshAt; rw [Ev.set_same h, if_pos rfl]) (fun S => by unfold freshAt; split <;> rfl) 38 (.tmp 11) (.tmp 26) rfl rfl rfl (by kernel_rfl) (ent_one _)) ?_
  simp only [Act.put]
  refine Ev.ev_nil (fun w_e hw_e => ?_)
  have hm := hw_e.mod
  have b4e := hw_e.blk
  rw [show freshAt (fresh r e now ver).c (Array.replicate _ true) = (fresh r e now ver).c by unfold freshAt; rw [all_bit (by decide), if_pos rfl]] at b4e
  clear hw_e c60 c52 c53 c58 b4
  replace b1 := hm.blk b1 (by omega)
  replace b2 := hm.blk b2 (by omega)
  replace b3 := hm.blk b3 (by omega)
  replace hB := hm.after hB hB.size (fun k hk => by omega)
  have b4 := b4e
  clear hm b4e
  obtain ⟨h3, h4, h5, h6, h7, h8, h9, h10, h11, h12⟩ := HR.out
  have e3 : (r.verb == 3) = false := beq_eq_false_iff_ne.2 h3
  have e4 : (r.verb == 4) = false := beq_eq_false_iff_ne.2 h4
  have e5 : (r.verb == 5) = false := beq_eq_false_iff_ne.2 h5
  have e6 : (r.verb == 6) = false := beq_eq_false_iff_ne.2 h6
  have e7 : (r.verb == 7) = false := beq_eq_false_iff_ne.2 h7
  have e8 : (r.verb == 8) = false := beq_eq_false_iff_ne.2 h8
  have e9 : (r.verb == 9) = false := beq_eq_false_iff_ne.2 h9
  have e10 : (r.verb == 10) = false := beq_eq_false_iff_ne.2 h10
  have e11 : (r.verb == 11) = false := beq_eq_false_iff_ne.2 h11
  have e12 : (r.verb == 12) = false := beq_eq_false_iff_ne.2 h12
  have c50 : w_e.cell? ⟨w.heap.size, 0, none⟩ = some (.int .i64 r.verb) := blk_cell b1 0
  clear HR h3 h4 h5 h6 h7 h8 h9 h10 h11 h12
  go_wp2
  clear e3 e4 e5 e6 e7 e8 e9 e10 e11 e12 c50
  obtain ⟨W2, hW2⟩ : ∃ W2, W2 = w_e := ⟨_, rfl⟩
  rw [← hW2] at b1 b2 b3 b4 hB ⊢
  clear hW2
  refine Ev.region_ev (Ev.Two W2 (w.heap.size + 1 + 1) (w.heap.size + 1 + 1 + 1) 32 38 A0 (ans 0 0 ⟨#[]⟩) (fresh r e now ver).c (fresh r e now ver).c 2 3) (by kernel_rfl) (by kernel_rfl) (Ev.two_start b3 b4) ?_
  refine Ev.ev_step (v := .agg (ans 0 0 ⟨#[]⟩)) rfl rfl (Ev.two_pure (by decide) (by decide) (fun _ => by first | (go_simp; done) | (go_simp; rfl))) ?_
  simp only [Act.put, List.setIfInBounds_toArray, List.set_cons_succ, List.set_cons_zero]
  refine Ev.ev_step (v := .agg (fresh r e now ver).c) rfl rfl (Ev.two_load2 (by decide) (by decide) 38 (.tmp 11) rfl rfl _ rfl Tryd.underlying38 rfl (by kernel_rfl)) ?_
  simp only [Act.put, List.setIfInBounds_toArray, List.set_cons_succ, List.set_cons_zero]
  refine Ev.ev_step (v := undef) rfl rfl (Ev.two_store1 (by decide) (by omega) 32 (.tmp 10) (.tmp 130) rfl rfl rfl rfl (by kernel_rfl) (ans_one _ _ _)) ?_
  simp only [Act.put]
  refine Ev.ev_step (v := undef) rfl rfl (Ev.two_store2 (by decide) (by omega) 38 (.tmp 11) (.tmp 131) rfl rfl rfl rfl (by kernel_rfl) (ent_one _)) ?_
  simp only [Act.put]
  refine Ev.ev_step (v := .bool false) rfl rfl (Ev.two_pure (by decide) (by decide) (fun _ => by rfl)) ?_
  simp only [Act.put, List.setIfInBounds_toArray, List.set_cons_succ, List.set_cons_zero]
  refine Ev.ev_step (v := .bool false) rfl rfl (Ev.two_pure (by decide) (by decide) (fun _ => by rfl)) ?_
  simp only [Act.put, List.setIfInBounds_toArray, List.set_cons_succ, List.set_cons_zero]
  refine Ev.ev_nil (fun w_e hw_e => ?_)
  obtain ⟨hM_e, hA_e, hX_e⟩ := Ev.two_end hw_e (by decide) (by decide)
  clear hw_e
  go_wp2
  refine bodyPost_ret (Ev.results_c3 rfl rfl hA_e Tryd.underlying32 rfl (by kernel_rfl) rfl hX_e Tryd.underlying38 rfl (by kernel_rfl) rfl rfl) rfl ⟨rfl, ?_⟩
  exact Mod.after hB hB.size hM_e (fun k hk => by omega)
end Go.Proofs.YtepklobkppdliaaDoor.Md
