/- The model: Next (cas, delete; no entry). -/
import Derived.Test.YtepklobkppdliaaDoorUMd6a
namespace Go.Proofs.YtepklobkppdliaaDoor.Md
open Go.RowKit Go.Proofs.YtepklobkppdliaaDoorW.PrintWords Go.Proofs.YtepklobkppdliaaDoorW.PrintLast Go.Proofs.YtepklobkppdliaaDoorW.PrintMore Go.Proofs.YtepklobkppdliaaDoor.Lib Go.Proofs.YtepklobkppdliaaDoor.Open
set_option maxHeartbeats 4000000 in
set_option maxRecDepth 100000 in
theorem next_cas_no (r : Rq) (kv : Value) (e : Ent) (now ver : Int) (w : World) (hr : r.verb = 8) :
    Calls Tryd.prog 17 #[.agg (r.c kv), .agg e.c, .bool false, .int .i64 now, .int .i64 ver] w fun e_ w' => e_ = .returned (.tuple #[.agg (ans 5 0 ⟨#[]⟩), .agg e.c, .bool false, .bool false]) ∧ Below w.heap.size w w' := by
  have HR := Aside0.mk hr
  clear hr
  simp only [Rq.c, Ent.c]
  go_enter Tryd.func17, Tryd.ntmps17
  go_wp2
  obtain ⟨W, hW⟩ : ∃ W, W = (((w.alloc (.cells (r.c kv) 27)).alloc (.cells e.c 38)).alloc (.cells A0 32)).alloc (.cells E0 38) := ⟨_, rfl⟩
  obtain ⟨b1, b2, b3, b4, hB⟩ := four w (.cells (r.c kv) 27) (.cells e.c 38) (.cells A0 32) (.cells E0 38)
  have hsz : W.heap.size = w.heap.size + 1 + 1 + 1 + 1 := by rw [hW]; simp
  change Code.wp _ _ _ _ ((((w.alloc (.cells (r.c kv) 27)).alloc (.cells e.c 38)).alloc (.cells A0 32)).alloc (.cells E0 38))
  rw [← hW] at b1 b2 b3 b4 hB ⊢
  clear hW
  have c60 : W.cell? ⟨w.heap.size + 1, 0, none⟩ = some (.string e.key) := blk_cell b2 0
  have c52 : W.cell? ⟨w.heap.size, 2, none⟩ = some (.int .i64 r.fl) := blk_cell b1 2
  have c53 : W.cell? ⟨w.heap.size, 3, none⟩ = some (.int .i64 r.exp) := blk_cell b1 3
  have c58 : W.cell? ⟨w.heap.size, 8, none⟩ = some (.string r.data) := blk_cell b1 8
  refine Ev.region_ev (Ev.One W 38 5 (fresh r e now ver).c 12 13) (by kernel_rfl) (by kernel_rfl) Ev.one_start ?_
  refine Ev.ev_step (v := .pointer (some ⟨(w.heap.size + 1), 0, none⟩)) rfl rfl (Ev.one_pure (by decide) (by decide) (fun _ => rfl)) ?_
  simp only [Act.put, List.setIfInBounds_toArray, List.set_cons_succ, List.set_cons_zero]
  refine Ev.ev_step (v := .string e.key) rfl rfl (Ev.one_load (by decide) (by decide) ⟨(w.heap.size + 1), 0, none⟩ (c60) (by rw [hsz]; show (w.heap.size + 1) < _; omega) (fun w hc => by go_simp)) ?_
  simp only [Act.put, List.setIfInBounds_toArray, List.set_cons_succ, List.set_cons_zero]
  refine Ev.ev_step (v := .pointer (some ⟨w.heap.size, 2, none⟩)) rfl rfl (Ev.one_pure (by decide) (by decide) (fun _ => rfl)) ?_
  simp only [Act.put, List.setIfInBounds_toArray, List.set_cons_succ, List.set_cons_zero]
  refine Ev.ev_step (v := .int .i64 r.fl) rfl rfl (Ev.one_load (by decide) (by decide) ⟨w.heap.size, 2, none⟩ (c52) (by rw [hsz]; show w.heap.size < _; omega) (fun w hc => by go_simp)) ?_
  simp only [Act.put, List.setIfInBounds_toArray, List.set_cons_succ, List.set_cons_zero]
  refine Ev.ev_step (v := .pointer (some ⟨w.heap.size, 3, none⟩)) rfl rfl (Ev.one_pure (by decide) (by decide) (fun _ => rfl)) ?_
  simp only [Act.put, List.setIfInBounds_toArray, List.set_cons_succ, List.set_cons_zero]
  refine Ev.ev_step (v := .int .i64 r.exp) rfl rfl (Ev.one_load (by decide) (by decide) ⟨w.heap.size, 3, none⟩ (c53) (by rw [hsz]; show w.heap.size < _; omega) (fun w hc => by go_simp)) ?_
  simp only [Act.put, List.setIfInBounds_toArray, List.set_cons_succ, List.set_cons_zero]
  refine Ev.ev_step (v := .int .i64 now) rfl rfl (Ev.one_pure (by decide) (by decide) (fun _ => rfl)) ?_
  simp only [Act.put, List.setIfInBounds_toArray, List.set_cons_succ, List.set_cons_zero]
  refine Ev.ev_step (v := .int .i64 (dead r.exp now)) rfl rfl (Ev.one_call (by decide) (by decide) 36 #[.int .i64 r.exp, .int .i64 now] (fun _ => by first | (go_simp; done) | (go_simp; rfl)) (fun w => dead_calls _ _ w)) ?_
  simp only [Act.put, List.setIfInBounds_toArray, List.set_cons_succ, List.set_cons_zero]
  refine Ev.ev_step (v := .pointer (some ⟨w.heap.size, 8, none⟩)) rfl rfl (Ev.one_pure (by decide) (by decide) (fun _ => rfl)) ?_
  simp only [Act.put, List.setIfInBounds_toArray, List.set_cons_succ, List.set_cons_zero]
  refine Ev.ev_step (v := .string r.data) rfl rfl (Ev.one_load (by decide) (by decide) ⟨w.heap.size, 8, none⟩ (c58) (by rw [hsz]; show w.heap.size < _; omega) (fun w hc => by go_simp)) ?_
  simp only [Act.put, List.setIfInBounds_toArray, List.set_cons_succ, List.set_cons_zero]
  refine Ev.ev_step (v := .int .i64 ver) rfl rfl (Ev.one_pure (by decide) (by decide) (fun _ => rfl)) ?_
  simp only [Act.put, List.setIfInBounds_toArray, List.set_cons_succ, List.set_cons_zero]
  refine Ev.ev_step (v := .agg (fresh r e now ver).c) rfl rfl (Ev.one_pure (by decide) (by decide) (fun _ => by first | (go_simp; done) | (go_simp; rfl))) ?_
  simp only [Act.put, List.setIfInBounds_toArray, List.set_cons_succ, List.set_cons_zero]
  refine Ev.ev_step (v := .pointer (some ⟨W.heap.size, 0, none⟩)) rfl rfl (Ev.one_alloc (z := E0) (by decide) rfl (fun _ => by first | (go_simp; done) | (go_simp; rfl))) ?_
  simp only [Act.put, List.setIfInBounds_toArray, List.set_cons_succ, List.set_cons_zero]
  refine Ev.ev_step (v := undef) rfl rfl (Ev.one_store (by decide) 38 (.tmp 14) (.tmp 27) rfl rfl rfl rfl (by kernel_rfl) (ent_one _) (fun S hd => hd ⟨12, .phase⟩ (by simp) rfl)) ?_
  simp only [Act.put]
  refine Ev.ev_nil (fun w_e hw_e => ?_)
  obtain ⟨hb, b5⟩ := Ev.one_end hw_e (by decide) (by decide)
  clear hw_e c60 c52 c53 c58
  replace b1 := (hb.block _ (blk_lt b1)).trans b1
  replace b2 := (hb.block _ (blk_lt b2)).trans b2
  replace b3 := (hb.block _ (blk_lt b3)).trans b3
  replace b4 := (hb.block _ (blk_lt b4)).trans b4
  replace hB := hB.trans (hb.mono hB.size)
  rw [hsz] at b5 ⊢
  clear hsz hb
  have hr := HR.out
  have e3 : (r.verb == 3) = false := by rw [hr]; rfl
  have e4 : (r.verb == 4) = false := by rw [hr]; rfl
  have e5 : (r.verb == 5) = false := by rw [hr]; rfl
  have e6 : (r.verb == 6) = false := by rw [hr]; rfl
  have e7 : (r.verb == 7) = false := by rw [hr]; rfl
  have e8 : (r.verb == 8) = true := by rw [hr]; rfl
  have e9 : (r.verb == 9) = false := by rw [hr]; rfl
  have e10 : (r.verb == 10) = false := by rw [hr]; rfl
  have e11 : (r.verb == 11) = false := by rw [hr]; rfl
  have e12 : (r.verb == 12) = false := by rw [hr]; rfl
  have c50 : w_e.cell? ⟨w.heap.size, 0, none⟩ = some (.int .i64 r.verb) := blk_cell b1 0
  clear hr HR
  go_wp2
  clear e3 e4 e5 e6 e7 e8 e9 e10 e11 e12 c50
  obtain ⟨W2, hW2⟩ : ∃ W2, W2 = w_e := ⟨_, rfl⟩
  rw [← hW2] at b1 b2 b3 b4 b5 hB ⊢
  clear hW2
  refine Ev.region_ev (Ev.Two W2 (w.heap.size + 1 + 1) (w.heap.size + 1 + 1 + 1) 32 38 A0 (ans 5 0 ⟨#[]⟩) E0 e.c 3 4) (by kernel_rfl) (by kernel_rfl) (Ev.two_start b3 b4) ?_
  refine Ev.ev_step (v := _) rfl rfl (Ev.two_pure (by decide) (by decide) (fun _ => rfl)) ?_
  simp only [Act.put, List.setIfInBounds_toArray, List.set_cons_succ, List.set_cons_zero]
  refine Ev.ev_step (v := .agg (ans 5 0 ⟨#[]⟩)) rfl rfl (Ev.two_call (by decide) (by decide) 37 #[.int .i64 5] (fun _ => by first | (go_simp; done) | (go_simp; rfl)) (fun w => say_calls 5 w)) ?_
  simp only [Act.put, List.setIfInBounds_toArray, List.set_cons_succ, List.set_cons_zero]
  refine Ev.ev_step (v := .agg e.c) rfl rfl (Ev.two_load (by decide) (by decide) 38 (.tmp 6) rfl (w.heap.size + 1) rfl _ _ _ b2 (by omega) (by omega) Tryd.underlying38 rfl (by kernel_rfl)) ?_
  simp only [Act.put, List.setIfInBounds_toArray, List.set_cons_succ, List.set_cons_zero]
  refine Ev.ev_step (v := undef) rfl rfl (Ev.two_store1 (by decide) (by omega) 32 (.tmp 10) (.tmp 79) rfl rfl rfl rfl (by kernel_rfl) (ans_one _ _ _)) ?_
  simp only [Act.put]
  refine Ev.ev_step (v := undef) rfl rfl (Ev.two_store2 (by decide) (by omega) 38 (.tmp 11) (.tmp 80) rfl rfl rfl rfl (by kernel_rfl) (ent_one _)) ?_
  simp only [Act.put]
  refine Ev.ev_step (v := .bool false) rfl rfl (Ev.two_pure (by decide) (by decide) (fun _ => by rfl)) ?_
  simp only [Act.put, List.setIfInBounds_toArray, List.set_cons_succ, List.set_cons_zero]
  refine Ev.ev_step (v := .bool false) rfl rfl (Ev.two_pure (by decide) (by decide) (fun _ => by rfl)) ?_
  simp only [Act.put, List.setIfInBounds_toArray, List.set_cons_succ, List.set_cons_zero]
  refine Ev.ev_nil (fun w_e hw_e => ?_)
  obtain ⟨hM_e, hA_e, hX_e⟩ := Ev.two_end hw_e (by decide) (by decide)
  clear hw_e
  go_wp2
  refine bodyPost_ret (Ev.results_c3 rfl rfl hA_e Tryd.underlying32 rfl (by kernel_rfl) rfl hX_e Tryd.underlying38 rfl (by kernel_rfl) rfl rfl) rfl ⟨rfl, ?_⟩
  exact Mod.after hB hB.size hM_e (fun k hk => by omega)
set_option maxHeartbeats 4000000 in
set_option maxRecDepth 100000 in
theorem next_delete_no (r : Rq) (kv : Value) (e : Ent) (now ver : Int) (w : World) (hr : r.verb = 9) :
    Calls Tryd.prog 17 #[.agg (r.c kv), .agg e.c, .bool false, .int .i64 now, .int .i64 ver] w fun e_ w' => e_ = .returned (.tuple #[.agg (ans 5 0 ⟨#[]⟩), .agg e.c, .bool false, .bool false]) ∧ Below w.heap.size w w' := by
  have HR := Aside0.mk hr
  clear hr
  simp only [Rq.c, Ent.c]
  go_enter Tryd.func17, Tryd.ntmps17
  go_wp2
  obtain ⟨W, hW⟩ : ∃ W, W = (((w.alloc (.cells (r.c kv) 27)).alloc (.cells e.c 38)).alloc (.cells A0 32)).alloc (.cells E0 38) := ⟨_, rfl⟩
  obtain ⟨b1, b2, b3, b4, hB⟩ := four w (.cells (r.c kv) 27) (.cells e.c 38) (.cells A0 32) (.cells E0 38)
  have hsz : W.heap.size = w.heap.size + 1 + 1 + 1 + 1 := by rw [hW]; simp
  change Code.wp _ _ _ _ ((((w.alloc (.cells (r.c kv) 27)).alloc (.cells e.c 38)).alloc (.cells A0 32)).alloc (.cells E0 38))
  rw [← hW] at b1 b2 b3 b4 hB ⊢
  clear hW
  have c60 : W.cell? ⟨w.heap.size + 1, 0, none⟩ = some (.string e.key) := blk_cell b2 0
  have c52 : W.cell? ⟨w.heap.size, 2, none⟩ = some (.int .i64 r.fl) := blk_cell b1 2
  have c53 : W.cell? ⟨w.heap.size, 3, none⟩ = some (.int .i64 r.exp) := blk_cell b1 3
  have c58 : W.cell? ⟨w.heap.size, 8, none⟩ = some (.string r.data) := blk_cell b1 8
  refine Ev.region_ev (Ev.One W 38 5 (fresh r e now ver).c 12 13) (by kernel_rfl) (by kernel_rfl) Ev.one_start ?_
  refine Ev.ev_step (v := .pointer (some ⟨(w.heap.size + 1), 0, none⟩)) rfl rfl (Ev.one_pure (by decide) (by decide) (fun _ => rfl)) ?_
  simp only [Act.put, List.setIfInBounds_toArray, List.set_cons_succ, List.set_cons_zero]
  refine Ev.ev_step (v := .string e.key) rfl rfl (Ev.one_load (by decide) (by decide) ⟨(w.heap.size + 1), 0, none⟩ (c60) (by rw [hsz]; show (w.heap.size + 1) < _; omega) (fun w hc => by go_simp)) ?_
  simp only [Act.put, List.setIfInBounds_toArray, List.set_cons_succ, List.set_cons_zero]
  refine Ev.ev_step (v := .pointer (some ⟨w.heap.size, 2, none⟩)) rfl rfl (Ev.one_pure (by decide) (by decide) (fun _ => rfl)) ?_
  simp only [Act.put, List.setIfInBounds_toArray, List.set_cons_succ, List.set_cons_zero]
  refine Ev.ev_step (v := .int .i64 r.fl) rfl rfl (Ev.one_load (by decide) (by decide) ⟨w.heap.size, 2, none⟩ (c52) (by rw [hsz]; show w.heap.size < _; omega) (fun w hc => by go_simp)) ?_
  simp only [Act.put, List.setIfInBounds_toArray, List.set_cons_succ, List.set_cons_zero]
  refine Ev.ev_step (v := .pointer (some ⟨w.heap.size, 3, none⟩)) rfl rfl (Ev.one_pure (by decide) (by decide) (fun _ => rfl)) ?_
  simp only [Act.put, List.setIfInBounds_toArray, List.set_cons_succ, List.set_cons_zero]
  refine Ev.ev_step (v := .int .i64 r.exp) rfl rfl (Ev.one_load (by decide) (by decide) ⟨w.heap.size, 3, none⟩ (c53) (by rw [hsz]; show w.heap.size < _; omega) (fun w hc => by go_simp)) ?_
  simp only [Act.put, List.setIfInBounds_toArray, List.set_cons_succ, List.set_cons_zero]
  refine Ev.ev_step (v := .int .i64 now) rfl rfl (Ev.one_pure (by decide) (by decide) (fun _ => rfl)) ?_
  simp only [Act.put, List.setIfInBounds_toArray, List.set_cons_succ, List.set_cons_zero]
  refine Ev.ev_step (v := .int .i64 (dead r.exp now)) rfl rfl (Ev.one_call (by decide) (by decide) 36 #[.int .i64 r.exp, .int .i64 now] (fun _ => by first | (go_simp; done) | (go_simp; rfl)) (fun w => dead_calls _ _ w)) ?_
  simp only [Act.put, List.setIfInBounds_toArray, List.set_cons_succ, List.set_cons_zero]
  refine Ev.ev_step (v := .pointer (some ⟨w.heap.size, 8, none⟩)) rfl rfl (Ev.one_pure (by decide) (by decide) (fun _ => rfl)) ?_
  simp only [Act.put, List.setIfInBounds_toArray, List.set_cons_succ, List.set_cons_zero]
  refine Ev.ev_step (v := .string r.data) rfl rfl (Ev.one_load (by decide) (by decide) ⟨w.heap.size, 8, none⟩ (c58) (by rw [hsz]; show w.heap.size < _; omega) (fun w hc => by go_simp)) ?_
  simp only [Act.put, List.setIfInBounds_toArray, List.set_cons_succ, List.set_cons_zero]
  refine Ev.ev_step (v := .int .i64 ver) rfl rfl (Ev.one_pure (by decide) (by decide) (fun _ => rfl)) ?_
  simp only [Act.put, List.setIfInBounds_toArray, List.set_cons_succ, List.set_cons_zero]
  refine Ev.ev_step (v := .agg (fresh r e now ver).c) rfl rfl (Ev.one_pure (by decide) (by decide) (fun _ => by first | (go_simp; done) | (go_simp; rfl))) ?_
  simp only [Act.put, List.setIfInBounds_toArray, List.set_cons_succ, List.set_cons_zero]
  refine Ev.ev_step (v := .pointer (some ⟨W.heap.size, 0, none⟩)) rfl rfl (Ev.one_alloc (z := E0) (by decide) rfl (fun _ => by first | (go_simp; done) | (go_simp; rfl))) ?_
  simp only [Act.put, List.setIfInBounds_toArray, List.set_cons_succ, List.set_cons_zero]
  refine Ev.ev_step (v := undef) rfl rfl (Ev.one_store (by decide) 38 (.tmp 14) (.tmp 27) rfl rfl rfl rfl (by kernel_rfl) (ent_one _) (fun S hd => hd ⟨12, .phase⟩ (by simp) rfl)) ?_
  simp only [Act.put]
  refine Ev.ev_nil (fun w_e hw_e => ?_)
  obtain ⟨hb, b5⟩ := Ev.one_end hw_e (by decide) (by decide)
  clear hw_e c60 c52 c53 c58
  replace b1 := (hb.block _ (blk_lt b1)).trans b1
  replace b2 := (hb.block _ (blk_lt b2)).trans b2
  replace b3 := (hb.block _ (blk_lt b3)).trans b3
  replace b4 := (hb.block _ (blk_lt b4)).trans b4
  replace hB := hB.trans (hb.mono hB.size)
  rw [hsz] at b5 ⊢
  clear hsz hb
  have hr := HR.out
  have e3 : (r.verb == 3) = false := by rw [hr]; rfl
  have e4 : (r.verb == 4) = false := by rw [hr]; rfl
  have e5 : (r.verb == 5) = false := by rw [hr]; rfl
  have e6 : (r.verb == 6) = false := by rw [hr]; rfl
  have e7 : (r.verb == 7) = false := by rw [hr]; rfl
  have e8 : (r.verb == 8) = false := by rw [hr]; rfl
  have e9 : (r.verb == 9) = true := by rw [hr]; rfl
  have e10 : (r.verb == 10) = false := by rw [hr]; rfl
  have e11 : (r.verb == 11) = false := by rw [hr]; rfl
  have e12 : (r.verb == 12) = false := by rw [hr]; rfl
  have c50 : w_e.cell? ⟨w.heap.size, 0, none⟩ = some (.int .i64 r.verb) := blk_cell b1 0
  clear hr HR
  go_wp2
  clear e3 e4 e5 e6 e7 e8 e9 e10 e11 e12 c50
  obtain ⟨W2, hW2⟩ : ∃ W2, W2 = w_e := ⟨_, rfl⟩
  rw [← hW2] at b1 b2 b3 b4 b5 hB ⊢
  clear hW2
  refine Ev.region_ev (Ev.Two W2 (w.heap.size + 1 + 1) (w.heap.size + 1 + 1 + 1) 32 38 A0 (ans 5 0 ⟨#[]⟩) E0 e.c 3 4) (by kernel_rfl) (by kernel_rfl) (Ev.two_start b3 b4) ?_
  refine Ev.ev_step (v := _) rfl rfl (Ev.two_pure (by decide) (by decide) (fun _ => rfl)) ?_
  simp only [Act.put, List.setIfInBounds_toArray, List.set_cons_succ, List.set_cons_zero]
  refine Ev.ev_step (v := .agg (ans 5 0 ⟨#[]⟩)) rfl rfl (Ev.two_call (by decide) (by decide) 37 #[.int .i64 5] (fun _ => by first | (go_simp; done) | (go_simp; rfl)) (fun w => say_calls 5 w)) ?_
  simp only [Act.put, List.setIfInBounds_toArray, List.set_cons_succ, List.set_cons_zero]
  refine Ev.ev_step (v := .agg e.c) rfl rfl (Ev.two_load (by decide) (by decide) 38 (.tmp 6) rfl (w.heap.size + 1) rfl _ _ _ b2 (by omega) (by omega) Tryd.underlying38 rfl (by kernel_rfl)) ?_
  simp only [Act.put, List.setIfInBounds_toArray, List.set_cons_succ, List.set_cons_zero]
  refine Ev.ev_step (v := undef) rfl rfl (Ev.two_store1 (by decide) (by omega) 32 (.tmp 10) (.tmp 79) rfl rfl rfl rfl (by kernel_rfl) (ans_one _ _ _)) ?_
  simp only [Act.put]
  refine Ev.ev_step (v := undef) rfl rfl (Ev.two_store2 (by decide) (by omega) 38 (.tmp 11) (.tmp 80) rfl rfl rfl rfl (by kernel_rfl) (ent_one _)) ?_
  simp only [Act.put]
  refine Ev.ev_step (v := .bool false) rfl rfl (Ev.two_pure (by decide) (by decide) (fun _ => by rfl)) ?_
  simp only [Act.put, List.setIfInBounds_toArray, List.set_cons_succ, List.set_cons_zero]
  refine Ev.ev_step (v := .bool false) rfl rfl (Ev.two_pure (by decide) (by decide) (fun _ => by rfl)) ?_
  simp only [Act.put, List.setIfInBounds_toArray, List.set_cons_succ, List.set_cons_zero]
  refine Ev.ev_nil (fun w_e hw_e => ?_)
  obtain ⟨hM_e, hA_e, hX_e⟩ := Ev.two_end hw_e (by decide) (by decide)
  clear hw_e
  go_wp2
  refine bodyPost_ret (Ev.results_c3 rfl rfl hA_e Tryd.underlying32 rfl (by kernel_rfl) rfl hX_e Tryd.underlying38 rfl (by kernel_rfl) rfl rfl) rfl ⟨rfl, ?_⟩
  exact Mod.after hB hB.size hM_e (fun k hk => by omega)
set_option maxHeartbeats 4000000 in
set_option maxRecDepth 100000 in
theorem next_incr_no (r : Rq) (kv : Value) (e : Ent) (now ver : Int) (w : World) (hr : r.verb = 10) :
    Calls Tryd.prog 17 #[.agg (r.c kv), .agg e.c, .bool false, .int .i64 now, .int .i64 ver] w fun e_ w' => e_ = .returned (.tuple #[.agg (ans 5 0 ⟨#[]⟩), .agg e.c, .bool false, .bool false]) ∧ Below w.heap.size w w' := by
  have HR := Aside0.mk hr
  clear hr
  simp only [Rq.c, Ent.c]
  go_enter Tryd.func17, Tryd.ntmps17
  go_wp2
  obtain ⟨W, hW⟩ : ∃ W, W = (((w.alloc (.cells (r.c kv) 27)).alloc (.cells e.c 38)).alloc (.cells A0 32)).alloc (.cells E0 38) := ⟨_, rfl⟩
  obtain ⟨b1, b2, b3, b4, hB⟩ := four w (.cells (r.c kv) 27) (.cells e.c 38) (.cells A0 32) (.cells E0 38)
  have hsz : W.heap.size = w.heap.size + 1 + 1 + 1 + 1 := by rw [hW]; simp
  change Code.wp _ _ _ _ ((((w.alloc (.cells (r.c kv) 27)).alloc (.cells e.c 38)).alloc (.cells A0 32)).alloc (.cells E0 38))
  rw [← hW] at b1 b2 b3 b4 hB ⊢
  clear hW
  have c60 : W.cell? ⟨w.heap.size + 1, 0, none⟩ = some (.string e.key) := blk_cell b2 0
  have c52 : W.cell? ⟨w.heap.size, 2, none⟩ = some (.int .i64 r.fl) := blk_cell b1 2
  have c53 : W.cell? ⟨w.heap.size, 3, none⟩ = some (.int .i64 r.exp) := blk_cell b1 3
  have c58 : W.cell? ⟨w.heap.size, 8, none⟩ = some (.string r.data) := blk_cell b1 8
  refine Ev.region_ev (Ev.One W 38 5 (fresh r e now ver).c 12 13) (by kernel_rfl) (by kernel_rfl) Ev.one_start ?_
  refine Ev.ev_step (v := .pointer (some ⟨(w.heap.size + 1), 0, none⟩)) rfl rfl (Ev.one_pure (by decide) (by decide) (fun _ => rfl)) ?_
  simp only [Act.put, List.setIfInBounds_toArray, List.set_cons_succ, List.set_cons_zero]
  refine Ev.ev_step (v := .string e.key) rfl rfl (Ev.one_load (by decide) (by decide) ⟨(w.heap.size + 1), 0, none⟩ (c60) (by rw [hsz]; show (w.heap.size + 1) < _; omega) (fun w hc => by go_simp)) ?_
  simp only [Act.put, List.setIfInBounds_toArray, List.set_cons_succ, List.set_cons_zero]
  refine Ev.ev_step (v := .pointer (some ⟨w.heap.size, 2, none⟩)) rfl rfl (Ev.one_pure (by decide) (by decide) (fun _ => rfl)) ?_
  simp only [Act.put, List.setIfInBounds_toArray, List.set_cons_succ, List.set_cons_zero]
  refine Ev.ev_step (v := .int .i64 r.fl) rfl rfl (Ev.one_load (by decide) (by decide) ⟨w.heap.size, 2, none⟩ (c52) (by rw [hsz]; show w.heap.size < _; omega) (fun w hc => by go_simp)) ?_
  simp only [Act.put, List.setIfInBounds_toArray, List.set_cons_succ, List.set_cons_zero]
  refine Ev.ev_step (v := .pointer (some ⟨w.heap.size, 3, none⟩)) rfl rfl (Ev.one_pure (by decide) (by decide) (fun _ => rfl)) ?_
  simp only [Act.put, List.setIfInBounds_toArray, List.set_cons_succ, List.set_cons_zero]
  refine Ev.ev_step (v := .int .i64 r.exp) rfl rfl (Ev.one_load (by decide) (by decide) ⟨w.heap.size, 3, none⟩ (c53) (by rw [hsz]; show w.heap.size < _; omega) (fun w hc => by go_simp)) ?_
  simp only [Act.put, List.setIfInBounds_toArray, List.set_cons_succ, List.set_cons_zero]
  refine Ev.ev_step (v := .int .i64 now) rfl rfl (Ev.one_pure (by decide) (by decide) (fun _ => rfl)) ?_
  simp only [Act.put, List.setIfInBounds_toArray, List.set_cons_succ, List.set_cons_zero]
  refine Ev.ev_step (v := .int .i64 (dead r.exp now)) rfl rfl (Ev.one_call (by decide) (by decide) 36 #[.int .i64 r.exp, .int .i64 now] (fun _ => by first | (go_simp; done) | (go_simp; rfl)) (fun w => dead_calls _ _ w)) ?_
  simp only [Act.put, List.setIfInBounds_toArray, List.set_cons_succ, List.set_cons_zero]
  refine Ev.ev_step (v := .pointer (some ⟨w.heap.size, 8, none⟩)) rfl rfl (Ev.one_pure (by decide) (by decide) (fun _ => rfl)) ?_
  simp only [Act.put, List.setIfInBounds_toArray, List.set_cons_succ, List.set_cons_zero]
  refine Ev.ev_step (v := .string r.data) rfl rfl (Ev.one_load (by decide) (by decide) ⟨w.heap.size, 8, none⟩ (c58) (by rw [hsz]; show w.heap.size < _; omega) (fun w hc => by go_simp)) ?_
  simp only [Act.put, List.setIfInBounds_toArray, List.set_cons_succ, List.set_cons_zero]
  refine Ev.ev_step (v := .int .i64 ver) rfl rfl (Ev.one_pure (by decide) (by decide) (fun _ => rfl)) ?_
  simp only [Act.put, List.setIfInBounds_toArray, List.set_cons_succ, List.set_cons_zero]
  refine Ev.ev_step (v := .agg (fresh r e now ver).c) rfl rfl (Ev.one_pure (by decide) (by decide) (fun _ => by first | (go_simp; done) | (go_simp; rfl))) ?_
  simp only [Act.put, List.setIfInBounds_toArray, List.set_cons_succ, List.set_cons_zero]
  refine Ev.ev_step (v := .pointer (some ⟨W.heap.size, 0, none⟩)) rfl rfl (Ev.one_alloc (z := E0) (by decide) rfl (fun _ => by first | (go_simp; done) | (go_simp; rfl))) ?_
  simp only [Act.put, List.setIfInBounds_toArray, List.set_cons_succ, List.set_cons_zero]
  refine Ev.ev_step (v := undef) rfl rfl (Ev.one_store (by decide) 38 (.tmp 14) (.tmp 27) rfl rfl rfl rfl (by kernel_rfl) (ent_one _) (fun S hd => hd ⟨12, .phase⟩ (by simp) rfl)) ?_
  simp only [Act.put]
  refine Ev.ev_nil (fun w_e hw_e => ?_)
  obtain ⟨hb, b5⟩ := Ev.one_end hw_e (by decide) (by decide)
  clear hw_e c60 c52 c53 c58
  replace b1 := (hb.block _ (blk_lt b1)).trans b1
  replace b2 := (hb.block _ (blk_lt b2)).trans b2
  replace b3 := (hb.block _ (blk_lt b3)).trans b3
  replace b4 := (hb.block _ (blk_lt b4)).trans b4
  replace hB := hB.trans (hb.mono hB.size)
  rw [hsz] at b5 ⊢
  clear hsz hb
  have hr := HR.out
  have e3 : (r.verb == 3) = false := by rw [hr]; rfl
  have e4 : (r.verb == 4) = false := by rw [hr]; rfl
  have e5 : (r.verb == 5) = false := by rw [hr]; rfl
  have e6 : (r.verb == 6) = false := by rw [hr]; rfl
  have e7 : (r.verb == 7) = false := by rw [hr]; rfl
  have e8 : (r.verb == 8) = false := by rw [hr]; rfl
  have e9 : (r.verb == 9) = false := by rw [hr]; rfl
  have e10 : (r.verb == 10) = true := by rw [hr]; rfl
  have e11 : (r.verb == 11) = false := by rw [hr]; rfl
  have e12 : (r.verb == 12) = false := by rw [hr]; rfl
  have c50 : w_e.cell? ⟨w.heap.size, 0, none⟩ = some (.int .i64 r.verb) := blk_cell b1 0
  clear hr HR
  go_wp2
  clear e3 e4 e5 e6 e7 e8 e9 e10 e11 e12 c50
  obtain ⟨W2, hW2⟩ : ∃ W2, W2 = w_e := ⟨_, rfl⟩
  rw [← hW2] at b1 b2 b3 b4 b5 hB ⊢
  clear hW2
  refine Ev.region_ev (Ev.Two W2 (w.heap.size + 1 + 1) (w.heap.size + 1 + 1 + 1) 32 38 A0 (ans 5 0 ⟨#[]⟩) E0 e.c 3 4) (by kernel_rfl) (by kernel_rfl) (Ev.two_start b3 b4) ?_
  refine Ev.ev_step (v := _) rfl rfl (Ev.two_pure (by decide) (by decide) (fun _ => rfl)) ?_
  simp only [Act.put, List.setIfInBounds_toArray, List.set_cons_succ, List.set_cons_zero]
  refine Ev.ev_step (v := .agg (ans 5 0 ⟨#[]⟩)) rfl rfl (Ev.two_call (by decide) (by decide) 37 #[.int .i64 5] (fun _ => by first | (go_simp; done) | (go_simp; rfl)) (fun w => say_calls 5 w)) ?_
  simp only [Act.put, List.setIfInBounds_toArray, List.set_cons_succ, List.set_cons_zero]
  refine Ev.ev_step (v := .agg e.c) rfl rfl (Ev.two_load (by decide) (by decide) 38 (.tmp 6) rfl (w.heap.size + 1) rfl _ _ _ b2 (by omega) (by omega) Tryd.underlying38 rfl (by kernel_rfl)) ?_
  simp only [Act.put, List.setIfInBounds_toArray, List.set_cons_succ, List.set_cons_zero]
  refine Ev.ev_step (v := undef) rfl rfl (Ev.two_store1 (by decide) (by omega) 32 (.tmp 10) (.tmp 79) rfl rfl rfl rfl (by kernel_rfl) (ans_one _ _ _)) ?_
  simp only [Act.put]
  refine Ev.ev_step (v := undef) rfl rfl (Ev.two_store2 (by decide) (by omega) 38 (.tmp 11) (.tmp 80) rfl rfl rfl rfl (by kernel_rfl) (ent_one _)) ?_
  simp only [Act.put]
  refine Ev.ev_step (v := .bool false) rfl rfl (Ev.two_pure (by decide) (by decide) (fun _ => by rfl)) ?_
  simp only [Act.put, List.setIfInBounds_toArray, List.set_cons_succ, List.set_cons_zero]
  refine Ev.ev_step (v := .bool false) rfl rfl (Ev.two_pure (by decide) (by decide) (fun _ => by rfl)) ?_
  simp only [Act.put, List.setIfInBounds_toArray, List.set_cons_succ, List.set_cons_zero]
  refine Ev.ev_nil (fun w_e hw_e => ?_)
  obtain ⟨hM_e, hA_e, hX_e⟩ := Ev.two_end hw_e (by decide) (by decide)
  clear hw_e
  go_wp2
  refine bodyPost_ret (Ev.results_c3 rfl rfl hA_e Tryd.underlying32 rfl (by kernel_rfl) rfl hX_e Tryd.underlying38 rfl (by kernel_rfl) rfl rfl) rfl ⟨rfl, ?_⟩
  exact Mod.after hB hB.size hM_e (fun k hk => by omega)
set_option maxHeartbeats 4000000 in
set_option maxRecDepth 100000 in
theorem next_decr_no (r : Rq) (kv : Value) (e : Ent) (now ver : Int) (w : World) (hr : r.verb = 11) :
    Calls Tryd.prog 17 #[.agg (r.c kv), .agg e.c, .bool false, .int .i64 now, .int .i64 ver] w fun e_ w' => e_ = .returned (.tuple #[.agg (ans 5 0 ⟨#[]⟩), .agg e.c, .bool false, .bool false]) ∧ Below w.heap.size w w' := by
  have HR := Aside0.mk hr
  clear hr
  simp only [Rq.c, Ent.c]
  go_enter Tryd.func17, Tryd.ntmps17
  go_wp2
  obtain ⟨W, hW⟩ : ∃ W, W = (((w.alloc (.cells (r.c kv) 27)).alloc (.cells e.c 38)).alloc (.cells A0 32)).alloc (.cells E0 38) := ⟨_, rfl⟩
  obtain ⟨b1, b2, b3, b4, hB⟩ := four w (.cells (r.c kv) 27) (.cells e.c 38) (.cells A0 32) (.cells E0 38)
  have hsz : W.heap.size = w.heap.size + 1 + 1 + 1 + 1 := by rw [hW]; simp
  change Code.wp _ _ _ _ ((((w.alloc (.cells (r.c kv) 27)).alloc (.cells e.c 38)).alloc (.cells A0 32)).alloc (.cells E0 38))
  rw [← hW] at b1 b2 b3 b4 hB ⊢
  clear hW
  have c60 : W.cell? ⟨w.heap.size + 1, 0, none⟩ = some (.string e.key) := blk_cell b2 0
  have c52 : W.cell? ⟨w.heap.size, 2, none⟩ = some (.int .i64 r.fl) := blk_cell b1 2
  have c53 : W.cell? ⟨w.heap.size, 3, none⟩ = some (.int .i64 r.exp) := blk_cell b1 3
  have c58 : W.cell? ⟨w.heap.size, 8, none⟩ = some (.string r.data) := blk_cell b1 8
  refine Ev.region_ev (Ev.One W 38 5 (fresh r e now ver).c 12 13) (by kernel_rfl) (by kernel_rfl) Ev.one_start ?_
  refine Ev.ev_step (v := .pointer (some ⟨(w.heap.size + 1), 0, none⟩)) rfl rfl (Ev.one_pure (by decide) (by decide) (fun _ => rfl)) ?_
  simp only [Act.put, List.setIfInBounds_toArray, List.set_cons_succ, List.set_cons_zero]
  refine Ev.ev_step (v := .string e.key) rfl rfl (Ev.one_load (by decide) (by decide) ⟨(w.heap.size + 1), 0, none⟩ (c60) (by rw [hsz]; show (w.heap.size + 1) < _; omega) (fun w hc => by go_simp)) ?_
  simp only [Act.put, List.setIfInBounds_toArray, List.set_cons_succ, List.set_cons_zero]
  refine Ev.ev_step (v := .pointer (some ⟨w.heap.size, 2, none⟩)) rfl rfl (Ev.one_pure (by decide) (by decide) (fun _ => rfl)) ?_
  simp only [Act.put, List.setIfInBounds_toArray, List.set_cons_succ, List.set_cons_zero]
  refine Ev.ev_step (v := .int .i64 r.fl) rfl rfl (Ev.one_load (by decide) (by decide) ⟨w.heap.size, 2, none⟩ (c52) (by rw [hsz]; show w.heap.size < _; omega) (fun w hc => by go_simp)) ?_
  simp only [Act.put, List.setIfInBounds_toArray, List.set_cons_succ, List.set_cons_zero]
  refine Ev.ev_step (v := .pointer (some ⟨w.heap.size, 3, none⟩)) rfl rfl (Ev.one_pure (by decide) (by decide) (fun _ => rfl)) ?_
  simp only [Act.put, List.setIfInBounds_toArray, List.set_cons_succ, List.set_cons_zero]
  refine Ev.ev_step (v := .int .i64 r.exp) rfl rfl (Ev.one_load (by decide) (by decide) ⟨w.heap.size, 3, none⟩ (c53) (by rw [hsz]; show w.heap.size < _; omega) (fun w hc => by go_simp)) ?_
  simp only [Act.put, List.setIfInBounds_toArray, List.set_cons_succ, List.set_cons_zero]
  refine Ev.ev_step (v := .int .i64 now) rfl rfl (Ev.one_pure (by decide) (by decide) (fun _ => rfl)) ?_
  simp only [Act.put, List.setIfInBounds_toArray, List.set_cons_succ, List.set_cons_zero]
  refine Ev.ev_step (v := .int .i64 (dead r.exp now)) rfl rfl (Ev.one_call (by decide) (by decide) 36 #[.int .i64 r.exp, .int .i64 now] (fun _ => by first | (go_simp; done) | (go_simp; rfl)) (fun w => dead_calls _ _ w)) ?_
  simp only [Act.put, List.setIfInBounds_toArray, List.set_cons_succ, List.set_cons_zero]
  refine Ev.ev_step (v := .pointer (some ⟨w.heap.size, 8, none⟩)) rfl rfl (Ev.one_pure (by decide) (by decide) (fun _ => rfl)) ?_
  simp only [Act.put, List.setIfInBounds_toArray, List.set_cons_succ, List.set_cons_zero]
  refine Ev.ev_step (v := .string r.data) rfl rfl (Ev.one_load (by decide) (by decide) ⟨w.heap.size, 8, none⟩ (c58) (by rw [hsz]; show w.heap.size < _; omega) (fun w hc => by go_simp)) ?_
  simp only [Act.put, List.setIfInBounds_toArray, List.set_cons_succ, List.set_cons_zero]
  refine Ev.ev_step (v := .int .i64 ver) rfl rfl (Ev.one_pure (by decide) (by decide) (fun _ => rfl)) ?_
  simp only [Act.put, List.setIfInBounds_toArray, List.set_cons_succ, List.set_cons_zero]
  refine Ev.ev_step (v := .agg (fresh r e now ver).c) rfl rfl (Ev.one_pure (by decide) (by decide) (fun _ => by first | (go_simp; done) | (go_simp; rfl))) ?_
  simp only [Act.put, List.setIfInBounds_toArray, List.set_cons_succ, List.set_cons_zero]
  refine Ev.ev_step (v := .pointer (some ⟨W.heap.size, 0, none⟩)) rfl rfl (Ev.one_alloc (z := E0) (by decide) rfl (fun _ => by first | (go_simp; done) | (go_simp; rfl))) ?_
  simp only [Act.put, List.setIfInBounds_toArray, List.set_cons_succ, List.set_cons_zero]
  refine Ev.ev_step (v := undef) rfl rfl (Ev.one_store (by decide) 38 (.tmp 14) (.tmp 27) rfl rfl rfl rfl (by kernel_rfl) (ent_one _) (fun S hd => hd ⟨12, .phase⟩ (by simp) rfl)) ?_
  simp only [Act.put]
  refine Ev.ev_nil (fun w_e hw_e => ?_)
  obtain ⟨hb, b5⟩ := Ev.one_end hw_e (by decide) (by decide)
  clear hw_e c60 c52 c53 c58
  replace b1 := (hb.block _ (blk_lt b1)).trans b1
  replace b2 := (hb.block _ (blk_lt b2)).trans b2
  replace b3 := (hb.block _ (blk_lt b3)).trans b3
  replace b4 := (hb.block _ (blk_lt b4)).trans b4
  replace hB := hB.trans (hb.mono hB.size)
  rw [hsz] at b5 ⊢
  clear hsz hb
  have hr := HR.out
  have e3 : (r.verb == 3) = false := by rw [hr]; rfl
  have e4 : (r.verb == 4) = false := by rw [hr]; rfl
  have e5 : (r.verb == 5) = false := by rw [hr]; rfl
  have e6 : (r.verb == 6) = false := by rw [hr]; rfl
  have e7 : (r.verb == 7) = false := by rw [hr]; rfl
  have e8 : (r.verb == 8) = false := by rw [hr]; rfl
  have e9 : (r.verb == 9) = false := by rw [hr]; rfl
  have e10 : (r.verb == 10) = false := by rw [hr]; rfl
  have e11 : (r.verb == 11) = true := by rw [hr]; rfl
  have e12 : (r.verb == 12) = false := by rw [hr]; rfl
  have c50 : w_e.cell? ⟨w.heap.size, 0, none⟩ = some (.int .i64 r.verb) := blk_cell b1 0
  clear hr HR
  go_wp2
  clear e3 e4 e5 e6 e7 e8 e9 e10 e11 e12 c50
  obtain ⟨W2, hW2⟩ : ∃ W2, W2 = w_e := ⟨_, rfl⟩
  rw [← hW2] at b1 b2 b3 b4 b5 hB ⊢
  clear hW2
  refine Ev.region_ev (Ev.Two W2 (w.heap.size + 1 + 1) (w.heap.size + 1 + 1 + 1) 32 38 A0 (ans 5 0 ⟨#[]⟩) E0 e.c 3 4) (by kernel_rfl) (by kernel_rfl) (Ev.two_start b3 b4) ?_
  refine Ev.ev_step (v := _) rfl rfl (Ev.two_pure (by decide) (by decide) (fun _ => rfl)) ?_
  simp only [Act.put, List.setIfInBounds_toArray, List.set_cons_succ, List.set_cons_zero]
  refine Ev.ev_step (v := .agg (ans 5 0 ⟨#[]⟩)) rfl rfl (Ev.two_call (by decide) (by decide) 37 #[.int .i64 5] (fun _ => by first | (go_simp; done) | (go_simp; rfl)) (fun w => say_calls 5 w)) ?_
  simp only [Act.put, List.setIfInBounds_toArray, List.set_cons_succ, List.set_cons_zero]
  refine Ev.ev_step (v := .agg e.c) rfl rfl (Ev.two_load (by decide) (by decide) 38 (.tmp 6) rfl (w.heap.size + 1) rfl _ _ _ b2 (by omega) (by omega) Tryd.underlying38 rfl (by kernel_rfl)) ?_
  simp only [Act.put, List.setIfInBounds_toArray, List.set_cons_succ, List.set_cons_zero]
  refine Ev.ev_step (v := undef) rfl rfl (Ev.two_store1 (by decide) (by omega) 32 (.tmp 10) (.tmp 79) rfl rfl rfl rfl (by kernel_rfl) (ans_one _ _ _)) ?_
  simp only [Act.put]
  refine Ev.ev_step (v := undef) rfl rfl (Ev.two_store2 (by decide) (by omega) 38 (.tmp 11) (.tmp 80) rfl rfl rfl rfl (by kernel_rfl) (ent_one _)) ?_
  simp only [Act.put]
  refine Ev.ev_step (v := .bool false) rfl rfl (Ev.two_pure (by decide) (by decide) (fun _ => by rfl)) ?_
  simp only [Act.put, List.setIfInBounds_toArray, List.set_cons_succ, List.set_cons_zero]
  refine Ev.ev_step (v := .bool false) rfl rfl (Ev.two_pure (by decide) (by decide) (fun _ => by rfl)) ?_
  simp only [Act.put, List.setIfInBounds_toArray, List.set_cons_succ, List.set_cons_zero]
  refine Ev.ev_nil (fun w_e hw_e => ?_)
  obtain ⟨hM_e, hA_e, hX_e⟩ := Ev.two_end hw_e (by decide) (by decide)
  clear hw_e
  go_wp2
  refine bodyPost_ret (Ev.results_c3 rfl rfl hA_e Tryd.underlying32 rfl (by kernel_rfl) rfl hX_e Tryd.underlying38 rfl (by kernel_rfl) rfl rfl) rfl ⟨rfl, ?_⟩
  exact Mod.after hB hB.size hM_e (fun k hk => by omega)
set_option maxHeartbeats 4000000 in
set_option maxRecDepth 100000 in
theorem next_touch_no (r : Rq) (kv : Value) (e : Ent) (now ver : Int) (w : World) (hr : r.verb = 12) :
    Calls Tryd.prog 17 #[.agg (r.c kv), .agg e.c, .bool false, .int .i64 now, .int .i64 ver] w fun e_ w' => e_ = .returned (.tuple #[.agg (ans 5 0 ⟨#[]⟩), .agg e.c, .bool false, .bool false]) ∧ Below w.heap.size w w' := by
  have HR := Aside0.mk hr
  clear hr
  simp only [Rq.c, Ent.c]
  go_enter Tryd.func17, Tryd.ntmps17
  go_wp2
  obtain ⟨W, hW⟩ : ∃ W, W = (((w.alloc (.cells (r.c kv) 27)).alloc (.cells e.c 38)).alloc (.cells A0 32)).alloc (.cells E0 38) := ⟨_, rfl⟩
  obtain ⟨b1, b2, b3, b4, hB⟩ := four w (.cells (r.c kv) 27) (.cells e.c 38) (.cells A0 32) (.cells E0 38)
  have hsz : W.heap.size = w.heap.size + 1 + 1 + 1 + 1 := by rw [hW]; simp
  change Code.wp _ _ _ _ ((((w.alloc (.cells (r.c kv) 27)).alloc (.cells e.c 38)).alloc (.cells A0 32)).alloc (.cells E0 38))
  rw [← hW] at b1 b2 b3 b4 hB ⊢
  clear hW
  have c60 : W.cell? ⟨w.heap.size + 1, 0, none⟩ = some (.string e.key) := blk_cell b2 0
  have c52 : W.cell? ⟨w.heap.size, 2, none⟩ = some (.int .i64 r.fl) := blk_cell b1 2
  have c53 : W.cell? ⟨w.heap.size, 3, none⟩ = some (.int .i64 r.exp) := blk_cell b1 3
  have c58 : W.cell? ⟨w.heap.size, 8, none⟩ = some (.string r.data) := blk_cell b1 8
  refine Ev.region_ev (Ev.One W 38 5 (fresh r e now ver).c 12 13) (by kernel_rfl) (by kernel_rfl) Ev.one_start ?_
  refine Ev.ev_step (v := .pointer (some ⟨(w.heap.size + 1), 0, none⟩)) rfl rfl (Ev.one_pure (by decide) (by decide) (fun _ => rfl)) ?_
  simp only [Act.put, List.setIfInBounds_toArray, List.set_cons_succ, List.set_cons_zero]
  refine Ev.ev_step (v := .string e.key) rfl rfl (Ev.one_load (by decide) (by decide) ⟨(w.heap.size + 1), 0, none⟩ (c60) (by rw [hsz]; show (w.heap.size + 1) < _; omega) (fun w hc => by go_simp)) ?_
  simp only [Act.put, List.setIfInBounds_toArray, List.set_cons_succ, List.set_cons_zero]
  refine Ev.ev_step (v := .pointer (some ⟨w.heap.size, 2, none⟩)) rfl rfl (Ev.one_pure (by decide) (by decide) (fun _ => rfl)) ?_
  simp only [Act.put, List.setIfInBounds_toArray, List.set_cons_succ, List.set_cons_zero]
  refine Ev.ev_step (v := .int .i64 r.fl) rfl rfl (Ev.one_load (by decide) (by decide) ⟨w.heap.size, 2, none⟩ (c52) (by rw [hsz]; show w.heap.size < _; omega) (fun w hc => by go_simp)) ?_
  simp only [Act.put, List.setIfInBounds_toArray, List.set_cons_succ, List.set_cons_zero]
  refine Ev.ev_step (v := .pointer (some ⟨w.heap.size, 3, none⟩)) rfl rfl (Ev.one_pure (by decide) (by decide) (fun _ => rfl)) ?_
  simp only [Act.put, List.setIfInBounds_toArray, List.set_cons_succ, List.set_cons_zero]
  refine Ev.ev_step (v := .int .i64 r.exp) rfl rfl (Ev.one_load (by decide) (by decide) ⟨w.heap.size, 3, none⟩ (c53) (by rw [hsz]; show w.heap.size < _; omega) (fun w hc => by go_simp)) ?_
  simp only [Act.put, List.setIfInBounds_toArray, List.set_cons_succ, List.set_cons_zero]
  refine Ev.ev_step (v := .int .i64 now) rfl rfl (Ev.one_pure (by decide) (by decide) (fun _ => rfl)) ?_
  simp only [Act.put, List.setIfInBounds_toArray, List.set_cons_succ, List.set_cons_zero]
  refine Ev.ev_step (v := .int .i64 (dead r.exp now)) rfl rfl (Ev.one_call (by decide) (by decide) 36 #[.int .i64 r.exp, .int .i64 now] (fun _ => by first | (go_simp; done) | (go_simp; rfl)) (fun w => dead_calls _ _ w)) ?_
  simp only [Act.put, List.setIfInBounds_toArray, List.set_cons_succ, List.set_cons_zero]
  refine Ev.ev_step (v := .pointer (some ⟨w.heap.size, 8, none⟩)) rfl rfl (Ev.one_pure (by decide) (by decide) (fun _ => rfl)) ?_
  simp only [Act.put, List.setIfInBounds_toArray, List.set_cons_succ, List.set_cons_zero]
  refine Ev.ev_step (v := .string r.data) rfl rfl (Ev.one_load (by decide) (by decide) ⟨w.heap.size, 8, none⟩ (c58) (by rw [hsz]; show w.heap.size < _; omega) (fun w hc => by go_simp)) ?_
  simp only [Act.put, List.setIfInBounds_toArray, List.set_cons_succ, List.set_cons_zero]
  refine Ev.ev_step (v := .int .i64 ver) rfl rfl (Ev.one_pure (by decide) (by decide) (fun _ => rfl)) ?_
  simp only [Act.put, List.setIfInBounds_toArray, List.set_cons_succ, List.set_cons_zero]
  refine Ev.ev_step (v := .agg (fresh r e now ver).c) rfl rfl (Ev.one_pure (by decide) (by decide) (fun _ => by first | (go_simp; done) | (go_simp; rfl))) ?_
  simp only [Act.put, List.setIfInBounds_toArray, List.set_cons_succ, List.set_cons_zero]
  refine Ev.ev_step (v := .pointer (some ⟨W.heap.size, 0, none⟩)) rfl rfl (Ev.one_alloc (z := E0) (by decide) rfl (fun _ => by first | (go_simp; done) | (go_simp; rfl))) ?_
  simp only [Act.put, List.setIfInBounds_toArray, List.set_cons_succ, List.set_cons_zero]
  refine Ev.ev_step (v := undef) rfl rfl (Ev.one_store (by decide) 38 (.tmp 14) (.tmp 27) rfl rfl rfl rfl (by kernel_rfl) (ent_one _) (fun S hd => hd ⟨12, .phase⟩ (by simp) rfl)) ?_
  simp only [Act.put]
  refine Ev.ev_nil (fun w_e hw_e => ?_)
  obtain ⟨hb, b5⟩ := Ev.one_end hw_e (by decide) (by decide)
  clear hw_e c60 c52 c53 c58
  replace b1 := (hb.block _ (blk_lt b1)).trans b1
  replace b2 := (hb.block _ (blk_lt b2)).trans b2
  replace b3 := (hb.block _ (blk_lt b3)).trans b3
  replace b4 := (hb.block _ (blk_lt b4)).trans b4
  replace hB := hB.trans (hb.mono hB.size)
  rw [hsz] at b5 ⊢
  clear hsz hb
  have hr := HR.out
  have e3 : (r.verb == 3) = false := by rw [hr]; rfl
  have e4 : (r.verb == 4) = false := by rw [hr]; rfl
  have e5 : (r.verb == 5) = false := by rw [hr]; rfl
  have e6 : (r.verb == 6) = false := by rw [hr]; rfl
  have e7 : (r.verb == 7) = false := by rw [hr]; rfl
  have e8 : (r.verb == 8) = false := by rw [hr]; rfl
  have e9 : (r.verb == 9) = false := by rw [hr]; rfl
  have e10 : (r.verb == 10) = false := by rw [hr]; rfl
  have e11 : (r.verb == 11) = false := by rw [hr]; rfl
  have e12 : (r.verb == 12) = true := by rw [hr]; rfl
  have c50 : w_e.cell? ⟨w.heap.size, 0, none⟩ = some (.int .i64 r.verb) := blk_cell b1 0
  clear hr HR
  go_wp2
  clear e3 e4 e5 e6 e7 e8 e9 e10 e11 e12 c50
  obtain ⟨W2, hW2⟩ : ∃ W2, W2 = w_e := ⟨_, rfl⟩
  rw [← hW2] at b1 b2 b3 b4 b5 hB ⊢
  clear hW2
  refine Ev.region_ev (Ev.Two W2 (w.heap.size + 1 + 1) (w.heap.size + 1 + 1 + 1) 32 38 A0 (ans 5 0 ⟨#[]⟩) E0 e.c 3 4) (by kernel_rfl) (by kernel_rfl) (Ev.two_start b3 b4) ?_
  refine Ev.ev_step (v := _) rfl rfl (Ev.two_pure (by decide) (by decide) (fun _ => rfl)) ?_
  simp only [Act.put, List.setIfInBounds_toArray, List.set_cons_succ, List.set_cons_zero]
  refine Ev.ev_step (v := .agg (ans 5 0 ⟨#[]⟩)) rfl rfl (Ev.two_call (by decide) (by decide) 37 #[.int .i64 5] (fun _ => by first | (go_simp; done) | (go_simp; rfl)) (fun w => say_calls 5 w)) ?_
  simp only [Act.put, List.setIfInBounds_toArray, List.set_cons_succ, List.set_cons_zero]
  refine Ev.ev_step (v := .agg e.c) rfl rfl (Ev.two_load (by decide) (by decide) 38 (.tmp 6) rfl (w.heap.size + 1) rfl _ _ _ b2 (by omega) (by omega) Tryd.underlying38 rfl (by kernel_rfl)) ?_
  simp only [Act.put, List.setIfInBounds_toArray, List.set_cons_succ, List.set_cons_zero]
  refine Ev.ev_step (v := undef) rfl rfl (Ev.two_store1 (by decide) (by omega) 32 (.tmp 10) (.tmp 79) rfl rfl rfl rfl (by kernel_rfl) (ans_one _ _ _)) ?_
  simp only [Act.put]
  refine Ev.ev_step (v := undef) rfl rfl (Ev.two_store2 (by decide) (by omega) 38 (.tmp 11) (.tmp 80) rfl rfl rfl rfl (by kernel_rfl) (ent_one _)) ?_
  simp only [Act.put]
  refine Ev.ev_step (v := .bool false) rfl rfl (Ev.two_pure (by decide) (by decide) (fun _ => by rfl)) ?_
  simp only [Act.put, List.setIfInBounds_toArray, List.set_cons_succ, List.set_cons_zero]
  refine Ev.ev_step (v := .bool false) rfl rfl (Ev.two_pure (by decide) (by decide) (fun _ => by rfl)) ?_
  simp only [Act.put, List.setIfInBounds_toArray, List.set_cons_succ, List.set_cons_zero]
  refine Ev.ev_nil (fun w_e hw_e => ?_)
  obtain ⟨hM_e, hA_e, hX_e⟩ := Ev.two_end hw_e (by decide) (by decide)
  clear hw_e
  go_wp2
  refine bodyPost_ret (Ev.results_c3 rfl rfl hA_e Tryd.underlying32 rfl (by kernel_rfl) rfl hX_e Tryd.underlying38 rfl (by kernel_rfl) rfl rfl) rfl ⟨rfl, ?_⟩
  exact Mod.after hB hB.size hM_e (fun k hk => by omega)
set_option maxHeartbeats 4000000 in
set_option maxRecDepth 100000 in
theorem next_delete (r : Rq) (kv : Value) (e : Ent) (now ver : Int) (w : World) (hr : r.verb = 9) :
    Calls Tryd.prog 17 #[.agg (r.c kv), .agg e.c, .bool true, .int .i64 now, .int .i64 ver] w fun e_ w' => e_ = .returned (.tuple #[.agg (ans 6 0 ⟨#[]⟩), .agg e.c, .bool false, .bool true]) ∧ Below w.heap.size w w' := by
  have HR := Aside0.mk hr
  clear hr
  simp only [Rq.c, Ent.c]
  go_enter Tryd.func17, Tryd.ntmps17
  go_wp2
  obtain ⟨W, hW⟩ : ∃ W, W = (((w.alloc (.cells (r.c kv) 27)).alloc (.cells e.c 38)).alloc (.cells A0 32)).alloc (.cells E0 38) := ⟨_, rfl⟩
  obtain ⟨b1, b2, b3, b4, hB⟩ := four w (.cells (r.c kv) 27) (.cells e.c 38) (.cells A0 32) (.cells E0 38)
  have hsz : W.heap.size = w.heap.size + 1 + 1 + 1 + 1 := by rw [hW]; simp
  change Code.wp _ _ _ _ ((((w.alloc (.cells (r.c kv) 27)).alloc (.cells e.c 38)).alloc (.cells A0 32)).alloc (.cells E0 38))
  rw [← hW] at b1 b2 b3 b4 hB ⊢
  clear hW
  have c60 : W.cell? ⟨w.heap.size + 1, 0, none⟩ = some (.string e.key) := blk_cell b2 0
  have c52 : W.cell? ⟨w.heap.size, 2, none⟩ = some (.int .i64 r.fl) := blk_cell b1 2
  have c53 : W.cell? ⟨w.heap.size, 3, none⟩ = some (.int .i64 r.exp) := blk_cell b1 3
  have c58 : W.cell? ⟨w.heap.size, 8, none⟩ = some (.string r.data) := blk_cell b1 8
  refine Ev.region_ev (Ev.One W 38 5 (fresh r e now ver).c 12 13) (by kernel_rfl) (by kernel_rfl) Ev.one_start ?_
  refine Ev.ev_step (v := .pointer (some ⟨(w.heap.size + 1), 0, none⟩)) rfl rfl (Ev.one_pure (by decide) (by decide) (fun _ => rfl)) ?_
  simp only [Act.put, List.setIfInBounds_toArray, List.set_cons_succ, List.set_cons_zero]
  refine Ev.ev_step (v := .string e.key) rfl rfl (Ev.one_load (by decide) (by decide) ⟨(w.heap.size + 1), 0, none⟩ (c60) (by rw [hsz]; show (w.heap.size + 1) < _; omega) (fun w hc => by go_simp)) ?_
  simp only [Act.put, List.setIfInBounds_toArray, List.set_cons_succ, List.set_cons_zero]
  refine Ev.ev_step (v := .pointer (some ⟨w.heap.size, 2, none⟩)) rfl rfl (Ev.one_pure (by decide) (by decide) (fun _ => rfl)) ?_
  simp only [Act.put, List.setIfInBounds_toArray, List.set_cons_succ, List.set_cons_zero]
  refine Ev.ev_step (v := .int .i64 r.fl) rfl rfl (Ev.one_load (by decide) (by decide) ⟨w.heap.size, 2, none⟩ (c52) (by rw [hsz]; show w.heap.size < _; omega) (fun w hc => by go_simp)) ?_
  simp only [Act.put, List.setIfInBounds_toArray, List.set_cons_succ, List.set_cons_zero]
  refine Ev.ev_step (v := .pointer (some ⟨w.heap.size, 3, none⟩)) rfl rfl (Ev.one_pure (by decide) (by decide) (fun _ => rfl)) ?_
  simp only [Act.put, List.setIfInBounds_toArray, List.set_cons_succ, List.set_cons_zero]
  refine Ev.ev_step (v := .int .i64 r.exp) rfl rfl (Ev.one_load (by decide) (by decide) ⟨w.heap.size, 3, none⟩ (c53) (by rw [hsz]; show w.heap.size < _; omega) (fun w hc => by go_simp)) ?_
  simp only [Act.put, List.setIfInBounds_toArray, List.set_cons_succ, List.set_cons_zero]
  refine Ev.ev_step (v := .int .i64 now) rfl rfl (Ev.one_pure (by decide) (by decide) (fun _ => rfl)) ?_
  simp only [Act.put, List.setIfInBounds_toArray, List.set_cons_succ, List.set_cons_zero]
  refine Ev.ev_step (v := .int .i64 (dead r.exp now)) rfl rfl (Ev.one_call (by decide) (by decide) 36 #[.int .i64 r.exp, .int .i64 now] (fun _ => by first | (go_simp; done) | (go_simp; rfl)) (fun w => dead_calls _ _ w)) ?_
  simp only [Act.put, List.setIfInBounds_toArray, List.set_cons_succ, List.set_cons_zero]
  refine Ev.ev_step (v := .pointer (some ⟨w.heap.size, 8, none⟩)) rfl rfl (Ev.one_pure (by decide) (by decide) (fun _ => rfl)) ?_
  simp only [Act.put, List.setIfInBounds_toArray, List.set_cons_succ, List.set_cons_zero]
  refine Ev.ev_step (v := .string r.data) rfl rfl (Ev.one_load (by decide) (by decide) ⟨w.heap.size, 8, none⟩ (c58) (by rw [hsz]; show w.heap.size < _; omega) (fun w hc => by go_simp)) ?_
  simp only [Act.put, List.setIfInBounds_toArray, List.set_cons_succ, List.set_cons_zero]
  refine Ev.ev_step (v := .int .i64 ver) rfl rfl (Ev.one_pure (by decide) (by decide) (fun _ => rfl)) ?_
  simp only [Act.put, List.setIfInBounds_toArray, List.set_cons_succ, List.set_cons_zero]
  refine Ev.ev_step (v := .agg (fresh r e now ver).c) rfl rfl (Ev.one_pure (by decide) (by decide) (fun _ => by first | (go_simp; done) | (go_simp; rfl))) ?_
  simp only [Act.put, List.setIfInBounds_toArray, List.set_cons_succ, List.set_cons_zero]
  refine Ev.ev_step (v := .pointer (some ⟨W.heap.size, 0, none⟩)) rfl rfl (Ev.one_alloc (z := E0) (by decide) rfl (fun _ => by first | (go_simp; done) | (go_simp; rfl))) ?_
  simp only [Act.put, List.setIfInBounds_toArray, List.set_cons_succ, List.set_cons_zero]
  refine Ev.ev_step (v := undef) rfl rfl (Ev.one_store (by decide) 38 (.tmp 14) (.tmp 27) rfl rfl rfl rfl (by kernel_rfl) (ent_one _) (fun S hd => hd ⟨12, .phase⟩ (by simp) rfl)) ?_
  simp only [Act.put]
  refine Ev.ev_nil (fun w_e hw_e => ?_)
  obtain ⟨hb, b5⟩ := Ev.one_end hw_e (by decide) (by decide)
  clear hw_e c60 c52 c53 c58
  replace b1 := (hb.block _ (blk_lt b1)).trans b1
  replace b2 := (hb.block _ (blk_lt b2)).trans b2
  replace b3 := (hb.block _ (blk_lt b3)).trans b3
  replace b4 := (hb.block _ (blk_lt b4)).trans b4
  replace hB := hB.trans (hb.mono hB.size)
  rw [hsz] at b5 ⊢
  clear hsz hb
  have hr := HR.out
  have e3 : (r.verb == 3) = false := by rw [hr]; rfl
  have e4 : (r.verb == 4) = false := by rw [hr]; rfl
  have e5 : (r.verb == 5) = false := by rw [hr]; rfl
  have e6 : (r.verb == 6) = false := by rw [hr]; rfl
  have e7 : (r.verb == 7) = false := by rw [hr]; rfl
  have e8 : (r.verb == 8) = false := by rw [hr]; rfl
  have e9 : (r.verb == 9) = true := by rw [hr]; rfl
  have e10 : (r.verb == 10) = false := by rw [hr]; rfl
  have e11 : (r.verb == 11) = false := by rw [hr]; rfl
  have e12 : (r.verb == 12) = false := by rw [hr]; rfl
  have c50 : w_e.cell? ⟨w.heap.size, 0, none⟩ = some (.int .i64 r.verb) := blk_cell b1 0
  clear hr HR
  go_wp2
  clear e3 e4 e5 e6 e7 e8 e9 e10 e11 e12 c50
  obtain ⟨W2, hW2⟩ : ∃ W2, W2 = w_e := ⟨_, rfl⟩
  rw [← hW2] at b1 b2 b3 b4 b5 hB ⊢
  clear hW2
  refine Ev.region_ev (Ev.Two W2 (w.heap.size + 1 + 1) (w.heap.size + 1 + 1 + 1) 32 38 A0 (ans 6 0 ⟨#[]⟩) E0 e.c 3 4) (by kernel_rfl) (by kernel_rfl) (Ev.two_start b3 b4) ?_
  refine Ev.ev_step (v := _) rfl rfl (Ev.two_pure (by decide) (by decide) (fun _ => rfl)) ?_
  simp only [Act.put, List.setIfInBounds_toArray, List.set_cons_succ, List.set_cons_zero]
  refine Ev.ev_step (v := .agg (ans 6 0 ⟨#[]⟩)) rfl rfl (Ev.two_call (by decide) (by decide) 37 #[.int .i64 6] (fun _ => by first | (go_simp; done) | (go_simp; rfl)) (fun w => say_calls 6 w)) ?_
  simp only [Act.put, List.setIfInBounds_toArray, List.set_cons_succ, List.set_cons_zero]
  refine Ev.ev_step (v := .agg e.c) rfl rfl (Ev.two_load (by decide) (by decide) 38 (.tmp 6) rfl (w.heap.size + 1) rfl _ _ _ b2 (by omega) (by omega) Tryd.underlying38 rfl (by kernel_rfl)) ?_
  simp only [Act.put, List.setIfInBounds_toArray, List.set_cons_succ, List.set_cons_zero]
  refine Ev.ev_step (v := undef) rfl rfl (Ev.two_store1 (by decide) (by omega) 32 (.tmp 10) (.tmp 99) rfl rfl rfl rfl (by kernel_rfl) (ans_one _ _ _)) ?_
  simp only [Act.put]
  refine Ev.ev_step (v := undef) rfl rfl (Ev.two_store2 (by decide) (by omega) 38 (.tmp 11) (.tmp 100) rfl rfl rfl rfl (by kernel_rfl) (ent_one _)) ?_
  simp only [Act.put]
  refine Ev.ev_step (v := .bool false) rfl rfl (Ev.two_pure (by decide) (by decide) (fun _ => by rfl)) ?_
  simp only [Act.put, List.setIfInBounds_toArray, List.set_cons_succ, List.set_cons_zero]
  refine Ev.ev_step (v := .bool true) rfl rfl (Ev.two_pure (by decide) (by decide) (fun _ => by rfl)) ?_
  simp only [Act.put, List.setIfInBounds_toArray, List.set_cons_succ, List.set_cons_zero]
  refine Ev.ev_nil (fun w_e hw_e => ?_)
  obtain ⟨hM_e, hA_e, hX_e⟩ := Ev.two_end hw_e (by decide) (by decide)
  clear hw_e
  go_wp2
  refine bodyPost_ret (Ev.results_c3 rfl rfl hA_e Tryd.underlying32 rfl (by kernel_rfl) rfl hX_e Tryd.underlying38 rfl (by kernel_rfl) rfl rfl) rfl ⟨rfl, ?_⟩
  exact Mod.after hB hB.size hM_e (fun k hk => by omega)
set_option maxHeartbeats 4000000 in
set_option maxRecDepth 100000 in
theorem next_cas_other (r : Rq) (kv : Value) (e : Ent) (hc : e.cas ≠ r.cas) (now ver : Int) (w : World) (hr : r.verb = 8) :
    Calls Tryd.prog 17 #[.agg (r.c kv), .agg e.c, .bool true, .int .i64 now, .int .i64 ver] w fun e_ w' => e_ = .returned (.tuple #[.agg (ans 4 0 ⟨#[]⟩), .agg e.c, .bool false, .bool false]) ∧ Below w.heap.size w w' := by
  have HC := Aside0.mk hc
  clear hc
  have HR := Aside0.mk hr
  clear hr
  simp only [Rq.c, Ent.c]
  go_enter Tryd.func17, Tryd.ntmps17
  go_wp2
  obtain ⟨W, hW⟩ : ∃ W, W = (((w.alloc (.cells (r.c kv) 27)).alloc (.cells e.c 38)).alloc (.cells A0 32)).alloc (.cells E0 38) := ⟨_, rfl⟩
  obtain ⟨b1, b2, b3, b4, hB⟩ := four w (.cells (r.c kv) 27) (.cells e.c 38) (.cells A0 32) (.cells E0 38)
  have hsz : W.heap.size = w.heap.size + 1 + 1 + 1 + 1 := by rw [hW]; simp
  change Code.wp _ _ _ _ ((((w.alloc (.cells (r.c kv) 27)).alloc (.cells e.c 38)).alloc (.cells A0 32)).alloc (.cells E0 38))
  rw [← hW] at b1 b2 b3 b4 hB ⊢
  clear hW
  have c60 : W.cell? ⟨w.heap.size + 1, 0, none⟩ = some (.string e.key) := blk_cell b2 0
  have c52 : W.cell? ⟨w.heap.size, 2, none⟩ = some (.int .i64 r.fl) := blk_cell b1 2
  have c53 : W.cell? ⟨w.heap.size, 3, none⟩ = some (.int .i64 r.exp) := blk_cell b1 3
  have c58 : W.cell? ⟨w.heap.size, 8, none⟩ = some (.string r.data) := blk_cell b1 8
  refine Ev.region_ev (Ev.One W 38 5 (fresh r e now ver).c 12 13) (by kernel_rfl) (by kernel_rfl) Ev.one_start ?_
  refine Ev.ev_step (v := .pointer (some ⟨(w.heap.size + 1), 0, none⟩)) rfl rfl (Ev.one_pure (by decide) (by decide) (fun _ => rfl)) ?_
  simp only [Act.put, List.setIfInBounds_toArray, List.set_cons_succ, List.set_cons_zero]
  refine Ev.ev_step (v := .string e.key) rfl rfl (Ev.one_load (by decide) (by decide) ⟨(w.heap.size + 1), 0, none⟩ (c60) (by rw [hsz]; show (w.heap.size + 1) < _; omega) (fun w hc => by go_simp)) ?_
  simp only [Act.put, List.setIfInBounds_toArray, List.set_cons_succ, List.set_cons_zero]
  refine Ev.ev_step (v := .pointer (some ⟨w.heap.size, 2, none⟩)) rfl rfl (Ev.one_pure (by decide) (by decide) (fun _ => rfl)) ?_
  simp only [Act.put, List.setIfInBounds_toArray, List.set_cons_succ, List.set_cons_zero]
  refine Ev.ev_step (v := .int .i64 r.fl) rfl rfl (Ev.one_load (by decide) (by decide) ⟨w.heap.size, 2, none⟩ (c52) (by rw [hsz]; show w.heap.size < _; omega) (fun w hc => by go_simp)) ?_
  simp only [Act.put, List.setIfInBounds_toArray, List.set_cons_succ, List.set_cons_zero]
  refine Ev.ev_step (v := .pointer (some ⟨w.heap.size, 3, none⟩)) rfl rfl (Ev.one_pure (by decide) (by decide) (fun _ => rfl)) ?_
  simp only [Act.put, List.setIfInBounds_toArray, List.set_cons_succ, List.set_cons_zero]
  refine Ev.ev_step (v := .int .i64 r.exp) rfl rfl (Ev.one_load (by decide) (by decide) ⟨w.heap.size, 3, none⟩ (c53) (by rw [hsz]; show w.heap.size < _; omega) (fun w hc => by go_simp)) ?_
  simp only [Act.put, List.setIfInBounds_toArray, List.set_cons_succ, List.set_cons_zero]
  refine Ev.ev_step (v := .int .i64 now) rfl rfl (Ev.one_pure (by decide) (by decide) (fun _ => rfl)) ?_
  simp only [Act.put, List.setIfInBounds_toArray, List.set_cons_succ, List.set_cons_zero]
  refine Ev.ev_step (v := .int .i64 (dead r.exp now)) rfl rfl (Ev.one_call (by decide) (by decide) 36 #[.int .i64 r.exp, .int .i64 now] (fun _ => by first | (go_simp; done) | (go_simp; rfl)) (fun w => dead_calls _ _ w)) ?_
  simp only [Act.put, List.setIfInBounds_toArray, List.set_cons_succ, List.set_cons_zero]
  refine Ev.ev_step (v := .pointer (some ⟨w.heap.size, 8, none⟩)) rfl rfl (Ev.one_pure (by decide) (by decide) (fun _ => rfl)) ?_
  simp only [Act.put, List.setIfInBounds_toArray, List.set_cons_succ, List.set_cons_zero]
  refine Ev.ev_step (v := .string r.data) rfl rfl (Ev.one_load (by decide) (by decide) ⟨w.heap.size, 8, none⟩ (c58) (by rw [hsz]; show w.heap.size < _; omega) (fun w hc => by go_simp)) ?_
  simp only [Act.put, List.setIfInBounds_toArray, List.set_cons_succ, List.set_cons_zero]
  refine Ev.ev_step (v := .int .i64 ver) rfl rfl (Ev.one_pure (by decide) (by decide) (fun _ => rfl)) ?_
  simp only [Act.put, List.setIfInBounds_toArray, List.set_cons_succ, List.set_cons_zero]
  refine Ev.ev_step (v := .agg (fresh r e now ver).c) rfl rfl (Ev.one_pure (by decide) (by decide) (fun _ => by first | (go_simp; done) | (go_simp; rfl))) ?_
  simp only [Act.put, List.setIfInBounds_toArray, List.set_cons_succ, List.set_cons_zero]
  refine Ev.ev_step (v := .pointer (some ⟨W.heap.size, 0, none⟩)) rfl rfl (Ev.one_alloc (z := E0) (by decide) rfl (fun _ => by first | (go_simp; done) | (go_simp; rfl))) ?_
  simp only [Act.put, List.setIfInBounds_toArray, List.set_cons_succ, List.set_cons_zero]
  refine Ev.ev_step (v := undef) rfl rfl (Ev.one_store (by decide) 38 (.tmp 14) (.tmp 27) rfl rfl rfl rfl (by kernel_rfl) (ent_one _) (fun S hd => hd ⟨12, .phase⟩ (by simp) rfl)) ?_
  simp only [Act.put]
  refine Ev.ev_nil (fun w_e hw_e => ?_)
  obtain ⟨hb, b5⟩ := Ev.one_end hw_e (by decide) (by decide)
  clear hw_e c60 c52 c53 c58
  replace b1 := (hb.block _ (blk_lt b1)).trans b1
  replace b2 := (hb.block _ (blk_lt b2)).trans b2
  replace b3 := (hb.block _ (blk_lt b3)).trans b3
  replace b4 := (hb.block _ (blk_lt b4)).trans b4
  replace hB := hB.trans (hb.mono hB.size)
  rw [hsz] at b5 ⊢
  clear hsz hb
  have hr := HR.out
  have e3 : (r.verb == 3) = false := by rw [hr]; rfl
  have e4 : (r.verb == 4) = false := by rw [hr]; rfl
  have e5 : (r.verb == 5) = false := by rw [hr]; rfl
  have e6 : (r.verb == 6) = false := by rw [hr]; rfl
  have e7 : (r.verb == 7) = false := by rw [hr]; rfl
  have e8 : (r.verb == 8) = true := by rw [hr]; rfl
  have e9 : (r.verb == 9) = false := by rw [hr]; rfl
  have e10 : (r.verb == 10) = false := by rw [hr]; rfl
  have e11 : (r.verb == 11) = false := by rw [hr]; rfl
  have e12 : (r.verb == 12) = false := by rw [hr]; rfl
  have c50 : w_e.cell? ⟨w.heap.size, 0, none⟩ = some (.int .i64 r.verb) := blk_cell b1 0
  clear hr HR
  have c54 : w_e.cell? ⟨w.heap.size + 1, 4, none⟩ = some (.int .i64 e.cas) := blk_cell b2 4
  have c55 : w_e.cell? ⟨w.heap.size, 5, none⟩ = some (.int .i64 r.cas) := blk_cell b1 5
  have ec : (e.cas == r.cas) = false := by simp [HC.out]
  clear HC
  go_wp2
  clear e3 e4 e5 e6 e7 e8 e9 e10 e11 e12 c50 c54 c55 ec
  obtain ⟨W2, hW2⟩ : ∃ W2, W2 = w_e := ⟨_, rfl⟩
  rw [← hW2] at b1 b2 b3 b4 b5 hB ⊢
  clear hW2
  refine Ev.region_ev (Ev.Two W2 (w.heap.size + 1 + 1) (w.heap.size + 1 + 1 + 1) 32 38 A0 (ans 4 0 ⟨#[]⟩) E0 e.c 3 4) (by kernel_rfl) (by kernel_rfl) (Ev.two_start b3 b4) ?_
  refine Ev.ev_step (v := _) rfl rfl (Ev.two_pure (by decide) (by decide) (fun _ => rfl)) ?_
  simp only [Act.put, List.setIfInBounds_toArray, List.set_cons_succ, List.set_cons_zero]
  refine Ev.ev_step (v := .agg (ans 4 0 ⟨#[]⟩)) rfl rfl (Ev.two_call (by decide) (by decide) 37 #[.int .i64 4] (fun _ => by first | (go_simp; done) | (go_simp; rfl)) (fun w => say_calls 4 w)) ?_
  simp only [Act.put, List.setIfInBounds_toArray, List.set_cons_succ, List.set_cons_zero]
  refine Ev.ev_step (v := .agg e.c) rfl rfl (Ev.two_load (by decide) (by decide) 38 (.tmp 6) rfl (w.heap.size + 1) rfl _ _ _ b2 (by omega) (by omega) Tryd.underlying38 rfl (by kernel_rfl)) ?_
  simp only [Act.put, List.setIfInBounds_toArray, List.set_cons_succ, List.set_cons_zero]
  refine Ev.ev_step (v := undef) rfl rfl (Ev.two_store1 (by decide) (by omega) 32 (.tmp 10) (.tmp 91) rfl rfl rfl rfl (by kernel_rfl) (ans_one _ _ _)) ?_
  simp only [Act.put]
  refine Ev.ev_step (v := undef) rfl rfl (Ev.two_store2 (by decide) (by omega) 38 (.tmp 11) (.tmp 92) rfl rfl rfl rfl (by kernel_rfl) (ent_one _)) ?_
  simp only [Act.put]
  refine Ev.ev_step (v := .bool false) rfl rfl (Ev.two_pure (by decide) (by decide) (fun _ => by rfl)) ?_
  simp only [Act.put, List.setIfInBounds_toArray, List.set_cons_succ, List.set_cons_zero]
  refine Ev.ev_step (v := .bool false) rfl rfl (Ev.two_pure (by decide) (by decide) (fun _ => by rfl)) ?_
  simp only [Act.put, List.setIfInBounds_toArray, List.set_cons_succ, List.set_cons_zero]
  refine Ev.ev_nil (fun w_e hw_e => ?_)
  obtain ⟨hM_e, hA_e, hX_e⟩ := Ev.two_end hw_e (by decide) (by decide)
  clear hw_e
  go_wp2
  refine bodyPost_ret (Ev.results_c3 rfl rfl hA_e Tryd.underlying32 rfl (by kernel_rfl) rfl hX_e Tryd.underlying38 rfl (by kernel_rfl) rfl rfl) rfl ⟨rfl, ?_⟩
  exact Mod.after hB hB.size hM_e (fun k hk => by omega)
set_option maxHeartbeats 4000000 in
set_option maxRecDepth 100000 in
theorem next_cas (r : Rq) (kv : Value) (e : Ent) (hc : e.cas = r.cas) (now ver : Int) (w : World) (hr : r.verb = 8) :
    Calls Tryd.prog 17 #[.agg (r.c kv), .agg e.c, .bool true, .int .i64 now, .int .i64 ver] w fun e_ w' => e_ = .returned (.tuple #[.agg (ans 2 0 ⟨#[]⟩), .agg (fresh r e now ver).c, .bool true, .bool false]) ∧ Below w.heap.size w w' := by
  have HC := Aside0.mk hc
  clear hc
  have HR := Aside0.mk hr
  clear hr
  simp only [Rq.c, Ent.c]
  go_enter Tryd.func17, Tryd.ntmps17
  go_wp2
  obtain ⟨W, hW⟩ : ∃ W, W = (((w.alloc (.cells (r.c kv) 27)).alloc (.cells e.c 38)).alloc (.cells A0 32)).alloc (.cells E0 38) := ⟨_, rfl⟩
  obtain ⟨b1, b2, b3, b4, hB⟩ := four w (.cells (r.c kv) 27) (.cells e.c 38) (.cells A0 32) (.cells E0 38)
  have hsz : W.heap.size = w.heap.size + 1 + 1 + 1 + 1 := by rw [hW]; simp
  change Code.wp _ _ _ _ ((((w.alloc (.cells (r.c kv) 27)).alloc (.cells e.c 38)).alloc (.cells A0 32)).alloc (.cells E0 38))
  rw [← hW] at b1 b2 b3 b4 hB ⊢
  clear hW
  have c60 : W.cell? ⟨w.heap.size + 1, 0, none⟩ = some (.string e.key) := blk_cell b2 0
  have c52 : W.cell? ⟨w.heap.size, 2, none⟩ = some (.int .i64 r.fl) := blk_cell b1 2
  have c53 : W.cell? ⟨w.heap.size, 3, none⟩ = some (.int .i64 r.exp) := blk_cell b1 3
  have c58 : W.cell? ⟨w.heap.size, 8, none⟩ = some (.string r.data) := blk_cell b1 8
  refine Ev.region_ev (Ev.One W 38 5 (fresh r e now ver).c 12 13) (by kernel_rfl) (by kernel_rfl) Ev.one_start ?_
  refine Ev.ev_step (v := .pointer (some ⟨(w.heap.size + 1), 0, none⟩)) rfl rfl (Ev.one_pure (by decide) (by decide) (fun _ => rfl)) ?_
  simp only [Act.put, List.setIfInBounds_toArray, List.set_cons_succ, List.set_cons_zero]
  refine Ev.ev_step (v := .string e.key) rfl rfl (Ev.one_load (by decide) (by decide) ⟨(w.heap.size + 1), 0, none⟩ (c60) (by rw [hsz]; show (w.heap.size + 1) < _; omega) (fun w hc => by go_simp)) ?_
  simp only [Act.put, List.setIfInBounds_toArray, List.set_cons_succ, List.set_cons_zero]
  refine Ev.ev_step (v := .pointer (some ⟨w.heap.size, 2, none⟩)) rfl rfl (Ev.one_pure (by decide) (by decide) (fun _ => rfl)) ?_
  simp only [Act.put, List.setIfInBounds_toArray, List.set_cons_succ, List.set_cons_zero]
  refine Ev.ev_step (v := .int .i64 r.fl) rfl rfl (Ev.one_load (by decide) (by decide) ⟨w.heap.size, 2, none⟩ (c52) (by rw [hsz]; show w.heap.size < _; omega) (fun w hc => by go_simp)) ?_
  simp only [Act.put, List.setIfInBounds_toArray, List.set_cons_succ, List.set_cons_zero]
  refine Ev.ev_step (v := .pointer (some ⟨w.heap.size, 3, none⟩)) rfl rfl (Ev.one_pure (by decide) (by decide) (fun _ => rfl)) ?_
  simp only [Act.put, List.setIfInBounds_toArray, List.set_cons_succ, List.set_cons_zero]
  refine Ev.ev_step (v := .int .i64 r.exp) rfl rfl (Ev.one_load (by decide) (by decide) ⟨w.heap.size, 3, none⟩ (c53) (by rw [hsz]; show w.heap.size < _; omega) (fun w hc => by go_simp)) ?_
  simp only [Act.put, List.setIfInBounds_toArray, List.set_cons_succ, List.set_cons_zero]
  refine Ev.ev_step (v := .int .i64 now) rfl rfl (Ev.one_pure (by decide) (by decide) (fun _ => rfl)) ?_
  simp only [Act.put, List.setIfInBounds_toArray, List.set_cons_succ, List.set_cons_zero]
  refine Ev.ev_step (v := .int .i64 (dead r.exp now)) rfl rfl (Ev.one_call (by decide) (by decide) 36 #[.int .i64 r.exp, .int .i64 now] (fun _ => by first | (go_simp; done) | (go_simp; rfl)) (fun w => dead_calls _ _ w)) ?_
  simp only [Act.put, List.setIfInBounds_toArray, List.set_cons_succ, List.set_cons_zero]
  refine Ev.ev_step (v := .pointer (some ⟨w.heap.size, 8, none⟩)) rfl rfl (Ev.one_pure (by decide) (by decide) (fun _ => rfl)) ?_
  simp only [Act.put, List.setIfInBounds_toArray, List.set_cons_succ, List.set_cons_zero]
  refine Ev.ev_step (v := .string r.data) rfl rfl (Ev.one_load (by decide) (by decide) ⟨w.heap.size, 8, none⟩ (c58) (by rw [hsz]; show w.heap.size < _; omega) (fun w hc => by go_simp)) ?_
  simp only [Act.put, List.setIfInBounds_toArray, List.set_cons_succ, List.set_cons_zero]
  refine Ev.ev_step (v := .int .i64 ver) rfl rfl (Ev.one_pure (by decide) (by decide) (fun _ => rfl)) ?_
  simp only [Act.put, List.setIfInBounds_toArray, List.set_cons_succ, List.set_cons_zero]
  refine Ev.ev_step (v := .agg (fresh r e now ver).c) rfl rfl (Ev.one_pure (by decide) (by decide) (fun _ => by first | (go_simp; done) | (go_simp; rfl))) ?_
  simp only [Act.put, List.setIfInBounds_toArray, List.set_cons_succ, List.set_cons_zero]
  refine Ev.ev_step (v := .pointer (some ⟨W.heap.size, 0, none⟩)) rfl rfl (Ev.one_alloc (z := E0) (by decide) rfl (fun _ => by first | (go_simp; done) | (go_simp; rfl))) ?_
  simp only [Act.put, List.setIfInBounds_toArray, List.set_cons_succ, List.set_cons_zero]
  refine Ev.ev_step (v := undef) rfl rfl (Ev.one_store (by decide) 38 (.tmp 14) (.tmp 27) rfl rfl rfl rfl (by kernel_rfl) (ent_one _) (fun S hd => hd ⟨12, .phase⟩ (by simp) rfl)) ?_
  simp only [Act.put]
  refine Ev.ev_nil (fun w_e hw_e => ?_)
  obtain ⟨hb, b5⟩ := Ev.one_end hw_e (by decide) (by decide)
  clear hw_e c60 c52 c53 c58
  replace b1 := (hb.block _ (blk_lt b1)).trans b1
  replace b2 := (hb.block _ (blk_lt b2)).trans b2
  replace b3 := (hb.block _ (blk_lt b3)).trans b3
  replace b4 := (hb.block _ (blk_lt b4)).trans b4
  replace hB := hB.trans (hb.mono hB.size)
  rw [hsz] at b5 ⊢
  clear hsz hb
  have hr := HR.out
  have e3 : (r.verb == 3) = false := by rw [hr]; rfl
  have e4 : (r.verb == 4) = false := by rw [hr]; rfl
  have e5 : (r.verb == 5) = false := by rw [hr]; rfl
  have e6 : (r.verb == 6) = false := by rw [hr]; rfl
  have e7 : (r.verb == 7) = false := by rw [hr]; rfl
  have e8 : (r.verb == 8) = true := by rw [hr]; rfl
  have e9 : (r.verb == 9) = false := by rw [hr]; rfl
  have e10 : (r.verb == 10) = false := by rw [hr]; rfl
  have e11 : (r.verb == 11) = false := by rw [hr]; rfl
  have e12 : (r.verb == 12) = false := by rw [hr]; rfl
  have c50 : w_e.cell? ⟨w.heap.size, 0, none⟩ = some (.int .i64 r.verb) := blk_cell b1 0
  clear hr HR
  have c54 : w_e.cell? ⟨w.heap.size + 1, 4, none⟩ = some (.int .i64 e.cas) := blk_cell b2 4
  have c55 : w_e.cell? ⟨w.heap.size, 5, none⟩ = some (.int .i64 r.cas) := blk_cell b1 5
  have ec : (e.cas == r.cas) = true := by simp [HC.out]
  clear HC
  go_wp2
  clear e3 e4 e5 e6 e7 e8 e9 e10 e11 e12 c50 c54 c55 ec
  obtain ⟨W2, hW2⟩ : ∃ W2, W2 = w_e := ⟨_, rfl⟩
  rw [← hW2] at b1 b2 b3 b4 b5 hB ⊢
  clear hW2
  refine Ev.region_ev (Ev.Two W2 (w.heap.size + 1 + 1) (w.heap.size + 1 + 1 + 1) 32 38 A0 (ans 2 0 ⟨#[]⟩) E0 (fresh r e now ver).c 3 4) (by kernel_rfl) (by kernel_rfl) (Ev.two_start b3 b4) ?_
  refine Ev.ev_step (v := _) rfl rfl (Ev.two_pure (by decide) (by decide) (fun _ => rfl)) ?_
  simp only [Act.put, List.setIfInBounds_toArray, List.set_cons_succ, List.set_cons_zero]
  refine Ev.ev_step (v := .agg (ans 2 0 ⟨#[]⟩)) rfl rfl (Ev.two_call (by decide) (by decide) 37 #[.int .i64 2] (fun _ => by first | (go_simp; done) | (go_simp; rfl)) (fun w => say_calls 2 w)) ?_
  simp only [Act.put, List.setIfInBounds_toArray, List.set_cons_succ, List.set_cons_zero]
  refine Ev.ev_step (v := .agg (fresh r e now ver).c) rfl rfl (Ev.two_load (by decide) (by decide) 38 (.tmp 14) rfl (w.heap.size + 1 + 1 + 1 + 1) rfl _ _ _ b5 (by omega) (by omega) Tryd.underlying38 rfl (by kernel_rfl)) ?_
  simp only [Act.put, List.setIfInBounds_toArray, List.set_cons_succ, List.set_cons_zero]
  refine Ev.ev_step (v := undef) rfl rfl (Ev.two_store1 (by decide) (by omega) 32 (.tmp 10) (.tmp 94) rfl rfl rfl rfl (by kernel_rfl) (ans_one _ _ _)) ?_
  simp only [Act.put]
  refine Ev.ev_step (v := undef) rfl rfl (Ev.two_store2 (by decide) (by omega) 38 (.tmp 11) (.tmp 95) rfl rfl rfl rfl (by kernel_rfl) (ent_one _)) ?_
  simp only [Act.put]
  refine Ev.ev_step (v := .bool true) rfl rfl (Ev.two_pure (by decide) (by decide) (fun _ => by rfl)) ?_
  simp only [Act.put, List.setIfInBounds_toArray, List.set_cons_succ, List.set_cons_zero]
  refine Ev.ev_step (v := .bool false) rfl rfl (Ev.two_pure (by decide) (by decide) (fun _ => by rfl)) ?_
  simp only [Act.put, List.setIfInBounds_toArray, List.set_cons_succ, List.set_cons_zero]
  refine Ev.ev_nil (fun w_e hw_e => ?_)
  obtain ⟨hM_e, hA_e, hX_e⟩ := Ev.two_end hw_e (by decide) (by decide)
  clear hw_e
  go_wp2
  refine bodyPost_ret (Ev.results_c3 rfl rfl hA_e Tryd.underlying32 rfl (by kernel_rfl) rfl hX_e Tryd.underlying38 rfl (by kernel_rfl) rfl rfl) rfl ⟨rfl, ?_⟩
  exact Mod.after hB hB.size hM_e (fun k hk => by omega)
end Go.Proofs.YtepklobkppdliaaDoor.Md
