/- The model: Next (append, prepend, incr, decr). -/
import Derived.Test.YtepklobkppdliaaDoorUMd6a
namespace Go.Proofs.YtepklobkppdliaaDoor.Md
open Go.RowKit Go.Proofs.YtepklobkppdliaaDoorW.PrintWords Go.Proofs.YtepklobkppdliaaDoorW.PrintLast Go.Proofs.YtepklobkppdliaaDoorW.PrintMore Go.Proofs.YtepklobkppdliaaDoor.Lib Go.Proofs.YtepklobkppdliaaDoor.Open
set_option maxHeartbeats 4000000 in
set_option maxRecDepth 100000 in
theorem next_app (r : Rq) (kv : Value) (e : Ent) (a n : Int) (t : ByteArray) (x : Ent) (k : Bool) (now ver : Int) (w : World) (hj : ∀ W, Calls Tryd.prog 38 #[.agg (r.c kv), .agg e.c, .int .i64 ver] W fun e_ w' => e_ = .returned (.tuple #[.agg (ans a n t), .agg x.c, .bool k]) ∧ Below W.heap.size W w') (hr : r.verb = 6) :
    Calls Tryd.prog 17 #[.agg (r.c kv), .agg e.c, .bool true, .int .i64 now, .int .i64 ver] w fun e_ w' => e_ = .returned (.tuple #[.agg (ans a n t), .agg x.c, .bool k, .bool false]) ∧ Below w.heap.size w w' := by
  have HR := Aside0.mk hr
  clear hr
  simp only [Rq.c, Ent.c]
  go_enter Tryd.func17, Tryd.ntmps17
  go_wp2
  obtain ⟨W, hW⟩ : ∃ W, W = (((w.alloc (.cells (r.c kv) 27)).alloc (.cells e.c 38)).alloc (.cells A0 32)).alloc (.cells E0 38) := ⟨_, rfl⟩
  obtain ⟨b1, b2, b3, b4, hB⟩ := four w (.cells (r.c kv) 27) (.cells e.c 38) (.cells A0 32) (.cells E0 38)
  have hsz : W.heap.size = w.heap.size + 1 + 1 + 1 + 1 := by rw [hW]; simp
  change Code.wp _ _ _ _ ((((w.alloc (.cells (r.c kv) 27)).alloc (.cells e.c 38)).alloc (.cells A0 32)).alloc (.cells E0 38))
  rw [← hW] at b1 b2 b3 b4 hB ⊢
  clear hW
  have c60 : W.cell? ⟨w.heap.size + 1, 0, none⟩ = some (.string e.key) := blk_cell b2 0
  have c52 : W.cell? ⟨w.heap.size, 2, none⟩ = some (.int .i64 r.fl) := blk_cell b1 2
  have c53 : W.cell? ⟨w.heap.size, 3, none⟩ = some (.int .i64 r.exp) := blk_cell b1 3
  have c58 : W.cell? ⟨w.heap.size, 8, none⟩ = some (.string r.data) := blk_cell b1 8
  refine Ev.region_ev (Ev.One W 38 5 (fresh r e now ver).c 12 13) (by kernel_rfl) (by kernel_rfl) Ev.one_start ?_
  refine Ev.ev_step (v := .pointer (some ⟨(w.heap.size + 1), 0, none⟩)) rfl rfl (Ev.one_pure (by decide) (by decide) (fun _ => rfl)) ?_
  simp only [Act.put, List.setIfInBounds_toArray, List.set_cons_succ, List.set_cons_zero]
  refine Ev.ev_step (v := .string e.key) rfl rfl (Ev.one_load (by decide) (by decide) ⟨(w.heap.size + 1), 0, none⟩ (c60) (by rw [hsz]; show (w.heap.size + 1) < _; omega) (fun w hc => by go_simp)) ?_
  simp only [Act.put, List.setIfInBounds_toArray, List.set_cons_succ, List.set_cons_zero]
  refine Ev.ev_step (v := .pointer (some ⟨w.heap.size, 2, none⟩)) rfl rfl (Ev.one_pure (by decide) (by decide) (fun _ => rfl)) ?_
  simp only [Act.put, List.setIfInBounds_toArray, List.set_cons_succ, List.set_cons_zero]
  refine Ev.ev_step (v := .int .i64 r.fl) rfl rfl (Ev.one_load (by decide) (by decide) ⟨w.heap.size, 2, none⟩ (c52) (by rw [hsz]; show w.heap.size < _; omega) (fun w hc => by go_simp)) ?_
  simp only [Act.put, List.setIfInBounds_toArray, List.set_cons_succ, List.set_cons_zero]
  refine Ev.ev_step (v := .pointer (some ⟨w.heap.size, 3, none⟩)) rfl rfl (Ev.one_pure (by decide) (by decide) (fun _ => rfl)) ?_
  simp only [Act.put, List.setIfInBounds_toArray, List.set_cons_succ, List.set_cons_zero]
  refine Ev.ev_step (v := .int .i64 r.exp) rfl rfl (Ev.one_load (by decide) (by decide) ⟨w.heap.size, 3, none⟩ (c53) (by rw [hsz]; show w.heap.size < _; omega) (fun w hc => by go_simp)) ?_
  simp only [Act.put, List.setIfInBounds_toArray, List.set_cons_succ, List.set_cons_zero]
  refine Ev.ev_step (v := .int .i64 now) rfl rfl (Ev.one_pure (by decide) (by decide) (fun _ => rfl)) ?_
  simp only [Act.put, List.setIfInBounds_toArray, List.set_cons_succ, List.set_cons_zero]
  refine Ev.ev_step (v := .int .i64 (dead r.exp now)) rfl rfl (Ev.one_call (by decide) (by decide) 36 #[.int .i64 r.exp, .int .i64 now] (fun _ => by first | (go_simp; done) | (go_simp; rfl)) (fun w => dead_calls _ _ w)) ?_
  simp only [Act.put, List.setIfInBounds_toArray, List.set_cons_succ, List.set_cons_zero]
  refine Ev.ev_step (v := .pointer (some ⟨w.heap.size, 8, none⟩)) rfl rfl (Ev.one_pure (by decide) (by decide) (fun _ => rfl)) ?_
  simp only [Act.put, List.setIfInBounds_toArray, List.set_cons_succ, List.set_cons_zero]
  refine Ev.ev_step (v := .string r.data) rfl rfl (Ev.one_load (by decide) (by decide) ⟨w.heap.size, 8, none⟩ (c58) (by rw [hsz]; show w.heap.size < _; omega) (fun w hc => by go_simp)) ?_
  simp only [Act.put, List.setIfInBounds_toArray, List.set_cons_succ, List.set_cons_zero]
  refine Ev.ev_step (v := .int .i64 ver) rfl rfl (Ev.one_pure (by decide) (by decide) (fun _ => rfl)) ?_
  simp only [Act.put, List.setIfInBounds_toArray, List.set_cons_succ, List.set_cons_zero]
  refine Ev.ev_step (v := .agg (fresh r e now ver).c) rfl rfl (Ev.one_pure (by decide) (by decide) (fun _ => by first | (go_simp; done) | (go_simp; rfl))) ?_
  simp only [Act.put, List.setIfInBounds_toArray, List.set_cons_succ, List.set_cons_zero]
  refine Ev.ev_step (v := .pointer (some ⟨W.heap.size, 0, none⟩)) rfl rfl (Ev.one_alloc (z := E0) (by decide) rfl (fun _ => by first | (go_simp; done) | (go_simp; rfl))) ?_
  simp only [Act.put, List.setIfInBounds_toArray, List.set_cons_succ, List.set_cons_zero]
  refine Ev.ev_step (v := undef) rfl rfl (Ev.one_store (by decide) 38 (.tmp 14) (.tmp 27) rfl rfl rfl rfl (by kernel_rfl) (ent_one _) (fun S hd => hd ⟨12, .phase⟩ (by simp) rfl)) ?_
  simp only [Act.put]
  refine Ev.ev_nil (fun w_e hw_e => ?_)
  obtain ⟨hb, b5⟩ := Ev.one_end hw_e (by decide) (by decide)
  clear hw_e c60 c52 c53 c58
  replace b1 := (hb.block _ (blk_lt b1)).trans b1
  replace b2 := (hb.block _ (blk_lt b2)).trans b2
  replace b3 := (hb.block _ (blk_lt b3)).trans b3
  replace b4 := (hb.block _ (blk_lt b4)).trans b4
  replace hB := hB.trans (hb.mono hB.size)
  rw [hsz] at b5 ⊢
  clear hsz hb
  have hr := HR.out
  have e3 : (r.verb == 3) = false := by rw [hr]; rfl
  have e4 : (r.verb == 4) = false := by rw [hr]; rfl
  have e5 : (r.verb == 5) = false := by rw [hr]; rfl
  have e6 : (r.verb == 6) = true := by rw [hr]; rfl
  have e7 : (r.verb == 7) = false := by rw [hr]; rfl
  have e8 : (r.verb == 8) = false := by rw [hr]; rfl
  have e9 : (r.verb == 9) = false := by rw [hr]; rfl
  have e10 : (r.verb == 10) = false := by rw [hr]; rfl
  have e11 : (r.verb == 11) = false := by rw [hr]; rfl
  have e12 : (r.verb == 12) = false := by rw [hr]; rfl
  have c50 : w_e.cell? ⟨w.heap.size, 0, none⟩ = some (.int .i64 r.verb) := blk_cell b1 0
  clear hr HR
  have B1 := Aside0.mk b1
  have B2 := Aside0.mk b2
  have B3 := Aside0.mk b3
  have B4 := Aside0.mk b4
  have HB := Aside0.mk hB
  have HJ := Aside0.mk hj
  clear hj
  clear b1 b2 b3 b4 b5 hB
  go_wp2_with (first | (refine gate_ (.load 27 (.tmp 5)) rfl ?_; refine ev_load_row (.load 27 (.tmp 5)) rfl rfl 27 (.tmp 5) rfl w.heap.size rfl 27 (r.c kv) _ B1.out Tryd.underlying27 rfl (by kernel_rfl) ?_) | (refine gate_ (.load 38 (.tmp 6)) rfl ?_; refine ev_load_row (.load 38 (.tmp 6)) rfl rfl 38 (.tmp 6) rfl (w.heap.size + 1) rfl 38 e.c _ B2.out Tryd.underlying38 rfl (by kernel_rfl) ?_) | (go_at_call 38; (with_reducible refine (HJ.out _).mono ?_); rintro e_1 w_1 ⟨rfl, hb⟩; have B3n := Aside0.mk ((hb.block _ (blk_lt B3.out)).trans B3.out); have B4n := Aside0.mk ((hb.block _ (blk_lt B4.out)).trans B4.out); have HBn := Aside0.mk (HB.out.trans (hb.mono HB.out.size)); clear B1 B2 B3 B4 HB hb; have B3 := B3n; have B4 := B4n; have HB := HBn; clear B3n B4n HBn) | (refine gate_ (.store 32 (.tmp 10) (.tmp 64)) rfl ?_; refine ev_store_row (.store 32 (.tmp 10) (.tmp 64)) rfl rfl rfl 32 (.tmp 10) (.tmp 64) rfl (w.heap.size + 1 + 1) (ans a n t) rfl rfl 32 A0 B3.out (by kernel_rfl) rfl (ans_one _ _ _) ?_; intro w_2 hw2 hm2; have B4n := Aside0.mk (hm2.blk B4.out (by omega)); have HBn := Aside0.mk (hm2.after HB.out HB.out.size (fun k hk => by omega)); have B3n := Aside0.mk hw2; clear B3 B4 HB hw2 hm2; have B3 := B3n; have B4 := B4n; have HB := HBn; clear B3n B4n HBn) | (refine gate_ (.store 38 (.tmp 11) (.tmp 65)) rfl ?_; refine ev_store_row (.store 38 (.tmp 11) (.tmp 65)) rfl rfl rfl 38 (.tmp 11) (.tmp 65) rfl (w.heap.size + 1 + 1 + 1) x.c rfl rfl 38 E0 B4.out (by kernel_rfl) rfl (ent_one _) ?_; intro w_3 hw3 hm3; have B3n := Aside0.mk (hm3.blk B3.out (by omega)); have HBn := Aside0.mk (hm3.after HB.out HB.out.size (fun k hk => by omega)); have B4n := Aside0.mk hw3; clear B3 B4 HB hw3 hm3; have B3 := B3n; have B4 := B4n; have HB := HBn; clear B3n B4n HBn))
  clear e3 e4 e5 e6 e7 e8 e9 e10 e11 e12 c50
  have b3 := B3.out
  have b4 := B4.out
  have hB := HB.out
  refine Ev.region_ev (Ev.Two _ (w.heap.size + 1 + 1) (w.heap.size + 1 + 1 + 1) 32 38 (ans a n t) (ans a n t) x.c x.c 3 4) (by kernel_rfl) (by kernel_rfl) (Ev.two_start b3 b4) ?_
  refine Ev.ev_step (v := .agg (ans a n t)) rfl rfl (Ev.two_load1 (by decide) (by decide) 32 (.tmp 10) rfl rfl _ rfl Tryd.underlying32 rfl (by kernel_rfl)) ?_
  simp only [Act.put, List.setIfInBounds_toArray, List.set_cons_succ, List.set_cons_zero]
  refine Ev.ev_step (v := .agg x.c) rfl rfl (Ev.two_load2 (by decide) (by decide) 38 (.tmp 11) rfl rfl _ rfl Tryd.underlying38 rfl (by kernel_rfl)) ?_
  simp only [Act.put, List.setIfInBounds_toArray, List.set_cons_succ, List.set_cons_zero]
  refine Ev.ev_step (v := .bool k) rfl rfl (Ev.two_pure (by decide) (by decide) (fun _ => rfl)) ?_
  simp only [Act.put, List.setIfInBounds_toArray, List.set_cons_succ, List.set_cons_zero]
  refine Ev.ev_step (v := undef) rfl rfl (Ev.two_store1 (by decide) (by omega) 32 (.tmp 10) (.tmp 67) rfl rfl rfl rfl (by kernel_rfl) (ans_one _ _ _)) ?_
  simp only [Act.put]
  refine Ev.ev_step (v := undef) rfl rfl (Ev.two_store2 (by decide) (by omega) 38 (.tmp 11) (.tmp 68) rfl rfl rfl rfl (by kernel_rfl) (ent_one _)) ?_
  simp only [Act.put]
  refine Ev.ev_step (v := .bool k) rfl rfl (Ev.two_pure (by decide) (by decide) (fun _ => rfl)) ?_
  simp only [Act.put, List.setIfInBounds_toArray, List.set_cons_succ, List.set_cons_zero]
  refine Ev.ev_step (v := .bool false) rfl rfl (Ev.two_pure (by decide) (by decide) (fun _ => by rfl)) ?_
  simp only [Act.put, List.setIfInBounds_toArray, List.set_cons_succ, List.set_cons_zero]
  refine Ev.ev_nil (fun w_e hw_e => ?_)
  obtain ⟨hM_e, hA_e, hX_e⟩ := Ev.two_end hw_e (by decide) (by decide)
  clear hw_e
  go_wp2
  refine bodyPost_ret (Ev.results_c3 rfl rfl hA_e Tryd.underlying32 rfl (by kernel_rfl) rfl hX_e Tryd.underlying38 rfl (by kernel_rfl) rfl rfl) rfl ⟨rfl, ?_⟩
  exact Mod.after hB hB.size hM_e (fun k hk => by omega)
set_option maxHeartbeats 4000000 in
set_option maxRecDepth 100000 in
theorem next_pre (r : Rq) (kv : Value) (e : Ent) (a n : Int) (t : ByteArray) (x : Ent) (k : Bool) (now ver : Int) (w : World) (hj : ∀ W, Calls Tryd.prog 38 #[.agg (r.c kv), .agg e.c, .int .i64 ver] W fun e_ w' => e_ = .returned (.tuple #[.agg (ans a n t), .agg x.c, .bool k]) ∧ Below W.heap.size W w') (hr : r.verb = 7) :
    Calls Tryd.prog 17 #[.agg (r.c kv), .agg e.c, .bool true, .int .i64 now, .int .i64 ver] w fun e_ w' => e_ = .returned (.tuple #[.agg (ans a n t), .agg x.c, .bool k, .bool false]) ∧ Below w.heap.size w w' := by
  have HR := Aside0.mk hr
  clear hr
  simp only [Rq.c, Ent.c]
  go_enter Tryd.func17, Tryd.ntmps17
  go_wp2
  obtain ⟨W, hW⟩ : ∃ W, W = (((w.alloc (.cells (r.c kv) 27)).alloc (.cells e.c 38)).alloc (.cells A0 32)).alloc (.cells E0 38) := ⟨_, rfl⟩
  obtain ⟨b1, b2, b3, b4, hB⟩ := four w (.cells (r.c kv) 27) (.cells e.c 38) (.cells A0 32) (.cells E0 38)
  have hsz : W.heap.size = w.heap.size + 1 + 1 + 1 + 1 := by rw [hW]; simp
  change Code.wp _ _ _ _ ((((w.alloc (.cells (r.c kv) 27)).alloc (.cells e.c 38)).alloc (.cells A0 32)).alloc (.cells E0 38))
  rw [← hW] at b1 b2 b3 b4 hB ⊢
  clear hW
  have c60 : W.cell? ⟨w.heap.size + 1, 0, none⟩ = some (.string e.key) := blk_cell b2 0
  have c52 : W.cell? ⟨w.heap.size, 2, none⟩ = some (.int .i64 r.fl) := blk_cell b1 2
  have c53 : W.cell? ⟨w.heap.size, 3, none⟩ = some (.int .i64 r.exp) := blk_cell b1 3
  have c58 : W.cell? ⟨w.heap.size, 8, none⟩ = some (.string r.data) := blk_cell b1 8
  refine Ev.region_ev (Ev.One W 38 5 (fresh r e now ver).c 12 13) (by kernel_rfl) (by kernel_rfl) Ev.one_start ?_
  refine Ev.ev_step (v := .pointer (some ⟨(w.heap.size + 1), 0, none⟩)) rfl rfl (Ev.one_pure (by decide) (by decide) (fun _ => rfl)) ?_
  simp only [Act.put, List.setIfInBounds_toArray, List.set_cons_succ, List.set_cons_zero]
  refine Ev.ev_step (v := .string e.key) rfl rfl (Ev.one_load (by decide) (by decide) ⟨(w.heap.size + 1), 0, none⟩ (c60) (by rw [hsz]; show (w.heap.size + 1) < _; omega) (fun w hc => by go_simp)) ?_
  simp only [Act.put, List.setIfInBounds_toArray, List.set_cons_succ, List.set_cons_zero]
  refine Ev.ev_step (v := .pointer (some ⟨w.heap.size, 2, none⟩)) rfl rfl (Ev.one_pure (by decide) (by decide) (fun _ => rfl)) ?_
  simp only [Act.put, List.setIfInBounds_toArray, List.set_cons_succ, List.set_cons_zero]
  refine Ev.ev_step (v := .int .i64 r.fl) rfl rfl (Ev.one_load (by decide) (by decide) ⟨w.heap.size, 2, none⟩ (c52) (by rw [hsz]; show w.heap.size < _; omega) (fun w hc => by go_simp)) ?_
  simp only [Act.put, List.setIfInBounds_toArray, List.set_cons_succ, List.set_cons_zero]
  refine Ev.ev_step (v := .pointer (some ⟨w.heap.size, 3, none⟩)) rfl rfl (Ev.one_pure (by decide) (by decide) (fun _ => rfl)) ?_
  simp only [Act.put, List.setIfInBounds_toArray, List.set_cons_succ, List.set_cons_zero]
  refine Ev.ev_step (v := .int .i64 r.exp) rfl rfl (Ev.one_load (by decide) (by decide) ⟨w.heap.size, 3, none⟩ (c53) (by rw [hsz]; show w.heap.size < _; omega) (fun w hc => by go_simp)) ?_
  simp only [Act.put, List.setIfInBounds_toArray, List.set_cons_succ, List.set_cons_zero]
  refine Ev.ev_step (v := .int .i64 now) rfl rfl (Ev.one_pure (by decide) (by decide) (fun _ => rfl)) ?_
  simp only [Act.put, List.setIfInBounds_toArray, List.set_cons_succ, List.set_cons_zero]
  refine Ev.ev_step (v := .int .i64 (dead r.exp now)) rfl rfl (Ev.one_call (by decide) (by decide) 36 #[.int .i64 r.exp, .int .i64 now] (fun _ => by first | (go_simp; done) | (go_simp; rfl)) (fun w => dead_calls _ _ w)) ?_
  simp only [Act.put, List.setIfInBounds_toArray, List.set_cons_succ, List.set_cons_zero]
  refine Ev.ev_step (v := .pointer (some ⟨w.heap.size, 8, none⟩)) rfl rfl (Ev.one_pure (by decide) (by decide) (fun _ => rfl)) ?_
  simp only [Act.put, List.setIfInBounds_toArray, List.set_cons_succ, List.set_cons_zero]
  refine Ev.ev_step (v := .string r.data) rfl rfl (Ev.one_load (by decide) (by decide) ⟨w.heap.size, 8, none⟩ (c58) (by rw [hsz]; show w.heap.size < _; omega) (fun w hc => by go_simp)) ?_
  simp only [Act.put, List.setIfInBounds_toArray, List.set_cons_succ, List.set_cons_zero]
  refine Ev.ev_step (v := .int .i64 ver) rfl rfl (Ev.one_pure (by decide) (by decide) (fun _ => rfl)) ?_
  simp only [Act.put, List.setIfInBounds_toArray, List.set_cons_succ, List.set_cons_zero]
  refine Ev.ev_step (v := .agg (fresh r e now ver).c) rfl rfl (Ev.one_pure (by decide) (by decide) (fun _ => by first | (go_simp; done) | (go_simp; rfl))) ?_
  simp only [Act.put, List.setIfInBounds_toArray, List.set_cons_succ, List.set_cons_zero]
  refine Ev.ev_step (v := .pointer (some ⟨W.heap.size, 0, none⟩)) rfl rfl (Ev.one_alloc (z := E0) (by decide) rfl (fun _ => by first | (go_simp; done) | (go_simp; rfl))) ?_
  simp only [Act.put, List.setIfInBounds_toArray, List.set_cons_succ, List.set_cons_zero]
  refine Ev.ev_step (v := undef) rfl rfl (Ev.one_store (by decide) 38 (.tmp 14) (.tmp 27) rfl rfl rfl rfl (by kernel_rfl) (ent_one _) (fun S hd => hd ⟨12, .phase⟩ (by simp) rfl)) ?_
  simp only [Act.put]
  refine Ev.ev_nil (fun w_e hw_e => ?_)
  obtain ⟨hb, b5⟩ := Ev.one_end hw_e (by decide) (by decide)
  clear hw_e c60 c52 c53 c58
  replace b1 := (hb.block _ (blk_lt b1)).trans b1
  replace b2 := (hb.block _ (blk_lt b2)).trans b2
  replace b3 := (hb.block _ (blk_lt b3)).trans b3
  replace b4 := (hb.block _ (blk_lt b4)).trans b4
  replace hB := hB.trans (hb.mono hB.size)
  rw [hsz] at b5 ⊢
  clear hsz hb
  have hr := HR.out
  have e3 : (r.verb == 3) = false := by rw [hr]; rfl
  have e4 : (r.verb == 4) = false := by rw [hr]; rfl
  have e5 : (r.verb == 5) = false := by rw [hr]; rfl
  have e6 : (r.verb == 6) = false := by rw [hr]; rfl
  have e7 : (r.verb == 7) = true := by rw [hr]; rfl
  have e8 : (r.verb == 8) = false := by rw [hr]; rfl
  have e9 : (r.verb == 9) = false := by rw [hr]; rfl
  have e10 : (r.verb == 10) = false := by rw [hr]; rfl
  have e11 : (r.verb == 11) = false := by rw [hr]; rfl
  have e12 : (r.verb == 12) = false := by rw [hr]; rfl
  have c50 : w_e.cell? ⟨w.heap.size, 0, none⟩ = some (.int .i64 r.verb) := blk_cell b1 0
  clear hr HR
  have B1 := Aside0.mk b1
  have B2 := Aside0.mk b2
  have B3 := Aside0.mk b3
  have B4 := Aside0.mk b4
  have HB := Aside0.mk hB
  have HJ := Aside0.mk hj
  clear hj
  clear b1 b2 b3 b4 b5 hB
  go_wp2_with (first | (refine gate_ (.load 27 (.tmp 5)) rfl ?_; refine ev_load_row (.load 27 (.tmp 5)) rfl rfl 27 (.tmp 5) rfl w.heap.size rfl 27 (r.c kv) _ B1.out Tryd.underlying27 rfl (by kernel_rfl) ?_) | (refine gate_ (.load 38 (.tmp 6)) rfl ?_; refine ev_load_row (.load 38 (.tmp 6)) rfl rfl 38 (.tmp 6) rfl (w.heap.size + 1) rfl 38 e.c _ B2.out Tryd.underlying38 rfl (by kernel_rfl) ?_) | (go_at_call 38; (with_reducible refine (HJ.out _).mono ?_); rintro e_1 w_1 ⟨rfl, hb⟩; have B3n := Aside0.mk ((hb.block _ (blk_lt B3.out)).trans B3.out); have B4n := Aside0.mk ((hb.block _ (blk_lt B4.out)).trans B4.out); have HBn := Aside0.mk (HB.out.trans (hb.mono HB.out.size)); clear B1 B2 B3 B4 HB hb; have B3 := B3n; have B4 := B4n; have HB := HBn; clear B3n B4n HBn) | (refine gate_ (.store 32 (.tmp 10) (.tmp 64)) rfl ?_; refine ev_store_row (.store 32 (.tmp 10) (.tmp 64)) rfl rfl rfl 32 (.tmp 10) (.tmp 64) rfl (w.heap.size + 1 + 1) (ans a n t) rfl rfl 32 A0 B3.out (by kernel_rfl) rfl (ans_one _ _ _) ?_; intro w_2 hw2 hm2; have B4n := Aside0.mk (hm2.blk B4.out (by omega)); have HBn := Aside0.mk (hm2.after HB.out HB.out.size (fun k hk => by omega)); have B3n := Aside0.mk hw2; clear B3 B4 HB hw2 hm2; have B3 := B3n; have B4 := B4n; have HB := HBn; clear B3n B4n HBn) | (refine gate_ (.store 38 (.tmp 11) (.tmp 65)) rfl ?_; refine ev_store_row (.store 38 (.tmp 11) (.tmp 65)) rfl rfl rfl 38 (.tmp 11) (.tmp 65) rfl (w.heap.size + 1 + 1 + 1) x.c rfl rfl 38 E0 B4.out (by kernel_rfl) rfl (ent_one _) ?_; intro w_3 hw3 hm3; have B3n := Aside0.mk (hm3.blk B3.out (by omega)); have HBn := Aside0.mk (hm3.after HB.out HB.out.size (fun k hk => by omega)); have B4n := Aside0.mk hw3; clear B3 B4 HB hw3 hm3; have B3 := B3n; have B4 := B4n; have HB := HBn; clear B3n B4n HBn))
  clear e3 e4 e5 e6 e7 e8 e9 e10 e11 e12 c50
  have b3 := B3.out
  have b4 := B4.out
  have hB := HB.out
  refine Ev.region_ev (Ev.Two _ (w.heap.size + 1 + 1) (w.heap.size + 1 + 1 + 1) 32 38 (ans a n t) (ans a n t) x.c x.c 3 4) (by kernel_rfl) (by kernel_rfl) (Ev.two_start b3 b4) ?_
  refine Ev.ev_step (v := .agg (ans a n t)) rfl rfl (Ev.two_load1 (by decide) (by decide) 32 (.tmp 10) rfl rfl _ rfl Tryd.underlying32 rfl (by kernel_rfl)) ?_
  simp only [Act.put, List.setIfInBounds_toArray, List.set_cons_succ, List.set_cons_zero]
  refine Ev.ev_step (v := .agg x.c) rfl rfl (Ev.two_load2 (by decide) (by decide) 38 (.tmp 11) rfl rfl _ rfl Tryd.underlying38 rfl (by kernel_rfl)) ?_
  simp only [Act.put, List.setIfInBounds_toArray, List.set_cons_succ, List.set_cons_zero]
  refine Ev.ev_step (v := .bool k) rfl rfl (Ev.two_pure (by decide) (by decide) (fun _ => rfl)) ?_
  simp only [Act.put, List.setIfInBounds_toArray, List.set_cons_succ, List.set_cons_zero]
  refine Ev.ev_step (v := undef) rfl rfl (Ev.two_store1 (by decide) (by omega) 32 (.tmp 10) (.tmp 67) rfl rfl rfl rfl (by kernel_rfl) (ans_one _ _ _)) ?_
  simp only [Act.put]
  refine Ev.ev_step (v := undef) rfl rfl (Ev.two_store2 (by decide) (by omega) 38 (.tmp 11) (.tmp 68) rfl rfl rfl rfl (by kernel_rfl) (ent_one _)) ?_
  simp only [Act.put]
  refine Ev.ev_step (v := .bool k) rfl rfl (Ev.two_pure (by decide) (by decide) (fun _ => rfl)) ?_
  simp only [Act.put, List.setIfInBounds_toArray, List.set_cons_succ, List.set_cons_zero]
  refine Ev.ev_step (v := .bool false) rfl rfl (Ev.two_pure (by decide) (by decide) (fun _ => by rfl)) ?_
  simp only [Act.put, List.setIfInBounds_toArray, List.set_cons_succ, List.set_cons_zero]
  refine Ev.ev_nil (fun w_e hw_e => ?_)
  obtain ⟨hM_e, hA_e, hX_e⟩ := Ev.two_end hw_e (by decide) (by decide)
  clear hw_e
  go_wp2
  refine bodyPost_ret (Ev.results_c3 rfl rfl hA_e Tryd.underlying32 rfl (by kernel_rfl) rfl hX_e Tryd.underlying38 rfl (by kernel_rfl) rfl rfl) rfl ⟨rfl, ?_⟩
  exact Mod.after hB hB.size hM_e (fun k hk => by omega)
set_option maxHeartbeats 4000000 in
set_option maxRecDepth 100000 in
theorem next_incr (r : Rq) (kv : Value) (e : Ent) (a n : Int) (t : ByteArray) (x : Ent) (k : Bool) (now ver : Int) (w : World) (ht : Pow w) (hj : ∀ W, Pow W → Calls Tryd.prog 39 #[.agg (r.c kv), .agg e.c, .int .i64 ver] W fun e_ w' => e_ = .returned (.tuple #[.agg (ans a n t), .agg x.c, .bool k]) ∧ Below W.heap.size W w') (hr : r.verb = 10) :
    Calls Tryd.prog 17 #[.agg (r.c kv), .agg e.c, .bool true, .int .i64 now, .int .i64 ver] w fun e_ w' => e_ = .returned (.tuple #[.agg (ans a n t), .agg x.c, .bool k, .bool false]) ∧ Below w.heap.size w w' := by
  have HR := Aside0.mk hr
  clear hr
  simp only [Rq.c, Ent.c]
  go_enter Tryd.func17, Tryd.ntmps17
  go_wp2
  obtain ⟨W, hW⟩ : ∃ W, W = (((w.alloc (.cells (r.c kv) 27)).alloc (.cells e.c 38)).alloc (.cells A0 32)).alloc (.cells E0 38) := ⟨_, rfl⟩
  obtain ⟨b1, b2, b3, b4, hB⟩ := four w (.cells (r.c kv) 27) (.cells e.c 38) (.cells A0 32) (.cells E0 38)
  have hsz : W.heap.size = w.heap.size + 1 + 1 + 1 + 1 := by rw [hW]; simp
  change Code.wp _ _ _ _ ((((w.alloc (.cells (r.c kv) 27)).alloc (.cells e.c 38)).alloc (.cells A0 32)).alloc (.cells E0 38))
  rw [← hW] at b1 b2 b3 b4 hB ⊢
  clear hW
  have c60 : W.cell? ⟨w.heap.size + 1, 0, none⟩ = some (.string e.key) := blk_cell b2 0
  have c52 : W.cell? ⟨w.heap.size, 2, none⟩ = some (.int .i64 r.fl) := blk_cell b1 2
  have c53 : W.cell? ⟨w.heap.size, 3, none⟩ = some (.int .i64 r.exp) := blk_cell b1 3
  have c58 : W.cell? ⟨w.heap.size, 8, none⟩ = some (.string r.data) := blk_cell b1 8
  refine Ev.region_ev (Ev.One W 38 5 (fresh r e now ver).c 12 13) (by kernel_rfl) (by kernel_rfl) Ev.one_start ?_
  refine Ev.ev_step (v := .pointer (some ⟨(w.heap.size + 1), 0, none⟩)) rfl rfl (Ev.one_pure (by decide) (by decide) (fun _ => rfl)) ?_
  simp only [Act.put, List.setIfInBounds_toArray, List.set_cons_succ, List.set_cons_zero]
  refine Ev.ev_step (v := .string e.key) rfl rfl (Ev.one_load (by decide) (by decide) ⟨(w.heap.size + 1), 0, none⟩ (c60) (by rw [hsz]; show (w.heap.size + 1) < _; omega) (fun w hc => by go_simp)) ?_
  simp only [Act.put, List.setIfInBounds_toArray, List.set_cons_succ, List.set_cons_zero]
  refine Ev.ev_step (v := .pointer (some ⟨w.heap.size, 2, none⟩)) rfl rfl (Ev.one_pure (by decide) (by decide) (fun _ => rfl)) ?_
  simp only [Act.put, List.setIfInBounds_toArray, List.set_cons_succ, List.set_cons_zero]
  refine Ev.ev_step (v := .int .i64 r.fl) rfl rfl (Ev.one_load (by decide) (by decide) ⟨w.heap.size, 2, none⟩ (c52) (by rw [hsz]; show w.heap.size < _; omega) (fun w hc => by go_simp)) ?_
  simp only [Act.put, List.setIfInBounds_toArray, List.set_cons_succ, List.set_cons_zero]
  refine Ev.ev_step (v := .pointer (some ⟨w.heap.size, 3, none⟩)) rfl rfl (Ev.one_pure (by decide) (by decide) (fun _ => rfl)) ?_
  simp only [Act.put, List.setIfInBounds_toArray, List.set_cons_succ, List.set_cons_zero]
  refine Ev.ev_step (v := .int .i64 r.exp) rfl rfl (Ev.one_load (by decide) (by decide) ⟨w.heap.size, 3, none⟩ (c53) (by rw [hsz]; show w.heap.size < _; omega) (fun w hc => by go_simp)) ?_
  simp only [Act.put, List.setIfInBounds_toArray, List.set_cons_succ, List.set_cons_zero]
  refine Ev.ev_step (v := .int .i64 now) rfl rfl (Ev.one_pure (by decide) (by decide) (fun _ => rfl)) ?_
  simp only [Act.put, List.setIfInBounds_toArray, List.set_cons_succ, List.set_cons_zero]
  refine Ev.ev_step (v := .int .i64 (dead r.exp now)) rfl rfl (Ev.one_call (by decide) (by decide) 36 #[.int .i64 r.exp, .int .i64 now] (fun _ => by first | (go_simp; done) | (go_simp; rfl)) (fun w => dead_calls _ _ w)) ?_
  simp only [Act.put, List.setIfInBounds_toArray, List.set_cons_succ, List.set_cons_zero]
  refine Ev.ev_step (v := .pointer (some ⟨w.heap.size, 8, none⟩)) rfl rfl (Ev.one_pure (by decide) (by decide) (fun _ => rfl)) ?_
  simp only [Act.put, List.setIfInBounds_toArray, List.set_cons_succ, List.set_cons_zero]
  refine Ev.ev_step (v := .string r.data) rfl rfl (Ev.one_load (by decide) (by decide) ⟨w.heap.size, 8, none⟩ (c58) (by rw [hsz]; show w.heap.size < _; omega) (fun w hc => by go_simp)) ?_
  simp only [Act.put, List.setIfInBounds_toArray, List.set_cons_succ, List.set_cons_zero]
  refine Ev.ev_step (v := .int .i64 ver) rfl rfl (Ev.one_pure (by decide) (by decide) (fun _ => rfl)) ?_
  simp only [Act.put, List.setIfInBounds_toArray, List.set_cons_succ, List.set_cons_zero]
  refine Ev.ev_step (v := .agg (fresh r e now ver).c) rfl rfl (Ev.one_pure (by decide) (by decide) (fun _ => by first | (go_simp; done) | (go_simp; rfl))) ?_
  simp only [Act.put, List.setIfInBounds_toArray, List.set_cons_succ, List.set_cons_zero]
  refine Ev.ev_step (v := .pointer (some ⟨W.heap.size, 0, none⟩)) rfl rfl (Ev.one_alloc (z := E0) (by decide) rfl (fun _ => by first | (go_simp; done) | (go_simp; rfl))) ?_
  simp only [Act.put, List.setIfInBounds_toArray, List.set_cons_succ, List.set_cons_zero]
  refine Ev.ev_step (v := undef) rfl rfl (Ev.one_store (by decide) 38 (.tmp 14) (.tmp 27) rfl rfl rfl rfl (by kernel_rfl) (ent_one _) (fun S hd => hd ⟨12, .phase⟩ (by simp) rfl)) ?_
  simp only [Act.put]
  refine Ev.ev_nil (fun w_e hw_e => ?_)
  obtain ⟨hb, b5⟩ := Ev.one_end hw_e (by decide) (by decide)
  clear hw_e c60 c52 c53 c58
  replace b1 := (hb.block _ (blk_lt b1)).trans b1
  replace b2 := (hb.block _ (blk_lt b2)).trans b2
  replace b3 := (hb.block _ (blk_lt b3)).trans b3
  replace b4 := (hb.block _ (blk_lt b4)).trans b4
  replace hB := hB.trans (hb.mono hB.size)
  rw [hsz] at b5 ⊢
  clear hsz hb
  have hr := HR.out
  have e3 : (r.verb == 3) = false := by rw [hr]; rfl
  have e4 : (r.verb == 4) = false := by rw [hr]; rfl
  have e5 : (r.verb == 5) = false := by rw [hr]; rfl
  have e6 : (r.verb == 6) = false := by rw [hr]; rfl
  have e7 : (r.verb == 7) = false := by rw [hr]; rfl
  have e8 : (r.verb == 8) = false := by rw [hr]; rfl
  have e9 : (r.verb == 9) = false := by rw [hr]; rfl
  have e10 : (r.verb == 10) = true := by rw [hr]; rfl
  have e11 : (r.verb == 11) = false := by rw [hr]; rfl
  have e12 : (r.verb == 12) = false := by rw [hr]; rfl
  have c50 : w_e.cell? ⟨w.heap.size, 0, none⟩ = some (.int .i64 r.verb) := blk_cell b1 0
  clear hr HR
  have B1 := Aside0.mk b1
  have B2 := Aside0.mk b2
  have B3 := Aside0.mk b3
  have B4 := Aside0.mk b4
  have HB := Aside0.mk hB
  have HJ := Aside0.mk hj
  have HT := Aside0.mk (ht.below hB)
  clear hj ht
  clear b1 b2 b3 b4 b5 hB
  go_wp2_with (first | (refine gate_ (.load 27 (.tmp 5)) rfl ?_; refine ev_load_row (.load 27 (.tmp 5)) rfl rfl 27 (.tmp 5) rfl w.heap.size rfl 27 (r.c kv) _ B1.out Tryd.underlying27 rfl (by kernel_rfl) ?_) | (refine gate_ (.load 38 (.tmp 6)) rfl ?_; refine ev_load_row (.load 38 (.tmp 6)) rfl rfl 38 (.tmp 6) rfl (w.heap.size + 1) rfl 38 e.c _ B2.out Tryd.underlying38 rfl (by kernel_rfl) ?_) | (go_at_call 39; (with_reducible refine (HJ.out _ HT.out).mono ?_); rintro e_1 w_1 ⟨rfl, hb⟩; have B3n := Aside0.mk ((hb.block _ (blk_lt B3.out)).trans B3.out); have B4n := Aside0.mk ((hb.block _ (blk_lt B4.out)).trans B4.out); have HBn := Aside0.mk (HB.out.trans (hb.mono HB.out.size)); clear B1 B2 B3 B4 HB hb; have B3 := B3n; have B4 := B4n; have HB := HBn; clear B3n B4n HBn) | (refine gate_ (.store 32 (.tmp 10) (.tmp 114)) rfl ?_; refine ev_store_row (.store 32 (.tmp 10) (.tmp 114)) rfl rfl rfl 32 (.tmp 10) (.tmp 114) rfl (w.heap.size + 1 + 1) (ans a n t) rfl rfl 32 A0 B3.out (by kernel_rfl) rfl (ans_one _ _ _) ?_; intro w_2 hw2 hm2; have B4n := Aside0.mk (hm2.blk B4.out (by omega)); have HBn := Aside0.mk (hm2.after HB.out HB.out.size (fun k hk => by omega)); have B3n := Aside0.mk hw2; clear B3 B4 HB hw2 hm2; have B3 := B3n; have B4 := B4n; have HB := HBn; clear B3n B4n HBn) | (refine gate_ (.store 38 (.tmp 11) (.tmp 115)) rfl ?_; refine ev_store_row (.store 38 (.tmp 11) (.tmp 115)) rfl rfl rfl 38 (.tmp 11) (.tmp 115) rfl (w.heap.size + 1 + 1 + 1) x.c rfl rfl 38 E0 B4.out (by kernel_rfl) rfl (ent_one _) ?_; intro w_3 hw3 hm3; have B3n := Aside0.mk (hm3.blk B3.out (by omega)); have HBn := Aside0.mk (hm3.after HB.out HB.out.size (fun k hk => by omega)); have B4n := Aside0.mk hw3; clear B3 B4 HB hw3 hm3; have B3 := B3n; have B4 := B4n; have HB := HBn; clear B3n B4n HBn))
  clear e3 e4 e5 e6 e7 e8 e9 e10 e11 e12 c50
  have b3 := B3.out
  have b4 := B4.out
  have hB := HB.out
  refine Ev.region_ev (Ev.Two _ (w.heap.size + 1 + 1) (w.heap.size + 1 + 1 + 1) 32 38 (ans a n t) (ans a n t) x.c x.c 3 4) (by kernel_rfl) (by kernel_rfl) (Ev.two_start b3 b4) ?_
  refine Ev.ev_step (v := .agg (ans a n t)) rfl rfl (Ev.two_load1 (by decide) (by decide) 32 (.tmp 10) rfl rfl _ rfl Tryd.underlying32 rfl (by kernel_rfl)) ?_
  simp only [Act.put, List.setIfInBounds_toArray, List.set_cons_succ, List.set_cons_zero]
  refine Ev.ev_step (v := .agg x.c) rfl rfl (Ev.two_load2 (by decide) (by decide) 38 (.tmp 11) rfl rfl _ rfl Tryd.underlying38 rfl (by kernel_rfl)) ?_
  simp only [Act.put, List.setIfInBounds_toArray, List.set_cons_succ, List.set_cons_zero]
  refine Ev.ev_step (v := .bool k) rfl rfl (Ev.two_pure (by decide) (by decide) (fun _ => rfl)) ?_
  simp only [Act.put, List.setIfInBounds_toArray, List.set_cons_succ, List.set_cons_zero]
  refine Ev.ev_step (v := undef) rfl rfl (Ev.two_store1 (by decide) (by omega) 32 (.tmp 10) (.tmp 117) rfl rfl rfl rfl (by kernel_rfl) (ans_one _ _ _)) ?_
  simp only [Act.put]
  refine Ev.ev_step (v := undef) rfl rfl (Ev.two_store2 (by decide) (by omega) 38 (.tmp 11) (.tmp 118) rfl rfl rfl rfl (by kernel_rfl) (ent_one _)) ?_
  simp only [Act.put]
  refine Ev.ev_step (v := .bool k) rfl rfl (Ev.two_pure (by decide) (by decide) (fun _ => rfl)) ?_
  simp only [Act.put, List.setIfInBounds_toArray, List.set_cons_succ, List.set_cons_zero]
  refine Ev.ev_step (v := .bool false) rfl rfl (Ev.two_pure (by decide) (by decide) (fun _ => by rfl)) ?_
  simp only [Act.put, List.setIfInBounds_toArray, List.set_cons_succ, List.set_cons_zero]
  refine Ev.ev_nil (fun w_e hw_e => ?_)
  obtain ⟨hM_e, hA_e, hX_e⟩ := Ev.two_end hw_e (by decide) (by decide)
  clear hw_e
  go_wp2
  refine bodyPost_ret (Ev.results_c3 rfl rfl hA_e Tryd.underlying32 rfl (by kernel_rfl) rfl hX_e Tryd.underlying38 rfl (by kernel_rfl) rfl rfl) rfl ⟨rfl, ?_⟩
  exact Mod.after hB hB.size hM_e (fun k hk => by omega)
set_option maxHeartbeats 4000000 in
set_option maxRecDepth 100000 in
theorem next_decr (r : Rq) (kv : Value) (e : Ent) (a n : Int) (t : ByteArray) (x : Ent) (k : Bool) (now ver : Int) (w : World) (ht : Pow w) (hj : ∀ W, Pow W → Calls Tryd.prog 39 #[.agg (r.c kv), .agg e.c, .int .i64 ver] W fun e_ w' => e_ = .returned (.tuple #[.agg (ans a n t), .agg x.c, .bool k]) ∧ Below W.heap.size W w') (hr : r.verb = 11) :
    Calls Tryd.prog 17 #[.agg (r.c kv), .agg e.c, .bool true, .int .i64 now, .int .i64 ver] w fun e_ w' => e_ = .returned (.tuple #[.agg (ans a n t), .agg x.c, .bool k, .bool false]) ∧ Below w.heap.size w w' := by
  have HR := Aside0.mk hr
  clear hr
  simp only [Rq.c, Ent.c]
  go_enter Tryd.func17, Tryd.ntmps17
  go_wp2
  obtain ⟨W, hW⟩ : ∃ W, W = (((w.alloc (.cells (r.c kv) 27)).alloc (.cells e.c 38)).alloc (.cells A0 32)).alloc (.cells E0 38) := ⟨_, rfl⟩
  obtain ⟨b1, b2, b3, b4, hB⟩ := four w (.cells (r.c kv) 27) (.cells e.c 38) (.cells A0 32) (.cells E0 38)
  have hsz : W.heap.size = w.heap.size + 1 + 1 + 1 + 1 := by rw [hW]; simp
  change Code.wp _ _ _ _ ((((w.alloc (.cells (r.c kv) 27)).alloc (.cells e.c 38)).alloc (.cells A0 32)).alloc (.cells E0 38))
  rw [← hW] at b1 b2 b3 b4 hB ⊢
  clear hW
  have c60 : W.cell? ⟨w.heap.size + 1, 0, none⟩ = some (.string e.key) := blk_cell b2 0
  have c52 : W.cell? ⟨w.heap.size, 2, none⟩ = some (.int .i64 r.fl) := blk_cell b1 2
  have c53 : W.cell? ⟨w.heap.size, 3, none⟩ = some (.int .i64 r.exp) := blk_cell b1 3
  have c58 : W.cell? ⟨w.heap.size, 8, none⟩ = some (.string r.data) := blk_cell b1 8
  refine Ev.region_ev (Ev.One W 38 5 (fresh r e now ver).c 12 13) (by kernel_rfl) (by kernel_rfl) Ev.one_start ?_
  refine Ev.ev_step (v := .pointer (some ⟨(w.heap.size + 1), 0, none⟩)) rfl rfl (Ev.one_pure (by decide) (by decide) (fun _ => rfl)) ?_
  simp only [Act.put, List.setIfInBounds_toArray, List.set_cons_succ, List.set_cons_zero]
  refine Ev.ev_step (v := .string e.key) rfl rfl (Ev.one_load (by decide) (by decide) ⟨(w.heap.size + 1), 0, none⟩ (c60) (by rw [hsz]; show (w.heap.size + 1) < _; omega) (fun w hc => by go_simp)) ?_
  simp only [Act.put, List.setIfInBounds_toArray, List.set_cons_succ, List.set_cons_zero]
  refine Ev.ev_step (v := .pointer (some ⟨w.heap.size, 2, none⟩)) rfl rfl (Ev.one_pure (by decide) (by decide) (fun _ => rfl)) ?_
  simp only [Act.put, List.setIfInBounds_toArray, List.set_cons_succ, List.set_cons_zero]
  refine Ev.ev_step (v := .int .i64 r.fl) rfl rfl (Ev.one_load (by decide) (by decide) ⟨w.heap.size, 2, none⟩ (c52) (by rw [hsz]; show w.heap.size < _; omega) (fun w hc => by go_simp)) ?_
  simp only [Act.put, List.setIfInBounds_toArray, List.set_cons_succ, List.set_cons_zero]
  refine Ev.ev_step (v := .pointer (some ⟨w.heap.size, 3, none⟩)) rfl rfl (Ev.one_pure (by decide) (by decide) (fun _ => rfl)) ?_
  simp only [Act.put, List.setIfInBounds_toArray, List.set_cons_succ, List.set_cons_zero]
  refine Ev.ev_step (v := .int .i64 r.exp) rfl rfl (Ev.one_load (by decide) (by decide) ⟨w.heap.size, 3, none⟩ (c53) (by rw [hsz]; show w.heap.size < _; omega) (fun w hc => by go_simp)) ?_
  simp only [Act.put, List.setIfInBounds_toArray, List.set_cons_succ, List.set_cons_zero]
  refine Ev.ev_step (v := .int .i64 now) rfl rfl (Ev.one_pure (by decide) (by decide) (fun _ => rfl)) ?_
  simp only [Act.put, List.setIfInBounds_toArray, List.set_cons_succ, List.set_cons_zero]
  refine Ev.ev_step (v := .int .i64 (dead r.exp now)) rfl rfl (Ev.one_call (by decide) (by decide) 36 #[.int .i64 r.exp, .int .i64 now] (fun _ => by first | (go_simp; done) | (go_simp; rfl)) (fun w => dead_calls _ _ w)) ?_
  simp only [Act.put, List.setIfInBounds_toArray, List.set_cons_succ, List.set_cons_zero]
  refine Ev.ev_step (v := .pointer (some ⟨w.heap.size, 8, none⟩)) rfl rfl (Ev.one_pure (by decide) (by decide) (fun _ => rfl)) ?_
  simp only [Act.put, List.setIfInBounds_toArray, List.set_cons_succ, List.set_cons_zero]
  refine Ev.ev_step (v := .string r.data) rfl rfl (Ev.one_load (by decide) (by decide) ⟨w.heap.size, 8, none⟩ (c58) (by rw [hsz]; show w.heap.size < _; omega) (fun w hc => by go_simp)) ?_
  simp only [Act.put, List.setIfInBounds_toArray, List.set_cons_succ, List.set_cons_zero]
  refine Ev.ev_step (v := .int .i64 ver) rfl rfl (Ev.one_pure (by decide) (by decide) (fun _ => rfl)) ?_
  simp only [Act.put, List.setIfInBounds_toArray, List.set_cons_succ, List.set_cons_zero]
  refine Ev.ev_step (v := .agg (fresh r e now ver).c) rfl rfl (Ev.one_pure (by decide) (by decide) (fun _ => by first | (go_simp; done) | (go_simp; rfl))) ?_
  simp only [Act.put, List.setIfInBounds_toArray, List.set_cons_succ, List.set_cons_zero]
  refine Ev.ev_step (v := .pointer (some ⟨W.heap.size, 0, none⟩)) rfl rfl (Ev.one_alloc (z := E0) (by decide) rfl (fun _ => by first | (go_simp; done) | (go_simp; rfl))) ?_
  simp only [Act.put, List.setIfInBounds_toArray, List.set_cons_succ, List.set_cons_zero]
  refine Ev.ev_step (v := undef) rfl rfl (Ev.one_store (by decide) 38 (.tmp 14) (.tmp 27) rfl rfl rfl rfl (by kernel_rfl) (ent_one _) (fun S hd => hd ⟨12, .phase⟩ (by simp) rfl)) ?_
  simp only [Act.put]
  refine Ev.ev_nil (fun w_e hw_e => ?_)
  obtain ⟨hb, b5⟩ := Ev.one_end hw_e (by decide) (by decide)
  clear hw_e c60 c52 c53 c58
  replace b1 := (hb.block _ (blk_lt b1)).trans b1
  replace b2 := (hb.block _ (blk_lt b2)).trans b2
  replace b3 := (hb.block _ (blk_lt b3)).trans b3
  replace b4 := (hb.block _ (blk_lt b4)).trans b4
  replace hB := hB.trans (hb.mono hB.size)
  rw [hsz] at b5 ⊢
  clear hsz hb
  have hr := HR.out
  have e3 : (r.verb == 3) = false := by rw [hr]; rfl
  have e4 : (r.verb == 4) = false := by rw [hr]; rfl
  have e5 : (r.verb == 5) = false := by rw [hr]; rfl
  have e6 : (r.verb == 6) = false := by rw [hr]; rfl
  have e7 : (r.verb == 7) = false := by rw [hr]; rfl
  have e8 : (r.verb == 8) = false := by rw [hr]; rfl
  have e9 : (r.verb == 9) = false := by rw [hr]; rfl
  have e10 : (r.verb == 10) = false := by rw [hr]; rfl
  have e11 : (r.verb == 11) = true := by rw [hr]; rfl
  have e12 : (r.verb == 12) = false := by rw [hr]; rfl
  have c50 : w_e.cell? ⟨w.heap.size, 0, none⟩ = some (.int .i64 r.verb) := blk_cell b1 0
  clear hr HR
  have B1 := Aside0.mk b1
  have B2 := Aside0.mk b2
  have B3 := Aside0.mk b3
  have B4 := Aside0.mk b4
  have HB := Aside0.mk hB
  have HJ := Aside0.mk hj
  have HT := Aside0.mk (ht.below hB)
  clear hj ht
  clear b1 b2 b3 b4 b5 hB
  go_wp2_with (first | (refine gate_ (.load 27 (.tmp 5)) rfl ?_; refine ev_load_row (.load 27 (.tmp 5)) rfl rfl 27 (.tmp 5) rfl w.heap.size rfl 27 (r.c kv) _ B1.out Tryd.underlying27 rfl (by kernel_rfl) ?_) | (refine gate_ (.load 38 (.tmp 6)) rfl ?_; refine ev_load_row (.load 38 (.tmp 6)) rfl rfl 38 (.tmp 6) rfl (w.heap.size + 1) rfl 38 e.c _ B2.out Tryd.underlying38 rfl (by kernel_rfl) ?_) | (go_at_call 39; (with_reducible refine (HJ.out _ HT.out).mono ?_); rintro e_1 w_1 ⟨rfl, hb⟩; have B3n := Aside0.mk ((hb.block _ (blk_lt B3.out)).trans B3.out); have B4n := Aside0.mk ((hb.block _ (blk_lt B4.out)).trans B4.out); have HBn := Aside0.mk (HB.out.trans (hb.mono HB.out.size)); clear B1 B2 B3 B4 HB hb; have B3 := B3n; have B4 := B4n; have HB := HBn; clear B3n B4n HBn) | (refine gate_ (.store 32 (.tmp 10) (.tmp 114)) rfl ?_; refine ev_store_row (.store 32 (.tmp 10) (.tmp 114)) rfl rfl rfl 32 (.tmp 10) (.tmp 114) rfl (w.heap.size + 1 + 1) (ans a n t) rfl rfl 32 A0 B3.out (by kernel_rfl) rfl (ans_one _ _ _) ?_; intro w_2 hw2 hm2; have B4n := Aside0.mk (hm2.blk B4.out (by omega)); have HBn := Aside0.mk (hm2.after HB.out HB.out.size (fun k hk => by omega)); have B3n := Aside0.mk hw2; clear B3 B4 HB hw2 hm2; have B3 := B3n; have B4 := B4n; have HB := HBn; clear B3n B4n HBn) | (refine gate_ (.store 38 (.tmp 11) (.tmp 115)) rfl ?_; refine ev_store_row (.store 38 (.tmp 11) (.tmp 115)) rfl rfl rfl 38 (.tmp 11) (.tmp 115) rfl (w.heap.size + 1 + 1 + 1) x.c rfl rfl 38 E0 B4.out (by kernel_rfl) rfl (ent_one _) ?_; intro w_3 hw3 hm3; have B3n := Aside0.mk (hm3.blk B3.out (by omega)); have HBn := Aside0.mk (hm3.after HB.out HB.out.size (fun k hk => by omega)); have B4n := Aside0.mk hw3; clear B3 B4 HB hw3 hm3; have B3 := B3n; have B4 := B4n; have HB := HBn; clear B3n B4n HBn))
  clear e3 e4 e5 e6 e7 e8 e9 e10 e11 e12 c50
  have b3 := B3.out
  have b4 := B4.out
  have hB := HB.out
  refine Ev.region_ev (Ev.Two _ (w.heap.size + 1 + 1) (w.heap.size + 1 + 1 + 1) 32 38 (ans a n t) (ans a n t) x.c x.c 3 4) (by kernel_rfl) (by kernel_rfl) (Ev.two_start b3 b4) ?_
  refine Ev.ev_step (v := .agg (ans a n t)) rfl rfl (Ev.two_load1 (by decide) (by decide) 32 (.tmp 10) rfl rfl _ rfl Tryd.underlying32 rfl (by kernel_rfl)) ?_
  simp only [Act.put, List.setIfInBounds_toArray, List.set_cons_succ, List.set_cons_zero]
  refine Ev.ev_step (v := .agg x.c) rfl rfl (Ev.two_load2 (by decide) (by decide) 38 (.tmp 11) rfl rfl _ rfl Tryd.underlying38 rfl (by kernel_rfl)) ?_
  simp only [Act.put, List.setIfInBounds_toArray, List.set_cons_succ, List.set_cons_zero]
  refine Ev.ev_step (v := .bool k) rfl rfl (Ev.two_pure (by decide) (by decide) (fun _ => rfl)) ?_
  simp only [Act.put, List.setIfInBounds_toArray, List.set_cons_succ, List.set_cons_zero]
  refine Ev.ev_step (v := undef) rfl rfl (Ev.two_store1 (by decide) (by omega) 32 (.tmp 10) (.tmp 117) rfl rfl rfl rfl (by kernel_rfl) (ans_one _ _ _)) ?_
  simp only [Act.put]
  refine Ev.ev_step (v := undef) rfl rfl (Ev.two_store2 (by decide) (by omega) 38 (.tmp 11) (.tmp 118) rfl rfl rfl rfl (by kernel_rfl) (ent_one _)) ?_
  simp only [Act.put]
  refine Ev.ev_step (v := .bool k) rfl rfl (Ev.two_pure (by decide) (by decide) (fun _ => rfl)) ?_
  simp only [Act.put, List.setIfInBounds_toArray, List.set_cons_succ, List.set_cons_zero]
  refine Ev.ev_step (v := .bool false) rfl rfl (Ev.two_pure (by decide) (by decide) (fun _ => by rfl)) ?_
  simp only [Act.put, List.setIfInBounds_toArray, List.set_cons_succ, List.set_cons_zero]
  refine Ev.ev_nil (fun w_e hw_e => ?_)
  obtain ⟨hM_e, hA_e, hX_e⟩ := Ev.two_end hw_e (by decide) (by decide)
  clear hw_e
  go_wp2
  refine bodyPost_ret (Ev.results_c3 rfl rfl hA_e Tryd.underlying32 rfl (by kernel_rfl) rfl hX_e Tryd.underlying38 rfl (by kernel_rfl) rfl rfl) rfl ⟨rfl, ?_⟩
  exact Mod.after hB hB.size hM_e (fun k hk => by omega)
end Go.Proofs.YtepklobkppdliaaDoor.Md
