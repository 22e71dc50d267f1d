/- The document: Next, as a whole. -/
import Derived.Test.YtepklobkppdliaaDoorURn3
import Derived.Test.YtepklobkppdliaaDoorURn4
import Derived.Test.YtepklobkppdliaaDoorURn5
namespace Go.Proofs.YtepklobkppdliaaDoor.Md
open Go.RowKit Go.Proofs.YtepklobkppdliaaDoorW.PrintWords Go.Proofs.YtepklobkppdliaaDoorW.PrintLast Go.Proofs.YtepklobkppdliaaDoorW.PrintMore Go.Proofs.YtepklobkppdliaaDoor.Lib Go.Proofs.YtepklobkppdliaaDoor.Open
set_option maxHeartbeats 4000000 in
set_option maxRecDepth 100000 in
theorem rnext_incr (r : Rq) (kv : Value) (e : Ent) (there : Bool) (a n : Int) (t : ByteArray) (x : Ent) (k : Bool) (now ver : Int) (w : World) (hj : ∀ W, Calls Tryd.prog 42 #[.agg (r.c kv), .agg e.c, .bool there, .int .i64 ver] W fun e_ w' => e_ = .returned (.tuple #[.agg (ans a n t), .agg x.c, .bool k, .bool false]) ∧ Below W.heap.size W w') (hr : r.verb = 10) :
    Calls Tryd.prog 18 #[.agg (r.c kv), .agg e.c, .bool there, .int .i64 now, .int .i64 ver] w fun e_ w' => e_ = .returned (.tuple #[.agg (ans a n t), .agg x.c, .bool k, .bool false]) ∧ Below w.heap.size w w' := by
  have HR := Aside0.mk hr
  clear hr
  simp only [Rq.c, Ent.c]
  go_enter Tryd.func18, Tryd.ntmps18
  go_wp2
  obtain ⟨W, hW⟩ : ∃ W, W = (((w.alloc (.cells (r.c kv) 27)).alloc (.cells e.c 38)).alloc (.cells A0 32)).alloc (.cells E0 38) := ⟨_, rfl⟩
  obtain ⟨b1, b2, b3, b4, hB⟩ := four w (.cells (r.c kv) 27) (.cells e.c 38) (.cells A0 32) (.cells E0 38)
  change Code.wp _ _ _ _ ((((w.alloc (.cells (r.c kv) 27)).alloc (.cells e.c 38)).alloc (.cells A0 32)).alloc (.cells E0 38))
  rw [← hW] at b1 b2 b3 b4 hB ⊢
  clear hW
  have c60 : W.cell? ⟨w.heap.size + 1, 0, none⟩ = some (.string e.key) := blk_cell b2 0
  have c52 : W.cell? ⟨w.heap.size, 2, none⟩ = some (.int .i64 r.fl) := blk_cell b1 2
  have c53 : W.cell? ⟨w.heap.size, 3, none⟩ = some (.int .i64 r.exp) := blk_cell b1 3
  have c58 : W.cell? ⟨w.heap.size, 8, none⟩ = some (.string r.data) := blk_cell b1 8
  refine Ev.region_ev (Gen W (w.heap.size + 1 + 1 + 1) 38 (freshAt (fresh r e now ver).c)) (by kernel_rfl) (by kernel_rfl) (gen_start b4 (by unfold freshAt; rw [no_bit]; rfl)) ?_
  refine Ev.ev_step (v := .pointer (some ⟨(w.heap.size + 1), 0, none⟩)) rfl rfl (gen_pure (freshAt_other _ (by decide)) (fun _ => by first | rfl | (go_simp; done) | (go_simp; rfl))) ?_
  simp only [Act.put, List.setIfInBounds_toArray, List.set_cons_succ, List.set_cons_zero]
  refine Ev.ev_step (v := .string e.key) rfl rfl (gen_load (freshAt_other _ (by decide)) ⟨(w.heap.size + 1), 0, none⟩ (c60) (show (w.heap.size + 1) ≠ (w.heap.size + 1 + 1 + 1) by omega) (fun w hc => by go_simp)) ?_
  simp only [Act.put, List.setIfInBounds_toArray, List.set_cons_succ, List.set_cons_zero]
  refine Ev.ev_step (v := .pointer (some ⟨w.heap.size, 2, none⟩)) rfl rfl (gen_pure (freshAt_other _ (by decide)) (fun _ => by first | rfl | (go_simp; done) | (go_simp; rfl))) ?_
  simp only [Act.put, List.setIfInBounds_toArray, List.set_cons_succ, List.set_cons_zero]
  refine Ev.ev_step (v := .int .i64 r.fl) rfl rfl (gen_load (freshAt_other _ (by decide)) ⟨w.heap.size, 2, none⟩ (c52) (show w.heap.size ≠ (w.heap.size + 1 + 1 + 1) by omega) (fun w hc => by go_simp)) ?_
  simp only [Act.put, List.setIfInBounds_toArray, List.set_cons_succ, List.set_cons_zero]
  refine Ev.ev_step (v := .pointer (some ⟨w.heap.size, 3, none⟩)) rfl rfl (gen_pure (freshAt_other _ (by decide)) (fun _ => by first | rfl | (go_simp; done) | (go_simp; rfl))) ?_
  simp only [Act.put, List.setIfInBounds_toArray, List.set_cons_succ, List.set_cons_zero]
  refine Ev.ev_step (v := .int .i64 r.exp) rfl rfl (gen_load (freshAt_other _ (by decide)) ⟨w.heap.size, 3, none⟩ (c53) (show w.heap.size ≠ (w.heap.size + 1 + 1 + 1) by omega) (fun w hc => by go_simp)) ?_
  simp only [Act.put, List.setIfInBounds_toArray, List.set_cons_succ, List.set_cons_zero]
  refine Ev.ev_step (v := .int .i64 now) rfl rfl (gen_pure (freshAt_other _ (by decide)) (fun _ => by first | rfl | (go_simp; done) | (go_simp; rfl))) ?_
  simp only [Act.put, List.setIfInBounds_toArray, List.set_cons_succ, List.set_cons_zero]
  refine Ev.ev_step (v := .int .i64 (dead r.exp now)) rfl rfl (gen_call (freshAt_other _ (by decide)) 40 #[.int .i64 r.exp, .int .i64 now] (fun _ => by first | (go_simp; done) | (go_simp; rfl)) (fun w => refDead_calls _ _ w)) ?_
  simp only [Act.put, List.setIfInBounds_toArray, List.set_cons_succ, List.set_cons_zero]
  refine Ev.ev_step (v := .pointer (some ⟨w.heap.size, 8, none⟩)) rfl rfl (gen_pure (freshAt_other _ (by decide)) (fun _ => by first | rfl | (go_simp; done) | (go_simp; rfl))) ?_
  simp only [Act.put, List.setIfInBounds_toArray, List.set_cons_succ, List.set_cons_zero]
  refine Ev.ev_step (v := .string r.data) rfl rfl (gen_load (freshAt_other _ (by decide)) ⟨w.heap.size, 8, none⟩ (c58) (show w.heap.size ≠ (w.heap.size + 1 + 1 + 1) by omega) (fun w hc => by go_simp)) ?_
  simp only [Act.put, List.setIfInBounds_toArray, List.set_cons_succ, List.set_cons_zero]
  refine Ev.ev_step (v := .int .i64 ver) rfl rfl (gen_pure (freshAt_other _ (by decide)) (fun _ => by first | rfl | (go_simp; done) | (go_simp; rfl))) ?_
  simp only [Act.put, List.setIfInBounds_toArray, List.set_cons_succ, List.set_cons_zero]
  refine Ev.ev_step (v := .agg (fresh r e now ver).c) rfl rfl (gen_pure (freshAt_other _ (by decide)) (fun _ => by first | rfl | (go_simp; done) | (go_simp; rfl))) ?_
  simp only [Act.put, List.setIfInBounds_toArray, List.set_cons_succ, List.set_cons_zero]
  refine Ev.ev_step (v := undef) rfl rfl (gen_store (fresh r e now ver).c (fun S h => by unfold freshAt; rw [Ev.set_same h, if_pos rfl]) (fun S => by unfold freshAt; split <;> rfl) 38 (.tmp 11) (.tmp 26) rfl rfl rfl (by kernel_rfl) (ent_one _)) ?_
  simp only [Act.put]
  refine Ev.ev_nil (fun w_e hw_e => ?_)
  have hm := hw_e.mod
  have b4e := hw_e.blk
  rw [show freshAt (fresh r e now ver).c (Array.replicate _ true) = (fresh r e now ver).c by unfold freshAt; rw [all_bit (by decide), if_pos rfl]] at b4e
  clear hw_e c60 c52 c53 c58 b4
  replace b1 := hm.blk b1 (by omega)
  replace b2 := hm.blk b2 (by omega)
  replace b3 := hm.blk b3 (by omega)
  replace hB := hm.after hB hB.size (fun k hk => by omega)
  have b4 := b4e
  clear hm b4e
  have hr := HR.out
  have e3 : (r.verb == 3) = false := by rw [hr]; rfl
  have e4 : (r.verb == 4) = false := by rw [hr]; rfl
  have e5 : (r.verb == 5) = false := by rw [hr]; rfl
  have e6 : (r.verb == 6) = false := by rw [hr]; rfl
  have e7 : (r.verb == 7) = false := by rw [hr]; rfl
  have e8 : (r.verb == 8) = false := by rw [hr]; rfl
  have e9 : (r.verb == 9) = false := by rw [hr]; rfl
  have e10 : (r.verb == 10) = true := by rw [hr]; rfl
  have e11 : (r.verb == 11) = false := by rw [hr]; rfl
  have e12 : (r.verb == 12) = false := by rw [hr]; rfl
  have c50 : w_e.cell? ⟨w.heap.size, 0, none⟩ = some (.int .i64 r.verb) := blk_cell b1 0
  clear hr HR
  have HJ := Aside0.mk hj
  clear hj
  have B1 := Aside0.mk b1
  have B2 := Aside0.mk b2
  have B3 := Aside0.mk b3
  have B4 := Aside0.mk b4
  have HB := Aside0.mk hB
  clear b1 b2 b3 b4 hB
  go_wp2_with (first | (refine gate_ (.load 27 (.tmp 5)) rfl ?_; refine ev_load_row (.load 27 (.tmp 5)) rfl rfl 27 (.tmp 5) rfl w.heap.size rfl 27 (r.c kv) _ B1.out Tryd.underlying27 rfl (by kernel_rfl) ?_) | (refine gate_ (.load 38 (.tmp 6)) rfl ?_; refine ev_load_row (.load 38 (.tmp 6)) rfl rfl 38 (.tmp 6) rfl (w.heap.size + 1) rfl 38 e.c _ B2.out Tryd.underlying38 rfl (by kernel_rfl) ?_) | (go_at_call 42; (with_reducible refine (HJ.out _).mono ?_); rintro e_1 w_1 ⟨rfl, hb⟩; have B3n := Aside0.mk ((hb.block _ (blk_lt B3.out)).trans B3.out); have B4n := Aside0.mk ((hb.block _ (blk_lt B4.out)).trans B4.out); have HBn := Aside0.mk (HB.out.trans (hb.mono HB.out.size)); clear B1 B2 B3 B4 HB hb; have B3 := B3n; have B4 := B4n; have HB := HBn; clear B3n B4n HBn) | (refine gate_ (.store 32 (.tmp 10) (.tmp 126)) rfl ?_; refine ev_store_row (.store 32 (.tmp 10) (.tmp 126)) rfl rfl rfl 32 (.tmp 10) (.tmp 126) rfl (w.heap.size + 1 + 1) (ans a n t) rfl rfl 32 A0 B3.out (by kernel_rfl) rfl (ans_one _ _ _) ?_; intro w_2 hw2 hm2; have B4n := Aside0.mk (hm2.blk B4.out (by omega)); have HBn := Aside0.mk (hm2.after HB.out HB.out.size (fun k hk => by omega)); have B3n := Aside0.mk hw2; clear B3 B4 HB hw2 hm2; have B3 := B3n; have B4 := B4n; have HB := HBn; clear B3n B4n HBn) | (refine gate_ (.store 38 (.tmp 11) (.tmp 127)) rfl ?_; refine ev_store_row (.store 38 (.tmp 11) (.tmp 127)) rfl rfl rfl 38 (.tmp 11) (.tmp 127) rfl (w.heap.size + 1 + 1 + 1) x.c rfl rfl 38 (fresh r e now ver).c B4.out (by kernel_rfl) rfl (ent_one _) ?_; intro w_3 hw3 hm3; have B3n := Aside0.mk (hm3.blk B3.out (by omega)); have HBn := Aside0.mk (hm3.after HB.out HB.out.size (fun k hk => by omega)); have B4n := Aside0.mk hw3; clear B3 B4 HB hw3 hm3; have B3 := B3n; have B4 := B4n; have HB := HBn; clear B3n B4n HBn))
  refine bodyPost_ret (Ev.results_c3 rfl rfl B3.out Tryd.underlying32 rfl (by kernel_rfl) rfl B4.out Tryd.underlying38 rfl (by kernel_rfl) rfl rfl) rfl ⟨rfl, HB.out⟩
set_option maxHeartbeats 4000000 in
set_option maxRecDepth 100000 in
theorem rnext_decr (r : Rq) (kv : Value) (e : Ent) (there : Bool) (a n : Int) (t : ByteArray) (x : Ent) (k : Bool) (now ver : Int) (w : World) (hj : ∀ W, Calls Tryd.prog 42 #[.agg (r.c kv), .agg e.c, .bool there, .int .i64 ver] W fun e_ w' => e_ = .returned (.tuple #[.agg (ans a n t), .agg x.c, .bool k, .bool false]) ∧ Below W.heap.size W w') (hr : r.verb = 11) :
    Calls Tryd.prog 18 #[.agg (r.c kv), .agg e.c, .bool there, .int .i64 now, .int .i64 ver] w fun e_ w' => e_ = .returned (.tuple #[.agg (ans a n t), .agg x.c, .bool k, .bool false]) ∧ Below w.heap.size w w' := by
  have HR := Aside0.mk hr
  clear hr
  simp only [Rq.c, Ent.c]
  go_enter Tryd.func18, Tryd.ntmps18
  go_wp2
  obtain ⟨W, hW⟩ : ∃ W, W = (((w.alloc (.cells (r.c kv) 27)).alloc (.cells e.c 38)).alloc (.cells A0 32)).alloc (.cells E0 38) := ⟨_, rfl⟩
  obtain ⟨b1, b2, b3, b4, hB⟩ := four w (.cells (r.c kv) 27) (.cells e.c 38) (.cells A0 32) (.cells E0 38)
  change Code.wp _ _ _ _ ((((w.alloc (.cells (r.c kv) 27)).alloc (.cells e.c 38)).alloc (.cells A0 32)).alloc (.cells E0 38))
  rw [← hW] at b1 b2 b3 b4 hB ⊢
  clear hW
  have c60 : W.cell? ⟨w.heap.size + 1, 0, none⟩ = some (.string e.key) := blk_cell b2 0
  have c52 : W.cell? ⟨w.heap.size, 2, none⟩ = some (.int .i64 r.fl) := blk_cell b1 2
  have c53 : W.cell? ⟨w.heap.size, 3, none⟩ = some (.int .i64 r.exp) := blk_cell b1 3
  have c58 : W.cell? ⟨w.heap.size, 8, none⟩ = some (.string r.data) := blk_cell b1 8
  refine Ev.region_ev (Gen W (w.heap.size + 1 + 1 + 1) 38 (freshAt (fresh r e now ver).c)) (by kernel_rfl) (by kernel_rfl) (gen_start b4 (by unfold freshAt; rw [no_bit]; rfl)) ?_
  refine Ev.ev_step (v := .pointer (some ⟨(w.heap.size + 1), 0, none⟩)) rfl rfl (gen_pure (freshAt_other _ (by decide)) (fun _ => by first | rfl | (go_simp; done) | (go_simp; rfl))) ?_
  simp only [Act.put, List.setIfInBounds_toArray, List.set_cons_succ, List.set_cons_zero]
  refine Ev.ev_step (v := .string e.key) rfl rfl (gen_load (freshAt_other _ (by decide)) ⟨(w.heap.size + 1), 0, none⟩ (c60) (show (w.heap.size + 1) ≠ (w.heap.size + 1 + 1 + 1) by omega) (fun w hc => by go_simp)) ?_
  simp only [Act.put, List.setIfInBounds_toArray, List.set_cons_succ, List.set_cons_zero]
  refine Ev.ev_step (v := .pointer (some ⟨w.heap.size, 2, none⟩)) rfl rfl (gen_pure (freshAt_other _ (by decide)) (fun _ => by first | rfl | (go_simp; done) | (go_simp; rfl))) ?_
  simp only [Act.put, List.setIfInBounds_toArray, List.set_cons_succ, List.set_cons_zero]
  refine Ev.ev_step (v := .int .i64 r.fl) rfl rfl (gen_load (freshAt_other _ (by decide)) ⟨w.heap.size, 2, none⟩ (c52) (show w.heap.size ≠ (w.heap.size + 1 + 1 + 1) by omega) (fun w hc => by go_simp)) ?_
  simp only [Act.put, List.setIfInBounds_toArray, List.set_cons_succ, List.set_cons_zero]
  refine Ev.ev_step (v := .pointer (some ⟨w.heap.size, 3, none⟩)) rfl rfl (gen_pure (freshAt_other _ (by decide)) (fun _ => by first | rfl | (go_simp; done) | (go_simp; rfl))) ?_
  simp only [Act.put, List.setIfInBounds_toArray, List.set_cons_succ, List.set_cons_zero]
  refine Ev.ev_step (v := .int .i64 r.exp) rfl rfl (gen_load (freshAt_other _ (by decide)) ⟨w.heap.size, 3, none⟩ (c53) (show w.heap.size ≠ (w.heap.size + 1 + 1 + 1) by omega) (fun w hc => by go_simp)) ?_
  simp only [Act.put, List.setIfInBounds_toArray, List.set_cons_succ, List.set_cons_zero]
  refine Ev.ev_step (v := .int .i64 now) rfl rfl (gen_pure (freshAt_other _ (by decide)) (fun _ => by first | rfl | (go_simp; done) | (go_simp; rfl))) ?_
  simp only [Act.put, List.setIfInBounds_toArray, List.set_cons_succ, List.set_cons_zero]
  refine Ev.ev_step (v := .int .i64 (dead r.exp now)) rfl rfl (gen_call (freshAt_other _ (by decide)) 40 #[.int .i64 r.exp, .int .i64 now] (fun _ => by first | (go_simp; done) | (go_simp; rfl)) (fun w => refDead_calls _ _ w)) ?_
  simp only [Act.put, List.setIfInBounds_toArray, List.set_cons_succ, List.set_cons_zero]
  refine Ev.ev_step (v := .pointer (some ⟨w.heap.size, 8, none⟩)) rfl rfl (gen_pure (freshAt_other _ (by decide)) (fun _ => by first | rfl | (go_simp; done) | (go_simp; rfl))) ?_
  simp only [Act.put, List.setIfInBounds_toArray, List.set_cons_succ, List.set_cons_zero]
  refine Ev.ev_step (v := .string r.data) rfl rfl (gen_load (freshAt_other _ (by decide)) ⟨w.heap.size, 8, none⟩ (c58) (show w.heap.size ≠ (w.heap.size + 1 + 1 + 1) by omega) (fun w hc => by go_simp)) ?_
  simp only [Act.put, List.setIfInBounds_toArray, List.set_cons_succ, List.set_cons_zero]
  refine Ev.ev_step (v := .int .i64 ver) rfl rfl (gen_pure (freshAt_other _ (by decide)) (fun _ => by first | rfl | (go_simp; done) | (go_simp; rfl))) ?_
  simp only [Act.put, List.setIfInBounds_toArray, List.set_cons_succ, List.set_cons_zero]
  refine Ev.ev_step (v := .agg (fresh r e now ver).c) rfl rfl (gen_pure (freshAt_other _ (by decide)) (fun _ => by first | rfl | (go_simp; done) | (go_simp; rfl))) ?_
  simp only [Act.put, List.setIfInBounds_toArray, List.set_cons_succ, List.set_cons_zero]
  refine Ev.ev_step (v := undef) rfl rfl (gen_store (fresh r e now ver).c (fun S h => by unfold freshAt; rw [Ev.set_same h, if_pos rfl]) (fun S => by unfold freshAt; split <;> rfl) 38 (.tmp 11) (.tmp 26) rfl rfl rfl (by kernel_rfl) (ent_one _)) ?_
  simp only [Act.put]
  refine Ev.ev_nil (fun w_e hw_e => ?_)
  have hm := hw_e.mod
  have b4e := hw_e.blk
  rw [show freshAt (fresh r e now ver).c (Array.replicate _ true) = (fresh r e now ver).c by unfold freshAt; rw [all_bit (by decide), if_pos rfl]] at b4e
  clear hw_e c60 c52 c53 c58 b4
  replace b1 := hm.blk b1 (by omega)
  replace b2 := hm.blk b2 (by omega)
  replace b3 := hm.blk b3 (by omega)
  replace hB := hm.after hB hB.size (fun k hk => by omega)
  have b4 := b4e
  clear hm b4e
  have hr := HR.out
  have e3 : (r.verb == 3) = false := by rw [hr]; rfl
  have e4 : (r.verb == 4) = false := by rw [hr]; rfl
  have e5 : (r.verb == 5) = false := by rw [hr]; rfl
  have e6 : (r.verb == 6) = false := by rw [hr]; rfl
  have e7 : (r.verb == 7) = false := by rw [hr]; rfl
  have e8 : (r.verb == 8) = false := by rw [hr]; rfl
  have e9 : (r.verb == 9) = false := by rw [hr]; rfl
  have e10 : (r.verb == 10) = false := by rw [hr]; rfl
  have e11 : (r.verb == 11) = true := by rw [hr]; rfl
  have e12 : (r.verb == 12) = false := by rw [hr]; rfl
  have c50 : w_e.cell? ⟨w.heap.size, 0, none⟩ = some (.int .i64 r.verb) := blk_cell b1 0
  clear hr HR
  have HJ := Aside0.mk hj
  clear hj
  have B1 := Aside0.mk b1
  have B2 := Aside0.mk b2
  have B3 := Aside0.mk b3
  have B4 := Aside0.mk b4
  have HB := Aside0.mk hB
  clear b1 b2 b3 b4 hB
  go_wp2_with (first | (refine gate_ (.load 27 (.tmp 5)) rfl ?_; refine ev_load_row (.load 27 (.tmp 5)) rfl rfl 27 (.tmp 5) rfl w.heap.size rfl 27 (r.c kv) _ B1.out Tryd.underlying27 rfl (by kernel_rfl) ?_) | (refine gate_ (.load 38 (.tmp 6)) rfl ?_; refine ev_load_row (.load 38 (.tmp 6)) rfl rfl 38 (.tmp 6) rfl (w.heap.size + 1) rfl 38 e.c _ B2.out Tryd.underlying38 rfl (by kernel_rfl) ?_) | (go_at_call 42; (with_reducible refine (HJ.out _).mono ?_); rintro e_1 w_1 ⟨rfl, hb⟩; have B3n := Aside0.mk ((hb.block _ (blk_lt B3.out)).trans B3.out); have B4n := Aside0.mk ((hb.block _ (blk_lt B4.out)).trans B4.out); have HBn := Aside0.mk (HB.out.trans (hb.mono HB.out.size)); clear B1 B2 B3 B4 HB hb; have B3 := B3n; have B4 := B4n; have HB := HBn; clear B3n B4n HBn) | (refine gate_ (.store 32 (.tmp 10) (.tmp 126)) rfl ?_; refine ev_store_row (.store 32 (.tmp 10) (.tmp 126)) rfl rfl rfl 32 (.tmp 10) (.tmp 126) rfl (w.heap.size + 1 + 1) (ans a n t) rfl rfl 32 A0 B3.out (by kernel_rfl) rfl (ans_one _ _ _) ?_; intro w_2 hw2 hm2; have B4n := Aside0.mk (hm2.blk B4.out (by omega)); have HBn := Aside0.mk (hm2.after HB.out HB.out.size (fun k hk => by omega)); have B3n := Aside0.mk hw2; clear B3 B4 HB hw2 hm2; have B3 := B3n; have B4 := B4n; have HB := HBn; clear B3n B4n HBn) | (refine gate_ (.store 38 (.tmp 11) (.tmp 127)) rfl ?_; refine ev_store_row (.store 38 (.tmp 11) (.tmp 127)) rfl rfl rfl 38 (.tmp 11) (.tmp 127) rfl (w.heap.size + 1 + 1 + 1) x.c rfl rfl 38 (fresh r e now ver).c B4.out (by kernel_rfl) rfl (ent_one _) ?_; intro w_3 hw3 hm3; have B3n := Aside0.mk (hm3.blk B3.out (by omega)); have HBn := Aside0.mk (hm3.after HB.out HB.out.size (fun k hk => by omega)); have B4n := Aside0.mk hw3; clear B3 B4 HB hw3 hm3; have B3 := B3n; have B4 := B4n; have HB := HBn; clear B3n B4n HBn))
  refine bodyPost_ret (Ev.results_c3 rfl rfl B3.out Tryd.underlying32 rfl (by kernel_rfl) rfl B4.out Tryd.underlying38 rfl (by kernel_rfl) rfl rfl) rfl ⟨rfl, HB.out⟩

theorem rcount_calls (r : Rq) (kv : Value) (e : Ent) (ver : Int) (h0 : 0 ≤ r.delta) : ∃ a n t x k, (match numOf e.val with
        | none => ((⟨13, 0, badNum⟩ : An), e, false, false)
        | some n => (⟨8, (numTo r n : Int), ⟨#[]⟩⟩, { e with val := dec (numTo r n), cas := ver }, true, false)) = (⟨a, n, t⟩, x, k, false) ∧
    ∀ W, Calls Tryd.prog 42 #[.agg (r.c kv), .agg e.c, .bool true, .int .i64 ver] W fun e_ w' => e_ = .returned (.tuple #[.agg (ans a n t), .agg x.c, .bool k, .bool false]) ∧ Below W.heap.size W w' := by
  cases h : numOf e.val with
  | none => exact ⟨_, _, _, _, _, rfl, fun W => rcount_bad r kv e ver W h⟩
  | some n =>
    have hb := numOf_bd h
    by_cases h10 : r.verb = 10
    · have hm : IntKind.u64.wrap (n + r.delta) = (numTo r n : Int) := by
        unfold numTo
        rw [if_pos h10]
        have : 0 ≤ IntKind.u64.wrap (n + r.delta) := by rw [IntKind.wrap_u64]; omega
        omega
      exact ⟨_, _, _, _, _, rfl, fun W => rcount_up r kv e ver n _ W h h10 hm⟩
    · have hm : n - min n r.delta = (numTo r n : Int) := by
        unfold numTo
        rw [if_neg h10]
        omega
      exact ⟨_, _, _, _, _, rfl, fun W => rcount_down r kv e ver n _ W h h10 h0 hm⟩
/-- What the document's Next tells: the same, but for an entry that is not kept. -/
def Told (N : An × Ent × Bool × Bool) (r : Rq) (kv : Value) (e : Ent) (there : Bool) (now ver : Int) (w : World) : Prop :=
  ∃ x : Ent, (N.2.2.1 = true → x = N.2.1) ∧ Calls Tryd.prog 18 #[.agg (r.c kv), .agg e.c, .bool there, .int .i64 now, .int .i64 ver] w fun e_ w' => e_ = .returned (.tuple #[.agg N.1.c, .agg x.c, .bool N.2.2.1, .bool N.2.2.2]) ∧ Below w.heap.size w w'
theorem rnext_calls (r : Rq) (kv : Value) (e : Ent) (there : Bool) (now ver : Int) (w : World) (hF : Fine r e) : Told (nextOf r e there now ver) r kv e there now ver w := by
  have yes : ∀ (a : An) (x : Ent) (d : Bool), (Calls Tryd.prog 18 #[.agg (r.c kv), .agg e.c, .bool there, .int .i64 now, .int .i64 ver] w fun e_ w' => e_ = .returned (.tuple #[.agg a.c, .agg x.c, .bool true, .bool d]) ∧ Below w.heap.size w w') → Told (a, x, true, d) r kv e there now ver w := fun a x d h => ⟨x, fun _ => rfl, h⟩
  have no : ∀ (a : An) (x y : Ent) (d : Bool), (Calls Tryd.prog 18 #[.agg (r.c kv), .agg e.c, .bool there, .int .i64 now, .int .i64 ver] w fun e_ w' => e_ = .returned (.tuple #[.agg a.c, .agg y.c, .bool false, .bool d]) ∧ Below w.heap.size w w') → Told (a, x, false, d) r kv e there now ver w := fun a x y d h => ⟨y, (fun hh => absurd hh Bool.false_ne_true), h⟩
  unfold nextOf
  by_cases h3 : r.verb = 3
  · rw [if_pos h3]; exact yes _ _ _ (rnext_set r kv e there now ver w h3)
  rw [if_neg h3]
  by_cases h4 : r.verb = 4
  · rw [if_pos h4]
    cases there
    · exact yes _ _ _ (rnext_add_yes r kv e now ver w h4)
    · exact no _ _ _ _ (rnext_add_no r kv e now ver w h4)
  rw [if_neg h4]
  by_cases h5 : r.verb = 5
  · rw [if_pos h5]
    cases there
    · exact no _ _ _ _ (rnext_rep_no r kv e now ver w h5)
    · exact yes _ _ _ (rnext_rep_yes r kv e now ver w h5)
  rw [if_neg h5]
  by_cases h67 : r.verb = 6 ∨ r.verb = 7
  · rw [if_pos h67]
    cases there
    · rcases h67 with h6 | h7
      · exact no _ _ _ _ (rnext_app_no r kv e now ver w h6)
      · exact no _ _ _ _ (rnext_pre_no r kv e now ver w h7)
    · rw [if_pos rfl]
      by_cases hl : 1048576 < e.val.size + r.data.size
      · rw [if_pos hl]
        have hs := And.intro hl (And.intro hF.v hF.d)
        rcases h67 with h6 | h7
        · exact no _ _ _ _ (rnext_app_long r kv e now ver w hs h6)
        · exact no _ _ _ _ (rnext_pre_long r kv e now ver w hs h7)
      · rw [if_neg hl]
        by_cases h6 : r.verb = 6
        · rw [if_pos h6]
          exact yes _ _ _ (rnext_app r kv e now ver w (by omega) h6)
        · rw [if_neg h6]
          exact yes _ _ _ (rnext_pre r kv e now ver w (by omega) (by omega))
  rw [if_neg h67]
  by_cases h8 : 8 ≤ r.verb ∧ r.verb ≤ 12
  · rw [if_pos h8]
    cases there
    · rw [if_neg (by decide)]
      rcases (show r.verb = 8 ∨ r.verb = 9 ∨ r.verb = 10 ∨ r.verb = 11 ∨ r.verb = 12 by omega) with h | h | h | h | h
      · exact no _ _ _ _ (rnext_cas_no r kv e now ver w h)
      · exact no _ _ _ _ (rnext_delete_no r kv e now ver w h)
      · exact no _ _ _ _ (rnext_incr r kv e false 5 0 ⟨#[]⟩ e false now ver w (fun W => rcount_no r kv e ver W) h)
      · exact no _ _ _ _ (rnext_decr r kv e false 5 0 ⟨#[]⟩ e false now ver w (fun W => rcount_no r kv e ver W) h)
      · exact no _ _ _ _ (rnext_touch_no r kv e now ver w h)
    · rw [if_pos rfl]
      by_cases g8 : r.verb = 8
      · rw [if_pos g8]
        by_cases hc : e.cas = r.cas
        · rw [if_pos hc]; exact yes _ _ _ (rnext_cas r kv e hc now ver w g8)
        · rw [if_neg hc]; exact no _ _ _ _ (rnext_cas_other r kv e hc now ver w g8)
      rw [if_neg g8]
      by_cases g9 : r.verb = 9
      · rw [if_pos g9]; exact no _ _ _ _ (rnext_delete r kv e now ver w g9)
      rw [if_neg g9]
      by_cases g12 : r.verb = 12
      · rw [if_pos g12]; exact yes _ _ _ (rnext_touch r kv e now ver w g12)
      rw [if_neg g12]
      obtain ⟨a, n, t, x, k, he, hj⟩ := rcount_calls r kv e ver hF.d0
      have hh : Told (⟨a, n, t⟩, x, k, false) r kv e true now ver w := by
        rcases (show r.verb = 10 ∨ r.verb = 11 by omega) with h | h
        · exact ⟨x, fun _ => rfl, rnext_incr r kv e true a n t x k now ver w hj h⟩
        · exact ⟨x, fun _ => rfl, rnext_decr r kv e true a n t x k now ver w hj h⟩
      rw [← he] at hh
      exact hh
  rw [if_neg h8]
  exact no _ _ _ _ (rnext_else r kv e there now ver w (by omega))
end Go.Proofs.YtepklobkppdliaaDoor.Md
