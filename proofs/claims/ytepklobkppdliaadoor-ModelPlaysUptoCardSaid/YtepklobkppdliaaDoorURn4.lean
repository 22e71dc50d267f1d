/- The document: Next (touch, append, prepend). -/
import Derived.Test.YtepklobkppdliaaDoorURn2
namespace Go.Proofs.YtepklobkppdliaaDoor.Md
open Go.RowKit Go.Proofs.YtepklobkppdliaaDoorW.PrintWords Go.Proofs.YtepklobkppdliaaDoorW.PrintLast Go.Proofs.YtepklobkppdliaaDoorW.PrintMore Go.Proofs.YtepklobkppdliaaDoor.Lib Go.Proofs.YtepklobkppdliaaDoor.Open
def joinAt (r : Rq) (e : Ent) (ver : Int) (S : Array Bool) : Array Value := #[.string e.key, .int .i64 e.fl, .int .i64 e.dl, if S.getD 9 false = true then .string (e.val ++ r.data) else .string e.val, if S.getD 7 false = true then .int .i64 ver else .int .i64 e.cas]
theorem joinAt_other (r : Rq) (e : Ent) (ver : Int) {i : Nat} (h7 : i ≠ 7) (h9 : i ≠ 9) (S : Array Bool) : joinAt r e ver (S.setIfInBounds i true) = joinAt r e ver S := by
  unfold joinAt
  rw [Ev.set_other h7, Ev.set_other h9]
theorem joinAt_h7 (r : Rq) (e : Ent) (ver : Int) (S : Array Bool) (h : S.getD 7 true = false) : (joinAt r e ver S)[4]? = some (.int .i64 e.cas) := by
  unfold joinAt
  rw [Ev.get_false h]
  rfl
theorem joinAt_h9 (r : Rq) (e : Ent) (ver : Int) (S : Array Bool) (h : S.getD 9 true = false) : (joinAt r e ver S)[3]? = some (.string e.val) := by
  unfold joinAt
  rw [Ev.get_false h]
  rfl
theorem joinAt_s7 (r : Rq) (e : Ent) (ver : Int) (S : Array Bool) (h : S.getD 7 true = false) : (joinAt r e ver S).setIfInBounds 4 (.int .i64 ver) = joinAt r e ver (S.setIfInBounds 7 true) := by
  unfold joinAt
  rw [Ev.set_same h, Ev.set_other (show (7 : Nat) ≠ 9 by decide), if_pos rfl]
  rfl
theorem joinAt_s9 (r : Rq) (e : Ent) (ver : Int) (S : Array Bool) (h : S.getD 9 true = false) : (joinAt r e ver S).setIfInBounds 3 (.string (e.val ++ r.data)) = joinAt r e ver (S.setIfInBounds 9 true) := by
  unfold joinAt
  rw [Ev.set_same h, Ev.set_other (show (9 : Nat) ≠ 7 by decide), if_pos rfl]
  rfl
set_option maxHeartbeats 4000000 in
set_option maxRecDepth 100000 in
theorem rnext_touch (r : Rq) (kv : Value) (e : Ent) (now ver : Int) (w : World) (hr : r.verb = 12) :
    Calls Tryd.prog 18 #[.agg (r.c kv), .agg e.c, .bool true, .int .i64 now, .int .i64 ver] w fun e_ w' => e_ = .returned (.tuple #[.agg (ans 7 0 ⟨#[]⟩), .agg (Ent.c { e with dl := dead r.exp now }), .bool true, .bool false]) ∧ Below w.heap.size w w' := by
  have HR := Aside0.mk hr
  clear hr
  simp only [Rq.c, Ent.c]
  go_enter Tryd.func18, Tryd.ntmps18
  go_wp2
  obtain ⟨W, hW⟩ : ∃ W, W = (((w.alloc (.cells (r.c kv) 27)).alloc (.cells e.c 38)).alloc (.cells A0 32)).alloc (.cells E0 38) := ⟨_, rfl⟩
  obtain ⟨b1, b2, b3, b4, hB⟩ := four w (.cells (r.c kv) 27) (.cells e.c 38) (.cells A0 32) (.cells E0 38)
  change Code.wp _ _ _ _ ((((w.alloc (.cells (r.c kv) 27)).alloc (.cells e.c 38)).alloc (.cells A0 32)).alloc (.cells E0 38))
  rw [← hW] at b1 b2 b3 b4 hB ⊢
  clear hW
  have c60 : W.cell? ⟨w.heap.size + 1, 0, none⟩ = some (.string e.key) := blk_cell b2 0
  have c52 : W.cell? ⟨w.heap.size, 2, none⟩ = some (.int .i64 r.fl) := blk_cell b1 2
  have c53 : W.cell? ⟨w.heap.size, 3, none⟩ = some (.int .i64 r.exp) := blk_cell b1 3
  have c58 : W.cell? ⟨w.heap.size, 8, none⟩ = some (.string r.data) := blk_cell b1 8
  refine Ev.region_ev (Gen W (w.heap.size + 1 + 1 + 1) 38 (freshAt (fresh r e now ver).c)) (by kernel_rfl) (by kernel_rfl) (gen_start b4 (by unfold freshAt; rw [no_bit]; rfl)) ?_
  refine Ev.ev_step (v := .pointer (some ⟨(w.heap.size + 1), 0, none⟩)) rfl rfl (gen_pure (freshAt_other _ (by decide)) (fun _ => by first | rfl | (go_simp; done) | (go_simp; rfl))) ?_
  simp only [Act.put, List.setIfInBounds_toArray, List.set_cons_succ, List.set_cons_zero]
  refine Ev.ev_step (v := .string e.key) rfl rfl (gen_load (freshAt_other _ (by decide)) ⟨(w.heap.size + 1), 0, none⟩ (c60) (show (w.heap.size + 1) ≠ (w.heap.size + 1 + 1 + 1) by omega) (fun w hc => by go_simp)) ?_
  simp only [Act.put, List.setIfInBounds_toArray, List.set_cons_succ, List.set_cons_zero]
  refine Ev.ev_step (v := .pointer (some ⟨w.heap.size, 2, none⟩)) rfl rfl (gen_pure (freshAt_other _ (by decide)) (fun _ => by first | rfl | (go_simp; done) | (go_simp; rfl))) ?_
  simp only [Act.put, List.setIfInBounds_toArray, List.set_cons_succ, List.set_cons_zero]
  refine Ev.ev_step (v := .int .i64 r.fl) rfl rfl (gen_load (freshAt_other _ (by decide)) ⟨w.heap.size, 2, none⟩ (c52) (show w.heap.size ≠ (w.heap.size + 1 + 1 + 1) by omega) (fun w hc => by go_simp)) ?_
  simp only [Act.put, List.setIfInBounds_toArray, List.set_cons_succ, List.set_cons_zero]
  refine Ev.ev_step (v := .pointer (some ⟨w.heap.size, 3, none⟩)) rfl rfl (gen_pure (freshAt_other _ (by decide)) (fun _ => by first | rfl | (go_simp; done) | (go_simp; rfl))) ?_
  simp only [Act.put, List.setIfInBounds_toArray, List.set_cons_succ, List.set_cons_zero]
  refine Ev.ev_step (v := .int .i64 r.exp) rfl rfl (gen_load (freshAt_other _ (by decide)) ⟨w.heap.size, 3, none⟩ (c53) (show w.heap.size ≠ (w.heap.size + 1 + 1 + 1) by omega) (fun w hc => by go_simp)) ?_
  simp only [Act.put, List.setIfInBounds_toArray, List.set_cons_succ, List.set_cons_zero]
  refine Ev.ev_step (v := .int .i64 now) rfl rfl (gen_pure (freshAt_other _ (by decide)) (fun _ => by first | rfl | (go_simp; done) | (go_simp; rfl))) ?_
  simp only [Act.put, List.setIfInBounds_toArray, List.set_cons_succ, List.set_cons_zero]
  refine Ev.ev_step (v := .int .i64 (dead r.exp now)) rfl rfl (gen_call (freshAt_other _ (by decide)) 40 #[.int .i64 r.exp, .int .i64 now] (fun _ => by first | (go_simp; done) | (go_simp; rfl)) (fun w => refDead_calls _ _ w)) ?_
  simp only [Act.put, List.setIfInBounds_toArray, List.set_cons_succ, List.set_cons_zero]
  refine Ev.ev_step (v := .pointer (some ⟨w.heap.size, 8, none⟩)) rfl rfl (gen_pure (freshAt_other _ (by decide)) (fun _ => by first | rfl | (go_simp; done) | (go_simp; rfl))) ?_
  simp only [Act.put, List.setIfInBounds_toArray, List.set_cons_succ, List.set_cons_zero]
  refine Ev.ev_step (v := .string r.data) rfl rfl (gen_load (freshAt_other _ (by decide)) ⟨w.heap.size, 8, none⟩ (c58) (show w.heap.size ≠ (w.heap.size + 1 + 1 + 1) by omega) (fun w hc => by go_simp)) ?_
  simp only [Act.put, List.setIfInBounds_toArray, List.set_cons_succ, List.set_cons_zero]
  refine Ev.ev_step (v := .int .i64 ver) rfl rfl (gen_pure (freshAt_other _ (by decide)) (fun _ => by first | rfl | (go_simp; done) | (go_simp; rfl))) ?_
  simp only [Act.put, List.setIfInBounds_toArray, List.set_cons_succ, List.set_cons_zero]
  refine Ev.ev_step (v := .agg (fresh r e now ver).c) rfl rfl (gen_pure (freshAt_other _ (by decide)) (fun _ => by first | rfl | (go_simp; done) | (go_simp; rfl))) ?_
  simp only [Act.put, List.setIfInBounds_toArray, List.set_cons_succ, List.set_cons_zero]
  refine Ev.ev_step (v := undef) rfl rfl (gen_store (fresh r e now ver).c (fun S h => by unfold freshAt; rw [Ev.set_same h, if_pos rfl]) (fun S => by unfold freshAt; split <;> rfl) 38 (.tmp 11) (.tmp 26) rfl rfl rfl (by kernel_rfl) (ent_one _)) ?_
  simp only [Act.put]
  refine Ev.ev_nil (fun w_e hw_e => ?_)
  have hm := hw_e.mod
  have b4e := hw_e.blk
  rw [show freshAt (fresh r e now ver).c (Array.replicate _ true) = (fresh r e now ver).c by unfold freshAt; rw [all_bit (by decide), if_pos rfl]] at b4e
  clear hw_e c60 c52 c53 c58 b4
  replace b1 := hm.blk b1 (by omega)
  replace b2 := hm.blk b2 (by omega)
  replace b3 := hm.blk b3 (by omega)
  replace hB := hm.after hB hB.size (fun k hk => by omega)
  have b4 := b4e
  clear hm b4e
  have hr := HR.out
  have e3 : (r.verb == 3) = false := by rw [hr]; rfl
  have e4 : (r.verb == 4) = false := by rw [hr]; rfl
  have e5 : (r.verb == 5) = false := by rw [hr]; rfl
  have e6 : (r.verb == 6) = false := by rw [hr]; rfl
  have e7 : (r.verb == 7) = false := by rw [hr]; rfl
  have e8 : (r.verb == 8) = false := by rw [hr]; rfl
  have e9 : (r.verb == 9) = false := by rw [hr]; rfl
  have e10 : (r.verb == 10) = false := by rw [hr]; rfl
  have e11 : (r.verb == 11) = false := by rw [hr]; rfl
  have e12 : (r.verb == 12) = true := by rw [hr]; rfl
  have c50 : w_e.cell? ⟨w.heap.size, 0, none⟩ = some (.int .i64 r.verb) := blk_cell b1 0
  clear hr HR
  have c112 : w_e.cell? ⟨w.heap.size + 1 + 1 + 1, 2, none⟩ = some (.int .i64 (dead r.exp now)) := blk_cell b4 2
  have B1 := Aside0.mk b1
  have B2 := Aside0.mk b2
  have B3 := Aside0.mk b3
  have B4 := Aside0.mk b4
  have HB := Aside0.mk hB
  clear b1 b2 b3 b4 hB
  go_wp2_with (first | (refine gate_ (.load 38 (.tmp 6)) rfl ?_; refine ev_load_row (.load 38 (.tmp 6)) rfl rfl 38 (.tmp 6) rfl (w.heap.size + 1) rfl 38 e.c _ B2.out Tryd.underlying38 rfl (by kernel_rfl) ?_) | (refine gate_ (.store 38 (.tmp 11) (.tmp 113)) rfl ?_; refine ev_store_row (.store 38 (.tmp 11) (.tmp 113)) rfl rfl rfl 38 (.tmp 11) (.tmp 113) rfl (w.heap.size + 1 + 1 + 1) e.c rfl rfl 38 (fresh r e now ver).c B4.out (by kernel_rfl) rfl (ent_one _) ?_; intro w_2 hw2 hm2; have B1n := Aside0.mk (hm2.blk B1.out (by omega)); have B2n := Aside0.mk (hm2.blk B2.out (by omega)); have B3n := Aside0.mk (hm2.blk B3.out (by omega)); have HBn := Aside0.mk (hm2.after HB.out HB.out.size (fun k hk => by omega)); have B4n := Aside0.mk hw2; have c_2 : w_2.cell? ⟨w.heap.size + 1 + 1 + 1, 2, none⟩ = some (.int .i64 e.dl) := blk_cell hw2 2; have f_2 : w_2.frozen? ⟨w.heap.size + 1 + 1 + 1, 2, none⟩ = false := blk_frozen hw2 2; clear B1 B2 B3 B4 HB hw2 hm2; have B1 := B1n; have B2 := B2n; have B3 := B3n; have B4 := B4n; have HB := HBn; clear B1n B2n B3n B4n HBn))
  clear e3 e4 e5 e6 e7 e8 e9 e10 e11 e12 c50 c112 c_2 f_2
  have b1 := B1.out
  have b2 := B2.out
  have b3 := B3.out
  have b4 := B4.out
  have hB := HB.out
  clear B1 B2 B3 B4 HB
  obtain ⟨W2, hW2⟩ : ∃ W2, W2 = w_2.setCell ⟨w.heap.size + 1 + 1 + 1, 2, none⟩ (.int .i64 (dead r.exp now)) := ⟨_, rfl⟩
  have hM : Mod (fun k => k = w.heap.size + 1 + 1 + 1) w_2 W2 := by rw [hW2]; exact Mod.setCell (p := ⟨w.heap.size + 1 + 1 + 1, 2, none⟩) (Mod.refl (fun k => k = w.heap.size + 1 + 1 + 1) _) (.inl rfl) _
  have b4s : W2.heap[w.heap.size + 1 + 1 + 1]? = some (.cells (Ent.c { e with dl := dead r.exp now }) 38 (0, 0)) := by rw [hW2]; exact blk_put b4 2 _ rfl
  clear b4
  have b4 := b4s
  replace b3 := hM.blk b3 (by omega)
  replace hB : Below w.heap.size w W2 := hM.after hB hB.size (fun k hk => by omega)
  rw [← hW2]
  clear hW2 hM b1 b2 b4s
  refine Ev.region_ev (Ev.Two W2 (w.heap.size + 1 + 1) (w.heap.size + 1 + 1 + 1) 32 38 A0 (ans 7 0 ⟨#[]⟩) (Ent.c { e with dl := dead r.exp now }) (Ent.c { e with dl := dead r.exp now }) 2 3) (by kernel_rfl) (by kernel_rfl) (Ev.two_start b3 b4) ?_
  refine Ev.ev_step (v := .agg (ans 7 0 ⟨#[]⟩)) rfl rfl (Ev.two_call (by decide) (by decide) 41 #[.int .i64 7] (fun _ => by first | (go_simp; done) | (go_simp; rfl)) (fun w => refSay_calls 7 w)) ?_
  simp only [Act.put, List.setIfInBounds_toArray, List.set_cons_succ, List.set_cons_zero]
  refine Ev.ev_step (v := .agg (Ent.c { e with dl := dead r.exp now })) rfl rfl (Ev.two_load2 (by decide) (by decide) 38 (.tmp 11) rfl rfl _ rfl Tryd.underlying38 rfl (by kernel_rfl)) ?_
  simp only [Act.put, List.setIfInBounds_toArray, List.set_cons_succ, List.set_cons_zero]
  refine Ev.ev_step (v := undef) rfl rfl (Ev.two_store1 (by decide) (by omega) 32 (.tmp 10) (.tmp 116) rfl rfl rfl rfl (by kernel_rfl) (ans_one _ _ _)) ?_
  simp only [Act.put]
  refine Ev.ev_step (v := undef) rfl rfl (Ev.two_store2 (by decide) (by omega) 38 (.tmp 11) (.tmp 117) rfl rfl rfl rfl (by kernel_rfl) (ent_one _)) ?_
  simp only [Act.put]
  refine Ev.ev_step (v := .bool true) rfl rfl (Ev.two_pure (by decide) (by decide) (fun _ => by rfl)) ?_
  simp only [Act.put, List.setIfInBounds_toArray, List.set_cons_succ, List.set_cons_zero]
  refine Ev.ev_step (v := .bool false) rfl rfl (Ev.two_pure (by decide) (by decide) (fun _ => by rfl)) ?_
  simp only [Act.put, List.setIfInBounds_toArray, List.set_cons_succ, List.set_cons_zero]
  refine Ev.ev_nil (fun w_e hw_e => ?_)
  obtain ⟨hM_e, hA_e, hX_e⟩ := Ev.two_end hw_e (by decide) (by decide)
  clear hw_e
  go_wp2
  refine bodyPost_ret (Ev.results_c3 rfl rfl hA_e Tryd.underlying32 rfl (by kernel_rfl) rfl hX_e Tryd.underlying38 rfl (by kernel_rfl) rfl rfl) rfl ⟨rfl, ?_⟩
  exact Mod.after hB hB.size hM_e (fun k hk => by omega)
set_option maxHeartbeats 4000000 in
set_option maxRecDepth 100000 in
theorem rnext_app_long (r : Rq) (kv : Value) (e : Ent) (now ver : Int) (w : World) (hs : 1048576 < e.val.size + r.data.size ∧ e.val.size ≤ 140737488355328 ∧ r.data.size ≤ 140737488355328) (hr : r.verb = 6) :
    Calls Tryd.prog 18 #[.agg (r.c kv), .agg e.c, .bool true, .int .i64 now, .int .i64 ver] w fun e_ w' => e_ = .returned (.tuple #[.agg (ans 14 0 tooLarge), .agg (fresh r e now ver).c, .bool false, .bool false]) ∧ Below w.heap.size w w' := by
  have HR := Aside0.mk hr
  have HS := Aside0.mk hs
  clear hs
  clear hr
  simp only [Rq.c, Ent.c]
  go_enter Tryd.func18, Tryd.ntmps18
  go_wp2
  obtain ⟨W, hW⟩ : ∃ W, W = (((w.alloc (.cells (r.c kv) 27)).alloc (.cells e.c 38)).alloc (.cells A0 32)).alloc (.cells E0 38) := ⟨_, rfl⟩
  obtain ⟨b1, b2, b3, b4, hB⟩ := four w (.cells (r.c kv) 27) (.cells e.c 38) (.cells A0 32) (.cells E0 38)
  change Code.wp _ _ _ _ ((((w.alloc (.cells (r.c kv) 27)).alloc (.cells e.c 38)).alloc (.cells A0 32)).alloc (.cells E0 38))
  rw [← hW] at b1 b2 b3 b4 hB ⊢
  clear hW
  have c60 : W.cell? ⟨w.heap.size + 1, 0, none⟩ = some (.string e.key) := blk_cell b2 0
  have c52 : W.cell? ⟨w.heap.size, 2, none⟩ = some (.int .i64 r.fl) := blk_cell b1 2
  have c53 : W.cell? ⟨w.heap.size, 3, none⟩ = some (.int .i64 r.exp) := blk_cell b1 3
  have c58 : W.cell? ⟨w.heap.size, 8, none⟩ = some (.string r.data) := blk_cell b1 8
  refine Ev.region_ev (Gen W (w.heap.size + 1 + 1 + 1) 38 (freshAt (fresh r e now ver).c)) (by kernel_rfl) (by kernel_rfl) (gen_start b4 (by unfold freshAt; rw [no_bit]; rfl)) ?_
  refine Ev.ev_step (v := .pointer (some ⟨(w.heap.size + 1), 0, none⟩)) rfl rfl (gen_pure (freshAt_other _ (by decide)) (fun _ => by first | rfl | (go_simp; done) | (go_simp; rfl))) ?_
  simp only [Act.put, List.setIfInBounds_toArray, List.set_cons_succ, List.set_cons_zero]
  refine Ev.ev_step (v := .string e.key) rfl rfl (gen_load (freshAt_other _ (by decide)) ⟨(w.heap.size + 1), 0, none⟩ (c60) (show (w.heap.size + 1) ≠ (w.heap.size + 1 + 1 + 1) by omega) (fun w hc => by go_simp)) ?_
  simp only [Act.put, List.setIfInBounds_toArray, List.set_cons_succ, List.set_cons_zero]
  refine Ev.ev_step (v := .pointer (some ⟨w.heap.size, 2, none⟩)) rfl rfl (gen_pure (freshAt_other _ (by decide)) (fun _ => by first | rfl | (go_simp; done) | (go_simp; rfl))) ?_
  simp only [Act.put, List.setIfInBounds_toArray, List.set_cons_succ, List.set_cons_zero]
  refine Ev.ev_step (v := .int .i64 r.fl) rfl rfl (gen_load (freshAt_other _ (by decide)) ⟨w.heap.size, 2, none⟩ (c52) (show w.heap.size ≠ (w.heap.size + 1 + 1 + 1) by omega) (fun w hc => by go_simp)) ?_
  simp only [Act.put, List.setIfInBounds_toArray, List.set_cons_succ, List.set_cons_zero]
  refine Ev.ev_step (v := .pointer (some ⟨w.heap.size, 3, none⟩)) rfl rfl (gen_pure (freshAt_other _ (by decide)) (fun _ => by first | rfl | (go_simp; done) | (go_simp; rfl))) ?_
  simp only [Act.put, List.setIfInBounds_toArray, List.set_cons_succ, List.set_cons_zero]
  refine Ev.ev_step (v := .int .i64 r.exp) rfl rfl (gen_load (freshAt_other _ (by decide)) ⟨w.heap.size, 3, none⟩ (c53) (show w.heap.size ≠ (w.heap.size + 1 + 1 + 1) by omega) (fun w hc => by go_simp)) ?_
  simp only [Act.put, List.setIfInBounds_toArray, List.set_cons_succ, List.set_cons_zero]
  refine Ev.ev_step (v := .int .i64 now) rfl rfl (gen_pure (freshAt_other _ (by decide)) (fun _ => by first | rfl | (go_simp; done) | (go_simp; rfl))) ?_
  simp only [Act.put, List.setIfInBounds_toArray, List.set_cons_succ, List.set_cons_zero]
  refine Ev.ev_step (v := .int .i64 (dead r.exp now)) rfl rfl (gen_call (freshAt_other _ (by decide)) 40 #[.int .i64 r.exp, .int .i64 now] (fun _ => by first | (go_simp; done) | (go_simp; rfl)) (fun w => refDead_calls _ _ w)) ?_
  simp only [Act.put, List.setIfInBounds_toArray, List.set_cons_succ, List.set_cons_zero]
  refine Ev.ev_step (v := .pointer (some ⟨w.heap.size, 8, none⟩)) rfl rfl (gen_pure (freshAt_other _ (by decide)) (fun _ => by first | rfl | (go_simp; done) | (go_simp; rfl))) ?_
  simp only [Act.put, List.setIfInBounds_toArray, List.set_cons_succ, List.set_cons_zero]
  refine Ev.ev_step (v := .string r.data) rfl rfl (gen_load (freshAt_other _ (by decide)) ⟨w.heap.size, 8, none⟩ (c58) (show w.heap.size ≠ (w.heap.size + 1 + 1 + 1) by omega) (fun w hc => by go_simp)) ?_
  simp only [Act.put, List.setIfInBounds_toArray, List.set_cons_succ, List.set_cons_zero]
  refine Ev.ev_step (v := .int .i64 ver) rfl rfl (gen_pure (freshAt_other _ (by decide)) (fun _ => by first | rfl | (go_simp; done) | (go_simp; rfl))) ?_
  simp only [Act.put, List.setIfInBounds_toArray, List.set_cons_succ, List.set_cons_zero]
  refine Ev.ev_step (v := .agg (fresh r e now ver).c) rfl rfl (gen_pure (freshAt_other _ (by decide)) (fun _ => by first | rfl | (go_simp; done) | (go_simp; rfl))) ?_
  simp only [Act.put, List.setIfInBounds_toArray, List.set_cons_succ, List.set_cons_zero]
  refine Ev.ev_step (v := undef) rfl rfl (gen_store (fresh r e now ver).c (fun S h => by unfold freshAt; rw [Ev.set_same h, if_pos rfl]) (fun S => by unfold freshAt; split <;> rfl) 38 (.tmp 11) (.tmp 26) rfl rfl rfl (by kernel_rfl) (ent_one _)) ?_
  simp only [Act.put]
  refine Ev.ev_nil (fun w_e hw_e => ?_)
  have hm := hw_e.mod
  have b4e := hw_e.blk
  rw [show freshAt (fresh r e now ver).c (Array.replicate _ true) = (fresh r e now ver).c by unfold freshAt; rw [all_bit (by decide), if_pos rfl]] at b4e
  clear hw_e c60 c52 c53 c58 b4
  replace b1 := hm.blk b1 (by omega)
  replace b2 := hm.blk b2 (by omega)
  replace b3 := hm.blk b3 (by omega)
  replace hB := hm.after hB hB.size (fun k hk => by omega)
  have b4 := b4e
  clear hm b4e
  have hr := HR.out
  have e3 : (r.verb == 3) = false := by rw [hr]; rfl
  have e4 : (r.verb == 4) = false := by rw [hr]; rfl
  have e5 : (r.verb == 5) = false := by rw [hr]; rfl
  have e6 : (r.verb == 6) = true := by rw [hr]; rfl
  have e7 : (r.verb == 7) = false := by rw [hr]; rfl
  have e8 : (r.verb == 8) = false := by rw [hr]; rfl
  have e9 : (r.verb == 9) = false := by rw [hr]; rfl
  have e10 : (r.verb == 10) = false := by rw [hr]; rfl
  have e11 : (r.verb == 11) = false := by rw [hr]; rfl
  have e12 : (r.verb == 12) = false := by rw [hr]; rfl
  have c50 : w_e.cell? ⟨w.heap.size, 0, none⟩ = some (.int .i64 r.verb) := blk_cell b1 0
  clear hr HR
  have c63 : w_e.cell? ⟨w.heap.size + 1, 3, none⟩ = some (.string e.val) := blk_cell b2 3
  have c58 : w_e.cell? ⟨w.heap.size, 8, none⟩ = some (.string r.data) := blk_cell b1 8
  have hs1 : (1048576 : Int) < (e.val.size : Int) + (r.data.size : Int) := by have := HS.out; omega
  have hs2 : (e.val.size : Int) ≤ 140737488355328 := by have := HS.out; omega
  have hs3 : (r.data.size : Int) ≤ 140737488355328 := by have := HS.out; omega
  go_wp2
  clear e3 e4 e5 e6 e7 e8 e9 e10 e11 e12 c50 c63 c58 hs1 hs2 hs3
  obtain ⟨W2, hW2⟩ : ∃ W2, W2 = w_e := ⟨_, rfl⟩
  rw [← hW2] at b1 b2 b3 b4 hB ⊢
  clear hW2
  refine Ev.region_ev (Ev.Two W2 (w.heap.size + 1 + 1) (w.heap.size + 1 + 1 + 1) 32 38 A0 (ans 14 0 tooLarge) (fresh r e now ver).c (fresh r e now ver).c 2 3) (by kernel_rfl) (by kernel_rfl) (Ev.two_start b3 b4) ?_
  refine Ev.ev_step (v := .agg (ans 14 0 tooLarge)) rfl rfl (Ev.two_pure (by decide) (by decide) (fun _ => by first | (go_simp; done) | (go_simp; rfl))) ?_
  simp only [Act.put, List.setIfInBounds_toArray, List.set_cons_succ, List.set_cons_zero]
  refine Ev.ev_step (v := .agg (fresh r e now ver).c) rfl rfl (Ev.two_load2 (by decide) (by decide) 38 (.tmp 11) rfl rfl _ rfl Tryd.underlying38 rfl (by kernel_rfl)) ?_
  simp only [Act.put, List.setIfInBounds_toArray, List.set_cons_succ, List.set_cons_zero]
  refine Ev.ev_step (v := undef) rfl rfl (Ev.two_store1 (by decide) (by omega) 32 (.tmp 10) (.tmp 60) rfl rfl rfl rfl (by kernel_rfl) (ans_one _ _ _)) ?_
  simp only [Act.put]
  refine Ev.ev_step (v := undef) rfl rfl (Ev.two_store2 (by decide) (by omega) 38 (.tmp 11) (.tmp 61) rfl rfl rfl rfl (by kernel_rfl) (ent_one _)) ?_
  simp only [Act.put]
  refine Ev.ev_step (v := .bool false) rfl rfl (Ev.two_pure (by decide) (by decide) (fun _ => by rfl)) ?_
  simp only [Act.put, List.setIfInBounds_toArray, List.set_cons_succ, List.set_cons_zero]
  refine Ev.ev_step (v := .bool false) rfl rfl (Ev.two_pure (by decide) (by decide) (fun _ => by rfl)) ?_
  simp only [Act.put, List.setIfInBounds_toArray, List.set_cons_succ, List.set_cons_zero]
  refine Ev.ev_nil (fun w_e hw_e => ?_)
  obtain ⟨hM_e, hA_e, hX_e⟩ := Ev.two_end hw_e (by decide) (by decide)
  clear hw_e
  go_wp2
  refine bodyPost_ret (Ev.results_c3 rfl rfl hA_e Tryd.underlying32 rfl (by kernel_rfl) rfl hX_e Tryd.underlying38 rfl (by kernel_rfl) rfl rfl) rfl ⟨rfl, ?_⟩
  exact Mod.after hB hB.size hM_e (fun k hk => by omega)
set_option maxHeartbeats 4000000 in
set_option maxRecDepth 100000 in
theorem rnext_pre_long (r : Rq) (kv : Value) (e : Ent) (now ver : Int) (w : World) (hs : 1048576 < e.val.size + r.data.size ∧ e.val.size ≤ 140737488355328 ∧ r.data.size ≤ 140737488355328) (hr : r.verb = 7) :
    Calls Tryd.prog 18 #[.agg (r.c kv), .agg e.c, .bool true, .int .i64 now, .int .i64 ver] w fun e_ w' => e_ = .returned (.tuple #[.agg (ans 14 0 tooLarge), .agg (fresh r e now ver).c, .bool false, .bool false]) ∧ Below w.heap.size w w' := by
  have HR := Aside0.mk hr
  have HS := Aside0.mk hs
  clear hs
  clear hr
  simp only [Rq.c, Ent.c]
  go_enter Tryd.func18, Tryd.ntmps18
  go_wp2
  obtain ⟨W, hW⟩ : ∃ W, W = (((w.alloc (.cells (r.c kv) 27)).alloc (.cells e.c 38)).alloc (.cells A0 32)).alloc (.cells E0 38) := ⟨_, rfl⟩
  obtain ⟨b1, b2, b3, b4, hB⟩ := four w (.cells (r.c kv) 27) (.cells e.c 38) (.cells A0 32) (.cells E0 38)
  change Code.wp _ _ _ _ ((((w.alloc (.cells (r.c kv) 27)).alloc (.cells e.c 38)).alloc (.cells A0 32)).alloc (.cells E0 38))
  rw [← hW] at b1 b2 b3 b4 hB ⊢
  clear hW
  have c60 : W.cell? ⟨w.heap.size + 1, 0, none⟩ = some (.string e.key) := blk_cell b2 0
  have c52 : W.cell? ⟨w.heap.size, 2, none⟩ = some (.int .i64 r.fl) := blk_cell b1 2
  have c53 : W.cell? ⟨w.heap.size, 3, none⟩ = some (.int .i64 r.exp) := blk_cell b1 3
  have c58 : W.cell? ⟨w.heap.size, 8, none⟩ = some (.string r.data) := blk_cell b1 8
  refine Ev.region_ev (Gen W (w.heap.size + 1 + 1 + 1) 38 (freshAt (fresh r e now ver).c)) (by kernel_rfl) (by kernel_rfl) (gen_start b4 (by unfold freshAt; rw [no_bit]; rfl)) ?_
  refine Ev.ev_step (v := .pointer (some ⟨(w.heap.size + 1), 0, none⟩)) rfl rfl (gen_pure (freshAt_other _ (by decide)) (fun _ => by first | rfl | (go_simp; done) | (go_simp; rfl))) ?_
  simp only [Act.put, List.setIfInBounds_toArray, List.set_cons_succ, List.set_cons_zero]
  refine Ev.ev_step (v := .string e.key) rfl rfl (gen_load (freshAt_other _ (by decide)) ⟨(w.heap.size + 1), 0, none⟩ (c60) (show (w.heap.size + 1) ≠ (w.heap.size + 1 + 1 + 1) by omega) (fun w hc => by go_simp)) ?_
  simp only [Act.put, List.setIfInBounds_toArray, List.set_cons_succ, List.set_cons_zero]
  refine Ev.ev_step (v := .pointer (some ⟨w.heap.size, 2, none⟩)) rfl rfl (gen_pure (freshAt_other _ (by decide)) (fun _ => by first | rfl | (go_simp; done) | (go_simp; rfl))) ?_
  simp only [Act.put, List.setIfInBounds_toArray, List.set_cons_succ, List.set_cons_zero]
  refine Ev.ev_step (v := .int .i64 r.fl) rfl rfl (gen_load (freshAt_other _ (by decide)) ⟨w.heap.size, 2, none⟩ (c52) (show w.heap.size ≠ (w.heap.size + 1 + 1 + 1) by omega) (fun w hc => by go_simp)) ?_
  simp only [Act.put, List.setIfInBounds_toArray, List.set_cons_succ, List.set_cons_zero]
  refine Ev.ev_step (v := .pointer (some ⟨w.heap.size, 3, none⟩)) rfl rfl (gen_pure (freshAt_other _ (by decide)) (fun _ => by first | rfl | (go_simp; done) | (go_simp; rfl))) ?_
  simp only [Act.put, List.setIfInBounds_toArray, List.set_cons_succ, List.set_cons_zero]
  refine Ev.ev_step (v := .int .i64 r.exp) rfl rfl (gen_load (freshAt_other _ (by decide)) ⟨w.heap.size, 3, none⟩ (c53) (show w.heap.size ≠ (w.heap.size + 1 + 1 + 1) by omega) (fun w hc => by go_simp)) ?_
  simp only [Act.put, List.setIfInBounds_toArray, List.set_cons_succ, List.set_cons_zero]
  refine Ev.ev_step (v := .int .i64 now) rfl rfl (gen_pure (freshAt_other _ (by decide)) (fun _ => by first | rfl | (go_simp; done) | (go_simp; rfl))) ?_
  simp only [Act.put, List.setIfInBounds_toArray, List.set_cons_succ, List.set_cons_zero]
  refine Ev.ev_step (v := .int .i64 (dead r.exp now)) rfl rfl (gen_call (freshAt_other _ (by decide)) 40 #[.int .i64 r.exp, .int .i64 now] (fun _ => by first | (go_simp; done) | (go_simp; rfl)) (fun w => refDead_calls _ _ w)) ?_
  simp only [Act.put, List.setIfInBounds_toArray, List.set_cons_succ, List.set_cons_zero]
  refine Ev.ev_step (v := .pointer (some ⟨w.heap.size, 8, none⟩)) rfl rfl (gen_pure (freshAt_other _ (by decide)) (fun _ => by first | rfl | (go_simp; done) | (go_simp; rfl))) ?_
  simp only [Act.put, List.setIfInBounds_toArray, List.set_cons_succ, List.set_cons_zero]
  refine Ev.ev_step (v := .string r.data) rfl rfl (gen_load (freshAt_other _ (by decide)) ⟨w.heap.size, 8, none⟩ (c58) (show w.heap.size ≠ (w.heap.size + 1 + 1 + 1) by omega) (fun w hc => by go_simp)) ?_
  simp only [Act.put, List.setIfInBounds_toArray, List.set_cons_succ, List.set_cons_zero]
  refine Ev.ev_step (v := .int .i64 ver) rfl rfl (gen_pure (freshAt_other _ (by decide)) (fun _ => by first | rfl | (go_simp; done) | (go_simp; rfl))) ?_
  simp only [Act.put, List.setIfInBounds_toArray, List.set_cons_succ, List.set_cons_zero]
  refine Ev.ev_step (v := .agg (fresh r e now ver).c) rfl rfl (gen_pure (freshAt_other _ (by decide)) (fun _ => by first | rfl | (go_simp; done) | (go_simp; rfl))) ?_
  simp only [Act.put, List.setIfInBounds_toArray, List.set_cons_succ, List.set_cons_zero]
  refine Ev.ev_step (v := undef) rfl rfl (gen_store (fresh r e now ver).c (fun S h => by unfold freshAt; rw [Ev.set_same h, if_pos rfl]) (fun S => by unfold freshAt; split <;> rfl) 38 (.tmp 11) (.tmp 26) rfl rfl rfl (by kernel_rfl) (ent_one _)) ?_
  simp only [Act.put]
  refine Ev.ev_nil (fun w_e hw_e => ?_)
  have hm := hw_e.mod
  have b4e := hw_e.blk
  rw [show freshAt (fresh r e now ver).c (Array.replicate _ true) = (fresh r e now ver).c by unfold freshAt; rw [all_bit (by decide), if_pos rfl]] at b4e
  clear hw_e c60 c52 c53 c58 b4
  replace b1 := hm.blk b1 (by omega)
  replace b2 := hm.blk b2 (by omega)
  replace b3 := hm.blk b3 (by omega)
  replace hB := hm.after hB hB.size (fun k hk => by omega)
  have b4 := b4e
  clear hm b4e
  have hr := HR.out
  have e3 : (r.verb == 3) = false := by rw [hr]; rfl
  have e4 : (r.verb == 4) = false := by rw [hr]; rfl
  have e5 : (r.verb == 5) = false := by rw [hr]; rfl
  have e6 : (r.verb == 6) = false := by rw [hr]; rfl
  have e7 : (r.verb == 7) = true := by rw [hr]; rfl
  have e8 : (r.verb == 8) = false := by rw [hr]; rfl
  have e9 : (r.verb == 9) = false := by rw [hr]; rfl
  have e10 : (r.verb == 10) = false := by rw [hr]; rfl
  have e11 : (r.verb == 11) = false := by rw [hr]; rfl
  have e12 : (r.verb == 12) = false := by rw [hr]; rfl
  have c50 : w_e.cell? ⟨w.heap.size, 0, none⟩ = some (.int .i64 r.verb) := blk_cell b1 0
  clear hr HR
  have c63 : w_e.cell? ⟨w.heap.size + 1, 3, none⟩ = some (.string e.val) := blk_cell b2 3
  have c58 : w_e.cell? ⟨w.heap.size, 8, none⟩ = some (.string r.data) := blk_cell b1 8
  have hs1 : (1048576 : Int) < (e.val.size : Int) + (r.data.size : Int) := by have := HS.out; omega
  have hs2 : (e.val.size : Int) ≤ 140737488355328 := by have := HS.out; omega
  have hs3 : (r.data.size : Int) ≤ 140737488355328 := by have := HS.out; omega
  go_wp2
  clear e3 e4 e5 e6 e7 e8 e9 e10 e11 e12 c50 c63 c58 hs1 hs2 hs3
  obtain ⟨W2, hW2⟩ : ∃ W2, W2 = w_e := ⟨_, rfl⟩
  rw [← hW2] at b1 b2 b3 b4 hB ⊢
  clear hW2
  refine Ev.region_ev (Ev.Two W2 (w.heap.size + 1 + 1) (w.heap.size + 1 + 1 + 1) 32 38 A0 (ans 14 0 tooLarge) (fresh r e now ver).c (fresh r e now ver).c 2 3) (by kernel_rfl) (by kernel_rfl) (Ev.two_start b3 b4) ?_
  refine Ev.ev_step (v := .agg (ans 14 0 tooLarge)) rfl rfl (Ev.two_pure (by decide) (by decide) (fun _ => by first | (go_simp; done) | (go_simp; rfl))) ?_
  simp only [Act.put, List.setIfInBounds_toArray, List.set_cons_succ, List.set_cons_zero]
  refine Ev.ev_step (v := .agg (fresh r e now ver).c) rfl rfl (Ev.two_load2 (by decide) (by decide) 38 (.tmp 11) rfl rfl _ rfl Tryd.underlying38 rfl (by kernel_rfl)) ?_
  simp only [Act.put, List.setIfInBounds_toArray, List.set_cons_succ, List.set_cons_zero]
  refine Ev.ev_step (v := undef) rfl rfl (Ev.two_store1 (by decide) (by omega) 32 (.tmp 10) (.tmp 60) rfl rfl rfl rfl (by kernel_rfl) (ans_one _ _ _)) ?_
  simp only [Act.put]
  refine Ev.ev_step (v := undef) rfl rfl (Ev.two_store2 (by decide) (by omega) 38 (.tmp 11) (.tmp 61) rfl rfl rfl rfl (by kernel_rfl) (ent_one _)) ?_
  simp only [Act.put]
  refine Ev.ev_step (v := .bool false) rfl rfl (Ev.two_pure (by decide) (by decide) (fun _ => by rfl)) ?_
  simp only [Act.put, List.setIfInBounds_toArray, List.set_cons_succ, List.set_cons_zero]
  refine Ev.ev_step (v := .bool false) rfl rfl (Ev.two_pure (by decide) (by decide) (fun _ => by rfl)) ?_
  simp only [Act.put, List.setIfInBounds_toArray, List.set_cons_succ, List.set_cons_zero]
  refine Ev.ev_nil (fun w_e hw_e => ?_)
  obtain ⟨hM_e, hA_e, hX_e⟩ := Ev.two_end hw_e (by decide) (by decide)
  clear hw_e
  go_wp2
  refine bodyPost_ret (Ev.results_c3 rfl rfl hA_e Tryd.underlying32 rfl (by kernel_rfl) rfl hX_e Tryd.underlying38 rfl (by kernel_rfl) rfl rfl) rfl ⟨rfl, ?_⟩
  exact Mod.after hB hB.size hM_e (fun k hk => by omega)
set_option maxHeartbeats 4000000 in
set_option maxRecDepth 100000 in
theorem rnext_app (r : Rq) (kv : Value) (e : Ent) (now ver : Int) (w : World) (hs : e.val.size + r.data.size ≤ 1048576) (hr : r.verb = 6) :
    Calls Tryd.prog 18 #[.agg (r.c kv), .agg e.c, .bool true, .int .i64 now, .int .i64 ver] w fun e_ w' => e_ = .returned (.tuple #[.agg (ans 2 0 ⟨#[]⟩), .agg (Ent.c { e with val := e.val ++ r.data, cas := ver }), .bool true, .bool false]) ∧ Below w.heap.size w w' := by
  have HR := Aside0.mk hr
  have HS := Aside0.mk hs
  clear hs
  clear hr
  simp only [Rq.c, Ent.c]
  go_enter Tryd.func18, Tryd.ntmps18
  go_wp2
  obtain ⟨W, hW⟩ : ∃ W, W = (((w.alloc (.cells (r.c kv) 27)).alloc (.cells e.c 38)).alloc (.cells A0 32)).alloc (.cells E0 38) := ⟨_, rfl⟩
  obtain ⟨b1, b2, b3, b4, hB⟩ := four w (.cells (r.c kv) 27) (.cells e.c 38) (.cells A0 32) (.cells E0 38)
  change Code.wp _ _ _ _ ((((w.alloc (.cells (r.c kv) 27)).alloc (.cells e.c 38)).alloc (.cells A0 32)).alloc (.cells E0 38))
  rw [← hW] at b1 b2 b3 b4 hB ⊢
  clear hW
  have c60 : W.cell? ⟨w.heap.size + 1, 0, none⟩ = some (.string e.key) := blk_cell b2 0
  have c52 : W.cell? ⟨w.heap.size, 2, none⟩ = some (.int .i64 r.fl) := blk_cell b1 2
  have c53 : W.cell? ⟨w.heap.size, 3, none⟩ = some (.int .i64 r.exp) := blk_cell b1 3
  have c58 : W.cell? ⟨w.heap.size, 8, none⟩ = some (.string r.data) := blk_cell b1 8
  refine Ev.region_ev (Gen W (w.heap.size + 1 + 1 + 1) 38 (freshAt (fresh r e now ver).c)) (by kernel_rfl) (by kernel_rfl) (gen_start b4 (by unfold freshAt; rw [no_bit]; rfl)) ?_
  refine Ev.ev_step (v := .pointer (some ⟨(w.heap.size + 1), 0, none⟩)) rfl rfl (gen_pure (freshAt_other _ (by decide)) (fun _ => by first | rfl | (go_simp; done) | (go_simp; rfl))) ?_
  simp only [Act.put, List.setIfInBounds_toArray, List.set_cons_succ, List.set_cons_zero]
  refine Ev.ev_step (v := .string e.key) rfl rfl (gen_load (freshAt_other _ (by decide)) ⟨(w.heap.size + 1), 0, none⟩ (c60) (show (w.heap.size + 1) ≠ (w.heap.size + 1 + 1 + 1) by omega) (fun w hc => by go_simp)) ?_
  simp only [Act.put, List.setIfInBounds_toArray, List.set_cons_succ, List.set_cons_zero]
  refine Ev.ev_step (v := .pointer (some ⟨w.heap.size, 2, none⟩)) rfl rfl (gen_pure (freshAt_other _ (by decide)) (fun _ => by first | rfl | (go_simp; done) | (go_simp; rfl))) ?_
  simp only [Act.put, List.setIfInBounds_toArray, List.set_cons_succ, List.set_cons_zero]
  refine Ev.ev_step (v := .int .i64 r.fl) rfl rfl (gen_load (freshAt_other _ (by decide)) ⟨w.heap.size, 2, none⟩ (c52) (show w.heap.size ≠ (w.heap.size + 1 + 1 + 1) by omega) (fun w hc => by go_simp)) ?_
  simp only [Act.put, List.setIfInBounds_toArray, List.set_cons_succ, List.set_cons_zero]
  refine Ev.ev_step (v := .pointer (some ⟨w.heap.size, 3, none⟩)) rfl rfl (gen_pure (freshAt_other _ (by decide)) (fun _ => by first | rfl | (go_simp; done) | (go_simp; rfl))) ?_
  simp only [Act.put, List.setIfInBounds_toArray, List.set_cons_succ, List.set_cons_zero]
  refine Ev.ev_step (v := .int .i64 r.exp) rfl rfl (gen_load (freshAt_other _ (by decide)) ⟨w.heap.size, 3, none⟩ (c53) (show w.heap.size ≠ (w.heap.size + 1 + 1 + 1) by omega) (fun w hc => by go_simp)) ?_
  simp only [Act.put, List.setIfInBounds_toArray, List.set_cons_succ, List.set_cons_zero]
  refine Ev.ev_step (v := .int .i64 now) rfl rfl (gen_pure (freshAt_other _ (by decide)) (fun _ => by first | rfl | (go_simp; done) | (go_simp; rfl))) ?_
  simp only [Act.put, List.setIfInBounds_toArray, List.set_cons_succ, List.set_cons_zero]
  refine Ev.ev_step (v := .int .i64 (dead r.exp now)) rfl rfl (gen_call (freshAt_other _ (by decide)) 40 #[.int .i64 r.exp, .int .i64 now] (fun _ => by first | (go_simp; done) | (go_simp; rfl)) (fun w => refDead_calls _ _ w)) ?_
  simp only [Act.put, List.setIfInBounds_toArray, List.set_cons_succ, List.set_cons_zero]
  refine Ev.ev_step (v := .pointer (some ⟨w.heap.size, 8, none⟩)) rfl rfl (gen_pure (freshAt_other _ (by decide)) (fun _ => by first | rfl | (go_simp; done) | (go_simp; rfl))) ?_
  simp only [Act.put, List.setIfInBounds_toArray, List.set_cons_succ, List.set_cons_zero]
  refine Ev.ev_step (v := .string r.data) rfl rfl (gen_load (freshAt_other _ (by decide)) ⟨w.heap.size, 8, none⟩ (c58) (show w.heap.size ≠ (w.heap.size + 1 + 1 + 1) by omega) (fun w hc => by go_simp)) ?_
  simp only [Act.put, List.setIfInBounds_toArray, List.set_cons_succ, List.set_cons_zero]
  refine Ev.ev_step (v := .int .i64 ver) rfl rfl (gen_pure (freshAt_other _ (by decide)) (fun _ => by first | rfl | (go_simp; done) | (go_simp; rfl))) ?_
  simp only [Act.put, List.setIfInBounds_toArray, List.set_cons_succ, List.set_cons_zero]
  refine Ev.ev_step (v := .agg (fresh r e now ver).c) rfl rfl (gen_pure (freshAt_other _ (by decide)) (fun _ => by first | rfl | (go_simp; done) | (go_simp; rfl))) ?_
  simp only [Act.put, List.setIfInBounds_toArray, List.set_cons_succ, List.set_cons_zero]
  refine Ev.ev_step (v := undef) rfl rfl (gen_store (fresh r e now ver).c (fun S h => by unfold freshAt; rw [Ev.set_same h, if_pos rfl]) (fun S => by unfold freshAt; split <;> rfl) 38 (.tmp 11) (.tmp 26) rfl rfl rfl (by kernel_rfl) (ent_one _)) ?_
  simp only [Act.put]
  refine Ev.ev_nil (fun w_e hw_e => ?_)
  have hm := hw_e.mod
  have b4e := hw_e.blk
  rw [show freshAt (fresh r e now ver).c (Array.replicate _ true) = (fresh r e now ver).c by unfold freshAt; rw [all_bit (by decide), if_pos rfl]] at b4e
  clear hw_e c60 c52 c53 c58 b4
  replace b1 := hm.blk b1 (by omega)
  replace b2 := hm.blk b2 (by omega)
  replace b3 := hm.blk b3 (by omega)
  replace hB := hm.after hB hB.size (fun k hk => by omega)
  have b4 := b4e
  clear hm b4e
  have hr := HR.out
  have e3 : (r.verb == 3) = false := by rw [hr]; rfl
  have e4 : (r.verb == 4) = false := by rw [hr]; rfl
  have e5 : (r.verb == 5) = false := by rw [hr]; rfl
  have e6 : (r.verb == 6) = true := by rw [hr]; rfl
  have e7 : (r.verb == 7) = false := by rw [hr]; rfl
  have e8 : (r.verb == 8) = false := by rw [hr]; rfl
  have e9 : (r.verb == 9) = false := by rw [hr]; rfl
  have e10 : (r.verb == 10) = false := by rw [hr]; rfl
  have e11 : (r.verb == 11) = false := by rw [hr]; rfl
  have e12 : (r.verb == 12) = false := by rw [hr]; rfl
  have c50 : w_e.cell? ⟨w.heap.size, 0, none⟩ = some (.int .i64 r.verb) := blk_cell b1 0
  clear hr HR
  have c63 : w_e.cell? ⟨w.heap.size + 1, 3, none⟩ = some (.string e.val) := blk_cell b2 3
  have c58 : w_e.cell? ⟨w.heap.size, 8, none⟩ = some (.string r.data) := blk_cell b1 8
  have hs1 : (e.val.size : Int) + (r.data.size : Int) ≤ 1048576 := by have := HS.out; omega
  have hs2 : (e.val.size : Int) ≤ 140737488355328 := by have := HS.out; omega
  have hs3 : (r.data.size : Int) ≤ 140737488355328 := by have := HS.out; omega
  have B1 := Aside0.mk b1
  have B2 := Aside0.mk b2
  have B3 := Aside0.mk b3
  have B4 := Aside0.mk b4
  have HB := Aside0.mk hB
  clear b1 b2 b3 b4 hB
  go_wp2_with (first | (refine gate_ (.load 38 (.tmp 6)) rfl ?_; refine ev_load_row (.load 38 (.tmp 6)) rfl rfl 38 (.tmp 6) rfl (w.heap.size + 1) rfl 38 e.c _ B2.out Tryd.underlying38 rfl (by kernel_rfl) ?_) | (refine gate_ (.store 38 (.tmp 11) (.tmp 62)) rfl ?_; refine ev_store_row (.store 38 (.tmp 11) (.tmp 62)) rfl rfl rfl 38 (.tmp 11) (.tmp 62) rfl (w.heap.size + 1 + 1 + 1) e.c rfl rfl 38 (fresh r e now ver).c B4.out (by kernel_rfl) rfl (ent_one _) ?_; intro w_2 hw2 hm2; have B1n := Aside0.mk (hm2.blk B1.out (by omega)); have B2n := Aside0.mk (hm2.blk B2.out (by omega)); have B3n := Aside0.mk (hm2.blk B3.out (by omega)); have HBn := Aside0.mk (hm2.after HB.out HB.out.size (fun k hk => by omega)); have B4n := Aside0.mk hw2; clear B1 B2 B3 B4 HB hw2 hm2; have B1 := B1n; have B2 := B2n; have B3 := B3n; have B4 := B4n; have HB := HBn; clear B1n B2n B3n B4n HBn))
  clear c50 c63 c58
  have b1 := B1.out
  have b2 := B2.out
  have b3 := B3.out
  have b4 := B4.out
  have hB := HB.out
  clear B1 B2 B3 B4 HB
  refine Ev.region_ev (Gen w_2 (w.heap.size + 1 + 1 + 1) 38 (joinAt r e ver)) (by kernel_rfl) (by kernel_rfl) (gen_start b4 (by unfold joinAt; rw [no_bit, no_bit]; rfl)) ?_
  refine Ev.ev_step (v := .int .i64 ver) rfl rfl (gen_pure (joinAt_other r e ver (by decide) (by decide)) (fun _ => by first | rfl | (go_simp; done) | (go_simp; rfl))) ?_
  simp only [Act.put, List.setIfInBounds_toArray, List.set_cons_succ, List.set_cons_zero]
  refine Ev.ev_step (v := .pointer (some ⟨(w.heap.size + 1), 3, none⟩)) rfl rfl (gen_pure (joinAt_other r e ver (by decide) (by decide)) (fun _ => by first | rfl | (go_simp; done) | (go_simp; rfl))) ?_
  simp only [Act.put, List.setIfInBounds_toArray, List.set_cons_succ, List.set_cons_zero]
  refine Ev.ev_step (v := .string e.val) rfl rfl (gen_load (joinAt_other r e ver (by decide) (by decide)) ⟨(w.heap.size + 1), 3, none⟩ (blk_cell b2 3) (show (w.heap.size + 1) ≠ (w.heap.size + 1 + 1 + 1) by omega) (fun w hc => by go_simp)) ?_
  simp only [Act.put, List.setIfInBounds_toArray, List.set_cons_succ, List.set_cons_zero]
  refine Ev.ev_step (v := .pointer (some ⟨w.heap.size, 8, none⟩)) rfl rfl (gen_pure (joinAt_other r e ver (by decide) (by decide)) (fun _ => by first | rfl | (go_simp; done) | (go_simp; rfl))) ?_
  simp only [Act.put, List.setIfInBounds_toArray, List.set_cons_succ, List.set_cons_zero]
  refine Ev.ev_step (v := .string r.data) rfl rfl (gen_load (joinAt_other r e ver (by decide) (by decide)) ⟨w.heap.size, 8, none⟩ (blk_cell b1 8) (show w.heap.size ≠ (w.heap.size + 1 + 1 + 1) by omega) (fun w hc => by go_simp)) ?_
  simp only [Act.put, List.setIfInBounds_toArray, List.set_cons_succ, List.set_cons_zero]
  refine Ev.ev_step (v := .string (e.val ++ r.data)) rfl rfl (gen_pure (joinAt_other r e ver (by decide) (by decide)) (fun _ => by first | (go_simp; omega) | (go_simp; done))) ?_
  simp only [Act.put, List.setIfInBounds_toArray, List.set_cons_succ, List.set_cons_zero]
  refine Ev.ev_step (v := .pointer (some ⟨(w.heap.size + 1 + 1 + 1), 4, none⟩)) rfl rfl (gen_pure (joinAt_other r e ver (by decide) (by decide)) (fun _ => by first | rfl | (go_simp; done) | (go_simp; rfl))) ?_
  simp only [Act.put, List.setIfInBounds_toArray, List.set_cons_succ, List.set_cons_zero]
  refine Ev.ev_step (v := undef) rfl rfl (gen_cell 4 (.int .i64 ver) (.int .i64 e.cas) (joinAt_h7 r e ver) (joinAt_s7 r e ver) (fun w hc hf => by first | (left; go_simp; done) | (right; go_simp; done))) ?_
  simp only [Act.put]
  refine Ev.ev_step (v := .pointer (some ⟨(w.heap.size + 1 + 1 + 1), 3, none⟩)) rfl rfl (gen_pure (joinAt_other r e ver (by decide) (by decide)) (fun _ => by first | rfl | (go_simp; done) | (go_simp; rfl))) ?_
  simp only [Act.put, List.setIfInBounds_toArray, List.set_cons_succ, List.set_cons_zero]
  refine Ev.ev_step (v := undef) rfl rfl (gen_cell 3 (.string (e.val ++ r.data)) (.string e.val) (joinAt_h9 r e ver) (joinAt_s9 r e ver) (fun w hc hf => by first | (left; go_simp; done) | (right; go_simp; done))) ?_
  simp only [Act.put]
  refine Ev.ev_nil (fun w_f hw_f => ?_)
  have hm := hw_f.mod
  have b4e := hw_f.blk
  rw [show joinAt r e ver (Array.replicate _ true) = (Ent.c { e with val := e.val ++ r.data, cas := ver }) by unfold joinAt; rw [all_bit (by decide), all_bit (by decide), if_pos rfl, if_pos rfl]; rfl] at b4e
  clear hw_f b4
  replace b1 := hm.blk b1 (by omega)
  replace b2 := hm.blk b2 (by omega)
  replace b3 := hm.blk b3 (by omega)
  replace hB := hm.after hB hB.size (fun k hk => by omega)
  have b4 := b4e
  clear hm b4e
  have c50 : w_f.cell? ⟨w.heap.size, 0, none⟩ = some (.int .i64 r.verb) := blk_cell b1 0
  go_wp2
  clear e3 e4 e5 e6 e7 e8 e9 e10 e11 e12 c50 hs1 hs2 hs3
  obtain ⟨W2, hW2⟩ : ∃ W2, W2 = w_f := ⟨_, rfl⟩
  rw [← hW2] at b1 b2 b3 b4 hB ⊢
  clear hW2
  refine Ev.region_ev (Ev.Two W2 (w.heap.size + 1 + 1) (w.heap.size + 1 + 1 + 1) 32 38 A0 (ans 2 0 ⟨#[]⟩) (Ent.c { e with val := e.val ++ r.data, cas := ver }) (Ent.c { e with val := e.val ++ r.data, cas := ver }) 2 3) (by kernel_rfl) (by kernel_rfl) (Ev.two_start b3 b4) ?_
  refine Ev.ev_step (v := .agg (ans 2 0 ⟨#[]⟩)) rfl rfl (Ev.two_call (by decide) (by decide) 41 #[.int .i64 2] (fun _ => by first | (go_simp; done) | (go_simp; rfl)) (fun w => refSay_calls 2 w)) ?_
  simp only [Act.put, List.setIfInBounds_toArray, List.set_cons_succ, List.set_cons_zero]
  refine Ev.ev_step (v := .agg (Ent.c { e with val := e.val ++ r.data, cas := ver })) rfl rfl (Ev.two_load2 (by decide) (by decide) 38 (.tmp 11) rfl rfl _ rfl Tryd.underlying38 rfl (by kernel_rfl)) ?_
  simp only [Act.put, List.setIfInBounds_toArray, List.set_cons_succ, List.set_cons_zero]
  refine Ev.ev_step (v := undef) rfl rfl (Ev.two_store1 (by decide) (by omega) 32 (.tmp 10) (.tmp 80) rfl rfl rfl rfl (by kernel_rfl) (ans_one _ _ _)) ?_
  simp only [Act.put]
  refine Ev.ev_step (v := undef) rfl rfl (Ev.two_store2 (by decide) (by omega) 38 (.tmp 11) (.tmp 81) rfl rfl rfl rfl (by kernel_rfl) (ent_one _)) ?_
  simp only [Act.put]
  refine Ev.ev_step (v := .bool true) rfl rfl (Ev.two_pure (by decide) (by decide) (fun _ => by rfl)) ?_
  simp only [Act.put, List.setIfInBounds_toArray, List.set_cons_succ, List.set_cons_zero]
  refine Ev.ev_step (v := .bool false) rfl rfl (Ev.two_pure (by decide) (by decide) (fun _ => by rfl)) ?_
  simp only [Act.put, List.setIfInBounds_toArray, List.set_cons_succ, List.set_cons_zero]
  refine Ev.ev_nil (fun w_e hw_e => ?_)
  obtain ⟨hM_e, hA_e, hX_e⟩ := Ev.two_end hw_e (by decide) (by decide)
  clear hw_e
  go_wp2
  refine bodyPost_ret (Ev.results_c3 rfl rfl hA_e Tryd.underlying32 rfl (by kernel_rfl) rfl hX_e Tryd.underlying38 rfl (by kernel_rfl) rfl rfl) rfl ⟨rfl, ?_⟩
  exact Mod.after hB hB.size hM_e (fun k hk => by omega)
set_option maxHeartbeats 4000000 in
set_option maxRecDepth 100000 in
theorem rnext_pre (r : Rq) (kv : Value) (e : Ent) (now ver : Int) (w : World) (hs : e.val.size + r.data.size ≤ 1048576) (hr : r.verb = 7) :
    Calls Tryd.prog 18 #[.agg (r.c kv), .agg e.c, .bool true, .int .i64 now, .int .i64 ver] w fun e_ w' => e_ = .returned (.tuple #[.agg (ans 2 0 ⟨#[]⟩), .agg (Ent.c { e with val := r.data ++ e.val, cas := ver }), .bool true, .bool false]) ∧ Below w.heap.size w w' := by
  have HR := Aside0.mk hr
  have HS := Aside0.mk hs
  clear hs
  clear hr
  simp only [Rq.c, Ent.c]
  go_enter Tryd.func18, Tryd.ntmps18
  go_wp2
  obtain ⟨W, hW⟩ : ∃ W, W = (((w.alloc (.cells (r.c kv) 27)).alloc (.cells e.c 38)).alloc (.cells A0 32)).alloc (.cells E0 38) := ⟨_, rfl⟩
  obtain ⟨b1, b2, b3, b4, hB⟩ := four w (.cells (r.c kv) 27) (.cells e.c 38) (.cells A0 32) (.cells E0 38)
  change Code.wp _ _ _ _ ((((w.alloc (.cells (r.c kv) 27)).alloc (.cells e.c 38)).alloc (.cells A0 32)).alloc (.cells E0 38))
  rw [← hW] at b1 b2 b3 b4 hB ⊢
  clear hW
  have c60 : W.cell? ⟨w.heap.size + 1, 0, none⟩ = some (.string e.key) := blk_cell b2 0
  have c52 : W.cell? ⟨w.heap.size, 2, none⟩ = some (.int .i64 r.fl) := blk_cell b1 2
  have c53 : W.cell? ⟨w.heap.size, 3, none⟩ = some (.int .i64 r.exp) := blk_cell b1 3
  have c58 : W.cell? ⟨w.heap.size, 8, none⟩ = some (.string r.data) := blk_cell b1 8
  refine Ev.region_ev (Gen W (w.heap.size + 1 + 1 + 1) 38 (freshAt (fresh r e now ver).c)) (by kernel_rfl) (by kernel_rfl) (gen_start b4 (by unfold freshAt; rw [no_bit]; rfl)) ?_
  refine Ev.ev_step (v := .pointer (some ⟨(w.heap.size + 1), 0, none⟩)) rfl rfl (gen_pure (freshAt_other _ (by decide)) (fun _ => by first | rfl | (go_simp; done) | (go_simp; rfl))) ?_
  simp only [Act.put, List.setIfInBounds_toArray, List.set_cons_succ, List.set_cons_zero]
  refine Ev.ev_step (v := .string e.key) rfl rfl (gen_load (freshAt_other _ (by decide)) ⟨(w.heap.size + 1), 0, none⟩ (c60) (show (w.heap.size + 1) ≠ (w.heap.size + 1 + 1 + 1) by omega) (fun w hc => by go_simp)) ?_
  simp only [Act.put, List.setIfInBounds_toArray, List.set_cons_succ, List.set_cons_zero]
  refine Ev.ev_step (v := .pointer (some ⟨w.heap.size, 2, none⟩)) rfl rfl (gen_pure (freshAt_other _ (by decide)) (fun _ => by first | rfl | (go_simp; done) | (go_simp; rfl))) ?_
  simp only [Act.put, List.setIfInBounds_toArray, List.set_cons_succ, List.set_cons_zero]
  refine Ev.ev_step (v := .int .i64 r.fl) rfl rfl (gen_load (freshAt_other _ (by decide)) ⟨w.heap.size, 2, none⟩ (c52) (show w.heap.size ≠ (w.heap.size + 1 + 1 + 1) by omega) (fun w hc => by go_simp)) ?_
  simp only [Act.put, List.setIfInBounds_toArray, List.set_cons_succ, List.set_cons_zero]
  refine Ev.ev_step (v := .pointer (some ⟨w.heap.size, 3, none⟩)) rfl rfl (gen_pure (freshAt_other _ (by decide)) (fun _ => by first | rfl | (go_simp; done) | (go_simp; rfl))) ?_
  simp only [Act.put, List.setIfInBounds_toArray, List.set_cons_succ, List.set_cons_zero]
  refine Ev.ev_step (v := .int .i64 r.exp) rfl rfl (gen_load (freshAt_other _ (by decide)) ⟨w.heap.size, 3, none⟩ (c53) (show w.heap.size ≠ (w.heap.size + 1 + 1 + 1) by omega) (fun w hc => by go_simp)) ?_
  simp only [Act.put, List.setIfInBounds_toArray, List.set_cons_succ, List.set_cons_zero]
  refine Ev.ev_step (v := .int .i64 now) rfl rfl (gen_pure (freshAt_other _ (by decide)) (fun _ => by first | rfl | (go_simp; done) | (go_simp; rfl))) ?_
  simp only [Act.put, List.setIfInBounds_toArray, List.set_cons_succ, List.set_cons_zero]
  refine Ev.ev_step (v := .int .i64 (dead r.exp now)) rfl rfl (gen_call (freshAt_other _ (by decide)) 40 #[.int .i64 r.exp, .int .i64 now] (fun _ => by first | (go_simp; done) | (go_simp; rfl)) (fun w => refDead_calls _ _ w)) ?_
  simp only [Act.put, List.setIfInBounds_toArray, List.set_cons_succ, List.set_cons_zero]
  refine Ev.ev_step (v := .pointer (some ⟨w.heap.size, 8, none⟩)) rfl rfl (gen_pure (freshAt_other _ (by decide)) (fun _ => by first | rfl | (go_simp; done) | (go_simp; rfl))) ?_
  simp only [Act.put, List.setIfInBounds_toArray, List.set_cons_succ, List.set_cons_zero]
  refine Ev.ev_step (v := .string r.data) rfl rfl (gen_load (freshAt_other _ (by decide)) ⟨w.heap.size, 8, none⟩ (c58) (show w.heap.size ≠ (w.heap.size + 1 + 1 + 1) by omega) (fun w hc => by go_simp)) ?_
  simp only [Act.put, List.setIfInBounds_toArray, List.set_cons_succ, List.set_cons_zero]
  refine Ev.ev_step (v := .int .i64 ver) rfl rfl (gen_pure (freshAt_other _ (by decide)) (fun _ => by first | rfl | (go_simp; done) | (go_simp; rfl))) ?_
  simp only [Act.put, List.setIfInBounds_toArray, List.set_cons_succ, List.set_cons_zero]
  refine Ev.ev_step (v := .agg (fresh r e now ver).c) rfl rfl (gen_pure (freshAt_other _ (by decide)) (fun _ => by first | rfl | (go_simp; done) | (go_simp; rfl))) ?_
  simp only [Act.put, List.setIfInBounds_toArray, List.set_cons_succ, List.set_cons_zero]
  refine Ev.ev_step (v := undef) rfl rfl (gen_store (fresh r e now ver).c (fun S h => by unfold freshAt; rw [Ev.set_same h, if_pos rfl]) (fun S => by unfold freshAt; split <;> rfl) 38 (.tmp 11) (.tmp 26) rfl rfl rfl (by kernel_rfl) (ent_one _)) ?_
  simp only [Act.put]
  refine Ev.ev_nil (fun w_e hw_e => ?_)
  have hm := hw_e.mod
  have b4e := hw_e.blk
  rw [show freshAt (fresh r e now ver).c (Array.replicate _ true) = (fresh r e now ver).c by unfold freshAt; rw [all_bit (by decide), if_pos rfl]] at b4e
  clear hw_e c60 c52 c53 c58 b4
  replace b1 := hm.blk b1 (by omega)
  replace b2 := hm.blk b2 (by omega)
  replace b3 := hm.blk b3 (by omega)
  replace hB := hm.after hB hB.size (fun k hk => by omega)
  have b4 := b4e
  clear hm b4e
  have hr := HR.out
  have e3 : (r.verb == 3) = false := by rw [hr]; rfl
  have e4 : (r.verb == 4) = false := by rw [hr]; rfl
  have e5 : (r.verb == 5) = false := by rw [hr]; rfl
  have e6 : (r.verb == 6) = false := by rw [hr]; rfl
  have e7 : (r.verb == 7) = true := by rw [hr]; rfl
  have e8 : (r.verb == 8) = false := by rw [hr]; rfl
  have e9 : (r.verb == 9) = false := by rw [hr]; rfl
  have e10 : (r.verb == 10) = false := by rw [hr]; rfl
  have e11 : (r.verb == 11) = false := by rw [hr]; rfl
  have e12 : (r.verb == 12) = false := by rw [hr]; rfl
  have c50 : w_e.cell? ⟨w.heap.size, 0, none⟩ = some (.int .i64 r.verb) := blk_cell b1 0
  clear hr HR
  have c63 : w_e.cell? ⟨w.heap.size + 1, 3, none⟩ = some (.string e.val) := blk_cell b2 3
  have c58 : w_e.cell? ⟨w.heap.size, 8, none⟩ = some (.string r.data) := blk_cell b1 8
  have hs1 : (e.val.size : Int) + (r.data.size : Int) ≤ 1048576 := by have := HS.out; omega
  have hs2 : (e.val.size : Int) ≤ 140737488355328 := by have := HS.out; omega
  have hs3 : (r.data.size : Int) ≤ 140737488355328 := by have := HS.out; omega
  have B1 := Aside0.mk b1
  have B2 := Aside0.mk b2
  have B3 := Aside0.mk b3
  have B4 := Aside0.mk b4
  have HB := Aside0.mk hB
  clear b1 b2 b3 b4 hB
  go_wp2_with (first | (refine gate_ (.load 38 (.tmp 6)) rfl ?_; refine ev_load_row (.load 38 (.tmp 6)) rfl rfl 38 (.tmp 6) rfl (w.heap.size + 1) rfl 38 e.c _ B2.out Tryd.underlying38 rfl (by kernel_rfl) ?_) | (refine gate_ (.store 38 (.tmp 11) (.tmp 62)) rfl ?_; refine ev_store_row (.store 38 (.tmp 11) (.tmp 62)) rfl rfl rfl 38 (.tmp 11) (.tmp 62) rfl (w.heap.size + 1 + 1 + 1) e.c rfl rfl 38 (fresh r e now ver).c B4.out (by kernel_rfl) rfl (ent_one _) ?_; intro w_2 hw2 hm2; have B1n := Aside0.mk (hm2.blk B1.out (by omega)); have B2n := Aside0.mk (hm2.blk B2.out (by omega)); have B3n := Aside0.mk (hm2.blk B3.out (by omega)); have HBn := Aside0.mk (hm2.after HB.out HB.out.size (fun k hk => by omega)); have B4n := Aside0.mk hw2; clear B1 B2 B3 B4 HB hw2 hm2; have B1 := B1n; have B2 := B2n; have B3 := B3n; have B4 := B4n; have HB := HBn; clear B1n B2n B3n B4n HBn))
  clear c50 c63 c58
  have b1 := B1.out
  have b2 := B2.out
  have b3 := B3.out
  have b4 := B4.out
  have hB := HB.out
  clear B1 B2 B3 B4 HB
  refine Ev.region_ev (Gen w_2 (w.heap.size + 1 + 1 + 1) 38 (joinAt r e ver)) (by kernel_rfl) (by kernel_rfl) (gen_start b4 (by unfold joinAt; rw [no_bit, no_bit]; rfl)) ?_
  refine Ev.ev_step (v := .int .i64 ver) rfl rfl (gen_pure (joinAt_other r e ver (by decide) (by decide)) (fun _ => by first | rfl | (go_simp; done) | (go_simp; rfl))) ?_
  simp only [Act.put, List.setIfInBounds_toArray, List.set_cons_succ, List.set_cons_zero]
  refine Ev.ev_step (v := .pointer (some ⟨(w.heap.size + 1), 3, none⟩)) rfl rfl (gen_pure (joinAt_other r e ver (by decide) (by decide)) (fun _ => by first | rfl | (go_simp; done) | (go_simp; rfl))) ?_
  simp only [Act.put, List.setIfInBounds_toArray, List.set_cons_succ, List.set_cons_zero]
  refine Ev.ev_step (v := .string e.val) rfl rfl (gen_load (joinAt_other r e ver (by decide) (by decide)) ⟨(w.heap.size + 1), 3, none⟩ (blk_cell b2 3) (show (w.heap.size + 1) ≠ (w.heap.size + 1 + 1 + 1) by omega) (fun w hc => by go_simp)) ?_
  simp only [Act.put, List.setIfInBounds_toArray, List.set_cons_succ, List.set_cons_zero]
  refine Ev.ev_step (v := .pointer (some ⟨w.heap.size, 8, none⟩)) rfl rfl (gen_pure (joinAt_other r e ver (by decide) (by decide)) (fun _ => by first | rfl | (go_simp; done) | (go_simp; rfl))) ?_
  simp only [Act.put, List.setIfInBounds_toArray, List.set_cons_succ, List.set_cons_zero]
  refine Ev.ev_step (v := .string r.data) rfl rfl (gen_load (joinAt_other r e ver (by decide) (by decide)) ⟨w.heap.size, 8, none⟩ (blk_cell b1 8) (show w.heap.size ≠ (w.heap.size + 1 + 1 + 1) by omega) (fun w hc => by go_simp)) ?_
  simp only [Act.put, List.setIfInBounds_toArray, List.set_cons_succ, List.set_cons_zero]
  refine Ev.ev_step (v := .string (e.val ++ r.data)) rfl rfl (gen_pure (joinAt_other r e ver (by decide) (by decide)) (fun _ => by first | (go_simp; omega) | (go_simp; done))) ?_
  simp only [Act.put, List.setIfInBounds_toArray, List.set_cons_succ, List.set_cons_zero]
  refine Ev.ev_step (v := .pointer (some ⟨(w.heap.size + 1 + 1 + 1), 4, none⟩)) rfl rfl (gen_pure (joinAt_other r e ver (by decide) (by decide)) (fun _ => by first | rfl | (go_simp; done) | (go_simp; rfl))) ?_
  simp only [Act.put, List.setIfInBounds_toArray, List.set_cons_succ, List.set_cons_zero]
  refine Ev.ev_step (v := undef) rfl rfl (gen_cell 4 (.int .i64 ver) (.int .i64 e.cas) (joinAt_h7 r e ver) (joinAt_s7 r e ver) (fun w hc hf => by first | (left; go_simp; done) | (right; go_simp; done))) ?_
  simp only [Act.put]
  refine Ev.ev_step (v := .pointer (some ⟨(w.heap.size + 1 + 1 + 1), 3, none⟩)) rfl rfl (gen_pure (joinAt_other r e ver (by decide) (by decide)) (fun _ => by first | rfl | (go_simp; done) | (go_simp; rfl))) ?_
  simp only [Act.put, List.setIfInBounds_toArray, List.set_cons_succ, List.set_cons_zero]
  refine Ev.ev_step (v := undef) rfl rfl (gen_cell 3 (.string (e.val ++ r.data)) (.string e.val) (joinAt_h9 r e ver) (joinAt_s9 r e ver) (fun w hc hf => by first | (left; go_simp; done) | (right; go_simp; done))) ?_
  simp only [Act.put]
  refine Ev.ev_nil (fun w_f hw_f => ?_)
  have hm := hw_f.mod
  have b4e := hw_f.blk
  rw [show joinAt r e ver (Array.replicate _ true) = (Ent.c { e with val := e.val ++ r.data, cas := ver }) by unfold joinAt; rw [all_bit (by decide), all_bit (by decide), if_pos rfl, if_pos rfl]; rfl] at b4e
  clear hw_f b4
  replace b1 := hm.blk b1 (by omega)
  replace b2 := hm.blk b2 (by omega)
  replace b3 := hm.blk b3 (by omega)
  replace hB := hm.after hB hB.size (fun k hk => by omega)
  have b4 := b4e
  clear hm b4e
  have c50 : w_f.cell? ⟨w.heap.size, 0, none⟩ = some (.int .i64 r.verb) := blk_cell b1 0
  have c63 : w_f.cell? ⟨w.heap.size + 1, 3, none⟩ = some (.string e.val) := blk_cell b2 3
  have c58 : w_f.cell? ⟨w.heap.size, 8, none⟩ = some (.string r.data) := blk_cell b1 8
  have c_3 : w_f.cell? ⟨w.heap.size + 1 + 1 + 1, 3, none⟩ = some (.string (e.val ++ r.data)) := blk_cell b4 3
  have f_3 : w_f.frozen? ⟨w.heap.size + 1 + 1 + 1, 3, none⟩ = false := blk_frozen b4 3
  go_wp2
  clear e3 e4 e5 e6 e7 e8 e9 e10 e11 e12 c50 c63 c58 c_3 f_3 hs1 hs2 hs3
  obtain ⟨W2, hW2⟩ : ∃ W2, W2 = w_f.setCell ⟨w.heap.size + 1 + 1 + 1, 3, none⟩ (.string (r.data ++ e.val)) := ⟨_, rfl⟩
  have hM : Mod (fun k => k = w.heap.size + 1 + 1 + 1) w_f W2 := by rw [hW2]; exact Mod.setCell (p := ⟨w.heap.size + 1 + 1 + 1, 3, none⟩) (Mod.refl (fun k => k = w.heap.size + 1 + 1 + 1) _) (.inl rfl) _
  have b4s : W2.heap[w.heap.size + 1 + 1 + 1]? = some (.cells (Ent.c { e with val := r.data ++ e.val, cas := ver }) 38 (0, 0)) := by rw [hW2]; exact blk_put b4 3 _ rfl
  clear b4
  have b4 := b4s
  replace b3 := hM.blk b3 (by omega)
  replace hB : Below w.heap.size w W2 := hM.after hB hB.size (fun k hk => by omega)
  rw [← hW2]
  clear hW2 hM b1 b2 b4s
  refine Ev.region_ev (Ev.Two W2 (w.heap.size + 1 + 1) (w.heap.size + 1 + 1 + 1) 32 38 A0 (ans 2 0 ⟨#[]⟩) (Ent.c { e with val := r.data ++ e.val, cas := ver }) (Ent.c { e with val := r.data ++ e.val, cas := ver }) 2 3) (by kernel_rfl) (by kernel_rfl) (Ev.two_start b3 b4) ?_
  refine Ev.ev_step (v := .agg (ans 2 0 ⟨#[]⟩)) rfl rfl (Ev.two_call (by decide) (by decide) 41 #[.int .i64 2] (fun _ => by first | (go_simp; done) | (go_simp; rfl)) (fun w => refSay_calls 2 w)) ?_
  simp only [Act.put, List.setIfInBounds_toArray, List.set_cons_succ, List.set_cons_zero]
  refine Ev.ev_step (v := .agg (Ent.c { e with val := r.data ++ e.val, cas := ver })) rfl rfl (Ev.two_load2 (by decide) (by decide) 38 (.tmp 11) rfl rfl _ rfl Tryd.underlying38 rfl (by kernel_rfl)) ?_
  simp only [Act.put, List.setIfInBounds_toArray, List.set_cons_succ, List.set_cons_zero]
  refine Ev.ev_step (v := undef) rfl rfl (Ev.two_store1 (by decide) (by omega) 32 (.tmp 10) (.tmp 80) rfl rfl rfl rfl (by kernel_rfl) (ans_one _ _ _)) ?_
  simp only [Act.put]
  refine Ev.ev_step (v := undef) rfl rfl (Ev.two_store2 (by decide) (by omega) 38 (.tmp 11) (.tmp 81) rfl rfl rfl rfl (by kernel_rfl) (ent_one _)) ?_
  simp only [Act.put]
  refine Ev.ev_step (v := .bool true) rfl rfl (Ev.two_pure (by decide) (by decide) (fun _ => by rfl)) ?_
  simp only [Act.put, List.setIfInBounds_toArray, List.set_cons_succ, List.set_cons_zero]
  refine Ev.ev_step (v := .bool false) rfl rfl (Ev.two_pure (by decide) (by decide) (fun _ => by rfl)) ?_
  simp only [Act.put, List.setIfInBounds_toArray, List.set_cons_succ, List.set_cons_zero]
  refine Ev.ev_nil (fun w_e hw_e => ?_)
  obtain ⟨hM_e, hA_e, hX_e⟩ := Ev.two_end hw_e (by decide) (by decide)
  clear hw_e
  go_wp2
  refine bodyPost_ret (Ev.results_c3 rfl rfl hA_e Tryd.underlying32 rfl (by kernel_rfl) rfl hX_e Tryd.underlying38 rfl (by kernel_rfl) rfl rfl) rfl ⟨rfl, ?_⟩
  exact Mod.after hB hB.size hM_e (fun k hk => by omega)
end Go.Proofs.YtepklobkppdliaaDoor.Md
