/- The document: Next (touch, append, prepend). The document: count. The document: Next, as a whole. The model: ModelNext answers true. The model: a request, an entry that came in. -/
import Derived.Test.YtepklobkppdliaaDoorMdP
import Derived.Deep.LoopGhost
import Derived.Test.YtepklobkppdliaaDoorOpen
import Derived.SizedLaws
import Derived.WideShapes
import Derived.OpenShut
namespace Go.Proofs.YtepklobkppdliaaDoor.Md
open Go.RowKit Go.Proofs.YtepklobkppdliaaDoorW.PrintWords Go.Proofs.YtepklobkppdliaaDoorW.PrintLast Go.Proofs.YtepklobkppdliaaDoorW.PrintMore Go.Proofs.YtepklobkppdliaaDoor.Lib Go.Proofs.YtepklobkppdliaaDoor.Open
def joinAt (r : Rq) (e : Ent) (ver : Int) (S : Array Bool) : Array Value := #[.string e.key, .int .i64 e.fl, .int .i64 e.dl, if S.getD 9 false = true then .string (e.val ++ r.data) else .string e.val, if S.getD 7 false = true then .int .i64 ver else .int .i64 e.cas]
theorem joinAt_other (r : Rq) (e : Ent) (ver : Int) {i : Nat} (h7 : i ≠ 7) (h9 : i ≠ 9) (S : Array Bool) : joinAt r e ver (S.setIfInBounds i true) = joinAt r e ver S := by
  unfold joinAt
  rw [Ev.set_other h7, Ev.set_other h9]
theorem joinAt_h7 (r : Rq) (e : Ent) (ver : Int) (S : Array Bool) (h : S.getD 7 true = false) : (joinAt r e ver S)[4]? = some (.int .i64 e.cas) := by
  unfold joinAt
  rw [Ev.get_false h]
  rfl
theorem joinAt_h9 (r : Rq) (e : Ent) (ver : Int) (S : Array Bool) (h : S.getD 9 true = false) : (joinAt r e ver S)[3]? = some (.string e.val) := by
  unfold joinAt
  rw [Ev.get_false h]
  rfl
theorem joinAt_s7 (r : Rq) (e : Ent) (ver : Int) (S : Array Bool) (h : S.getD 7 true = false) : (joinAt r e ver S).setIfInBounds 4 (.int .i64 ver) = joinAt r e ver (S.setIfInBounds 7 true) := by
  unfold joinAt
  rw [Ev.set_same h, Ev.set_other (show (7 : Nat) ≠ 9 by decide), if_pos rfl]
  rfl
theorem joinAt_s9 (r : Rq) (e : Ent) (ver : Int) (S : Array Bool) (h : S.getD 9 true = false) : (joinAt r e ver S).setIfInBounds 3 (.string (e.val ++ r.data)) = joinAt r e ver (S.setIfInBounds 9 true) := by
  unfold joinAt
  rw [Ev.set_same h, Ev.set_other (show (9 : Nat) ≠ 7 by decide), if_pos rfl]
  rfl
set_option maxHeartbeats 4000000 in
set_option maxRecDepth 100000 in
theorem rnext_touch (r : Rq) (kv : Value) (e : Ent) (now ver : Int) (w : World) (hr : r.verb = 12) :
    Calls Tryd.prog 18 #[.agg (r.c kv), .agg e.c, .bool true, .int .i64 now, .int .i64 ver] w fun e_ w' => e_ = .returned (.tuple #[.agg (ans 7 0 ⟨#[]⟩), .agg (Ent.c { e with dl := dead r.exp now }), .bool true, .bool false]) ∧ Below w.heap.size w w' := by
  have HR := Aside0.mk hr
  clear hr
  simp only [Rq.c, Ent.c]
  go_enter Tryd.func18, Tryd.ntmps18
  go_wp2
  obtain ⟨W, hW⟩ : ∃ W, W = (((w.alloc (.cells (r.c kv) 27)).alloc (.cells e.c 38)).alloc (.cells A0 32)).alloc (.cells E0 38) := ⟨_, rfl⟩
  obtain ⟨b1, b2, b3, b4, hB⟩ := four w (.cells (r.c kv) 27) (.cells e.c 38) (.cells A0 32) (.cells E0 38)
  change Code.wp _ _ _ _ ((((w.alloc (.cells (r.c kv) 27)).alloc (.cells e.c 38)).alloc (.cells A0 32)).alloc (.cells E0 38))
  rw [← hW] at b1 b2 b3 b4 hB ⊢
  clear hW
  have c60 : W.cell? ⟨w.heap.size + 1, 0, none⟩ = some (.string e.key) := blk_cell b2 0
  have c52 : W.cell? ⟨w.heap.size, 2, none⟩ = some (.int .i64 r.fl) := blk_cell b1 2
  have c53 : W.cell? ⟨w.heap.size, 3, none⟩ = some (.int .i64 r.exp) := blk_cell b1 3
  have c58 : W.cell? ⟨w.heap.size, 8, none⟩ = some (.string r.data) := blk_cell b1 8
  refine Ev.region_ev (Gen W (w.heap.size + 1 + 1 + 1) 38 (freshAt (fresh r e now ver).c)) (by kernel_rfl) (by kernel_rfl) (gen_start b4 (by unfold freshAt; rw [no_bit]; rfl)) ?_
  refine Ev.ev_step (v := .pointer (some ⟨(w.heap.size + 1), 0, none⟩)) rfl rfl (gen_pure (freshAt_other _ (by decide)) (fun _ => by first | rfl | (go_simp; done) | (go_simp; rfl))) ?_
  simp only [Act.put, List.setIfInBounds_toArray, List.set_cons_succ, List.set_cons_zero]
  refine Ev.ev_step (v := .string e.key) rfl rfl (gen_load (freshAt_other _ (by decide)) ⟨(w.heap.size + 1), 0, none⟩ (c60) (show (w.heap.size + 1) ≠ (w.heap.size + 1 + 1 + 1) by omega) (fun w hc => by go_simp)) ?_
  simp only [Act.put, List.setIfInBounds_toArray, List.set_cons_succ, List.set_cons_zero]
  refine Ev.ev_step (v := .pointer (some ⟨w.heap.size, 2, none⟩)) rfl rfl (gen_pure (freshAt_other _ (by decide)) (fun _ => by first | rfl | (go_simp; done) | (go_simp; rfl))) ?_
  simp only [Act.put, List.setIfInBounds_toArray, List.set_cons_succ, List.set_cons_zero]
  refine Ev.ev_step (v := .int .i64 r.fl) rfl rfl (gen_load (freshAt_other _ (by decide)) ⟨w.heap.size, 2, none⟩ (c52) (show w.heap.size ≠ (w.heap.size + 1 + 1 + 1) by omega) (fun w hc => by go_simp)) ?_
  simp only [Act.put, List.setIfInBounds_toArray, List.set_cons_succ, List.set_cons_zero]
  refine Ev.ev_step (v := .pointer (some ⟨w.heap.size, 3, none⟩)) rfl rfl (gen_pure (freshAt_other _ (by decide)) (fun _ => by first | rfl | (go_simp; done) | (go_simp; rfl))) ?_
  simp only [Act.put, List.setIfInBounds_toArray, List.set_cons_succ, List.set_cons_zero]
  refine Ev.ev_step (v := .int .i64 r.exp) rfl rfl (gen_load (freshAt_other _ (by decide)) ⟨w.heap.size, 3, none⟩ (c53) (show w.heap.size ≠ (w.heap.size + 1 + 1 + 1) by omega) (fun w hc => by go_simp)) ?_
  simp only [Act.put, List.setIfInBounds_toArray, List.set_cons_succ, List.set_cons_zero]
  refine Ev.ev_step (v := .int .i64 now) rfl rfl (gen_pure (freshAt_other _ (by decide)) (fun _ => by first | rfl | (go_simp; done) | (go_simp; rfl))) ?_
  simp only [Act.put, List.setIfInBounds_toArray, List.set_cons_succ, List.set_cons_zero]
  refine Ev.ev_step (v := .int .i64 (dead r.exp now)) rfl rfl (gen_call (freshAt_other _ (by decide)) 40 #[.int .i64 r.exp, .int .i64 now] (fun _ => by first | (go_simp; done) | (go_simp; rfl)) (fun w => refDead_calls _ _ w)) ?_
  simp only [Act.put, List.setIfInBounds_toArray, List.set_cons_succ, List.set_cons_zero]
  refine Ev.ev_step (v := .pointer (some ⟨w.heap.size, 8, none⟩)) rfl rfl (gen_pure (freshAt_other _ (by decide)) (fun _ => by first | rfl | (go_simp; done) | (go_simp; rfl))) ?_
  simp only [Act.put, List.setIfInBounds_toArray, List.set_cons_succ, List.set_cons_zero]
  refine Ev.ev_step (v := .string r.data) rfl rfl (gen_load (freshAt_other _ (by decide)) ⟨w.heap.size, 8, none⟩ (c58) (show w.heap.size ≠ (w.heap.size + 1 + 1 + 1) by omega) (fun w hc => by go_simp)) ?_
  simp only [Act.put, List.setIfInBounds_toArray, List.set_cons_succ, List.set_cons_zero]
  refine Ev.ev_step (v := .int .i64 ver) rfl rfl (gen_pure (freshAt_other _ (by decide)) (fun _ => by first | rfl | (go_simp; done) | (go_simp; rfl))) ?_
  simp only [Act.put, List.setIfInBounds_toArray, List.set_cons_succ, List.set_cons_zero]
  refine Ev.ev_step (v := .agg (fresh r e now ver).c) rfl rfl (gen_pure (freshAt_other _ (by decide)) (fun _ => by first | rfl | (go_simp; done) | (go_simp; rfl))) ?_
  simp only [Act.put, List.setIfInBounds_toArray, List.set_cons_succ, List.set_cons_zero]
  refine Ev.ev_step (v := undef) rfl rfl (gen_store (fresh r e now ver).c (fun S h => by unfold freshAt; rw [Ev.set_same h, if_pos rfl]) (fun S => by unfold freshAt; split <;> rfl) 38 (.tmp 11) (.tmp 26) rfl rfl rfl (by kernel_rfl) (ent_one _)) ?_
  simp only [Act.put]
  refine Ev.ev_nil (fun w_e hw_e => ?_)
  have hm := hw_e.mod
  have b4e := hw_e.blk
  rw [show freshAt (fresh r e now ver).c (Array.replicate _ true) = (fresh r e now ver).c by unfold freshAt; rw [all_bit (by decide), if_pos rfl]] at b4e
  clear hw_e c60 c52 c53 c58 b4
  replace b1 := hm.blk b1 (by omega)
  replace b2 := hm.blk b2 (by omega)
  replace b3 := hm.blk b3 (by omega)
  replace hB := hm.after hB hB.size (fun k hk => by omega)
  have b4 := b4e
  clear hm b4e
  have hr := HR.out
  have e3 : (r.verb == 3) = false := by rw [hr]; rfl
  have e4 : (r.verb == 4) = false := by rw [hr]; rfl
  have e5 : (r.verb == 5) = false := by rw [hr]; rfl
  have e6 : (r.verb == 6) = false := by rw [hr]; rfl
  have e7 : (r.verb == 7) = false := by rw [hr]; rfl
  have e8 : (r.verb == 8) = false := by rw [hr]; rfl
  have e9 : (r.verb == 9) = false := by rw [hr]; rfl
  have e10 : (r.verb == 10) = false := by rw [hr]; rfl
  have e11 : (r.verb == 11) = false := by rw [hr]; rfl
  have e12 : (r.verb == 12) = true := by rw [hr]; rfl
  have c50 : w_e.cell? ⟨w.heap.size, 0, none⟩ = some (.int .i64 r.verb) := blk_cell b1 0
  clear hr HR
  have c112 : w_e.cell? ⟨w.heap.size + 1 + 1 + 1, 2, none⟩ = some (.int .i64 (dead r.exp now)) := blk_cell b4 2
  have B1 := Aside0.mk b1
  have B2 := Aside0.mk b2
  have B3 := Aside0.mk b3
  have B4 := Aside0.mk b4
  have HB := Aside0.mk hB
  clear b1 b2 b3 b4 hB
  go_wp2_with (first | (refine gate_ (.load 38 (.tmp 6)) rfl ?_; refine ev_load_row (.load 38 (.tmp 6)) rfl rfl 38 (.tmp 6) rfl (w.heap.size + 1) rfl 38 e.c _ B2.out Tryd.underlying38 rfl (by kernel_rfl) ?_) | (refine gate_ (.store 38 (.tmp 11) (.tmp 113)) rfl ?_; refine ev_store_row (.store 38 (.tmp 11) (.tmp 113)) rfl rfl rfl 38 (.tmp 11) (.tmp 113) rfl (w.heap.size + 1 + 1 + 1) e.c rfl rfl 38 (fresh r e now ver).c B4.out (by kernel_rfl) rfl (ent_one _) ?_; intro w_2 hw2 hm2; have B1n := Aside0.mk (hm2.blk B1.out (by omega)); have B2n := Aside0.mk (hm2.blk B2.out (by omega)); have B3n := Aside0.mk (hm2.blk B3.out (by omega)); have HBn := Aside0.mk (hm2.after HB.out HB.out.size (fun k hk => by omega)); have B4n := Aside0.mk hw2; have c_2 : w_2.cell? ⟨w.heap.size + 1 + 1 + 1, 2, none⟩ = some (.int .i64 e.dl) := blk_cell hw2 2; have f_2 : w_2.frozen? ⟨w.heap.size + 1 + 1 + 1, 2, none⟩ = false := blk_frozen hw2 2; clear B1 B2 B3 B4 HB hw2 hm2; have B1 := B1n; have B2 := B2n; have B3 := B3n; have B4 := B4n; have HB := HBn; clear B1n B2n B3n B4n HBn))
  clear e3 e4 e5 e6 e7 e8 e9 e10 e11 e12 c50 c112 c_2 f_2
  have b1 := B1.out
  have b2 := B2.out
  have b3 := B3.out
  have b4 := B4.out
  have hB := HB.out
  clear B1 B2 B3 B4 HB
  obtain ⟨W2, hW2⟩ : ∃ W2, W2 = w_2.setCell ⟨w.heap.size + 1 + 1 + 1, 2, none⟩ (.int .i64 (dead r.exp now)) := ⟨_, rfl⟩
  have hM : Mod (fun k => k = w.heap.size + 1 + 1 + 1) w_2 W2 := by rw [hW2]; exact Mod.setCell (p := ⟨w.heap.size + 1 + 1 + 1, 2, none⟩) (Mod.refl (fun k => k = w.heap.size + 1 + 1 + 1) _) (.inl rfl) _
  have b4s : W2.heap[w.heap.size + 1 + 1 + 1]? = some (.cells (Ent.c { e with dl := dead r.exp now }) 38 (0, 0)) := by rw [hW2]; exact blk_put b4 2 _ rfl
  clear b4
  have b4 := b4s
  replace b3 := hM.blk b3 (by omega)
  replace hB : Below w.heap.size w W2 := hM.after hB hB.size (fun k hk => by omega)
  rw [← hW2]
  clear hW2 hM b1 b2 b4s
  refine Ev.region_ev (Ev.Two W2 (w.heap.size + 1 + 1) (w.heap.size + 1 + 1 + 1) 32 38 A0 (ans 7 0 ⟨#[]⟩) (Ent.c { e with dl := dead r.exp now }) (Ent.c { e with dl := dead r.exp now }) 2 3) (by kernel_rfl) (by kernel_rfl) (Ev.two_start b3 b4) ?_
  refine Ev.ev_step (v := .agg (ans 7 0 ⟨#[]⟩)) rfl rfl (Ev.two_call (by decide) (by decide) 41 #[.int .i64 7] (fun _ => by first | (go_simp; done) | (go_simp; rfl)) (fun w => refSay_calls 7 w)) ?_
  simp only [Act.put, List.setIfInBounds_toArray, List.set_cons_succ, List.set_cons_zero]
  refine Ev.ev_step (v := .agg (Ent.c { e with dl := dead r.exp now })) rfl rfl (Ev.two_load2 (by decide) (by decide) 38 (.tmp 11) rfl rfl _ rfl Tryd.underlying38 rfl (by kernel_rfl)) ?_
  simp only [Act.put, List.setIfInBounds_toArray, List.set_cons_succ, List.set_cons_zero]
  refine Ev.ev_step (v := undef) rfl rfl (Ev.two_store1 (by decide) (by omega) 32 (.tmp 10) (.tmp 116) rfl rfl rfl rfl (by kernel_rfl) (ans_one _ _ _)) ?_
  simp only [Act.put]
  refine Ev.ev_step (v := undef) rfl rfl (Ev.two_store2 (by decide) (by omega) 38 (.tmp 11) (.tmp 117) rfl rfl rfl rfl (by kernel_rfl) (ent_one _)) ?_
  simp only [Act.put]
  refine Ev.ev_step (v := .bool true) rfl rfl (Ev.two_pure (by decide) (by decide) (fun _ => by rfl)) ?_
  simp only [Act.put, List.setIfInBounds_toArray, List.set_cons_succ, List.set_cons_zero]
  refine Ev.ev_step (v := .bool false) rfl rfl (Ev.two_pure (by decide) (by decide) (fun _ => by rfl)) ?_
  simp only [Act.put, List.setIfInBounds_toArray, List.set_cons_succ, List.set_cons_zero]
  refine Ev.ev_nil (fun w_e hw_e => ?_)
  obtain ⟨hM_e, hA_e, hX_e⟩ := Ev.two_end hw_e (by decide) (by decide)
  clear hw_e
  go_wp2
  refine bodyPost_ret (Ev.results_c3 rfl rfl hA_e Tryd.underlying32 rfl (by kernel_rfl) rfl hX_e Tryd.underlying38 rfl (by kernel_rfl) rfl rfl) rfl ⟨rfl, ?_⟩
  exact Mod.after hB hB.size hM_e (fun k hk => by omega)
set_option maxHeartbeats 4000000 in
set_option maxRecDepth 100000 in
theorem rnext_app_long (r : Rq) (kv : Value) (e : Ent) (now ver : Int) (w : World) (hs : 1048576 < e.val.size + r.data.size ∧ e.val.size ≤ 140737488355328 ∧ r.data.size ≤ 140737488355328) (hr : r.verb = 6) :
    Calls Tryd.prog 18 #[.agg (r.c kv), .agg e.c, .bool true, .int .i64 now, .int .i64 ver] w fun e_ w' => e_ = .returned (.tuple #[.agg (ans 14 0 tooLarge), .agg (fresh r e now ver).c, .bool false, .bool false]) ∧ Below w.heap.size w w' := by
  have HR := Aside0.mk hr
  have HS := Aside0.mk hs
  clear hs
  clear hr
  simp only [Rq.c, Ent.c]
  go_enter Tryd.func18, Tryd.ntmps18
  go_wp2
  obtain ⟨W, hW⟩ : ∃ W, W = (((w.alloc (.cells (r.c kv) 27)).alloc (.cells e.c 38)).alloc (.cells A0 32)).alloc (.cells E0 38) := ⟨_, rfl⟩
  obtain ⟨b1, b2, b3, b4, hB⟩ := four w (.cells (r.c kv) 27) (.cells e.c 38) (.cells A0 32) (.cells E0 38)
  change Code.wp _ _ _ _ ((((w.alloc (.cells (r.c kv) 27)).alloc (.cells e.c 38)).alloc (.cells A0 32)).alloc (.cells E0 38))
  rw [← hW] at b1 b2 b3 b4 hB ⊢
  clear hW
  have c60 : W.cell? ⟨w.heap.size + 1, 0, none⟩ = some (.string e.key) := blk_cell b2 0
  have c52 : W.cell? ⟨w.heap.size, 2, none⟩ = some (.int .i64 r.fl) := blk_cell b1 2
  have c53 : W.cell? ⟨w.heap.size, 3, none⟩ = some (.int .i64 r.exp) := blk_cell b1 3
  have c58 : W.cell? ⟨w.heap.size, 8, none⟩ = some (.string r.data) := blk_cell b1 8
  refine Ev.region_ev (Gen W (w.heap.size + 1 + 1 + 1) 38 (freshAt (fresh r e now ver).c)) (by kernel_rfl) (by kernel_rfl) (gen_start b4 (by unfold freshAt; rw [no_bit]; rfl)) ?_
  refine Ev.ev_step (v := .pointer (some ⟨(w.heap.size + 1), 0, none⟩)) rfl rfl (gen_pure (freshAt_other _ (by decide)) (fun _ => by first | rfl | (go_simp; done) | (go_simp; rfl))) ?_
  simp only [Act.put, List.setIfInBounds_toArray, List.set_cons_succ, List.set_cons_zero]
  refine Ev.ev_step (v := .string e.key) rfl rfl (gen_load (freshAt_other _ (by decide)) ⟨(w.heap.size + 1), 0, none⟩ (c60) (show (w.heap.size + 1) ≠ (w.heap.size + 1 + 1 + 1) by omega) (fun w hc => by go_simp)) ?_
  simp only [Act.put, List.setIfInBounds_toArray, List.set_cons_succ, List.set_cons_zero]
  refine Ev.ev_step (v := .pointer (some ⟨w.heap.size, 2, none⟩)) rfl rfl (gen_pure (freshAt_other _ (by decide)) (fun _ => by first | rfl | (go_simp; done) | (go_simp; rfl))) ?_
  simp only [Act.put, List.setIfInBounds_toArray, List.set_cons_succ, List.set_cons_zero]
  refine Ev.ev_step (v := .int .i64 r.fl) rfl rfl (gen_load (freshAt_other _ (by decide)) ⟨w.heap.size, 2, none⟩ (c52) (show w.heap.size ≠ (w.heap.size + 1 + 1 + 1) by omega) (fun w hc => by go_simp)) ?_
  simp only [Act.put, List.setIfInBounds_toArray, List.set_cons_succ, List.set_cons_zero]
  refine Ev.ev_step (v := .pointer (some ⟨w.heap.size, 3, none⟩)) rfl rfl (gen_pure (freshAt_other _ (by decide)) (fun _ => by first | rfl | (go_simp; done) | (go_simp; rfl))) ?_
  simp only [Act.put, List.setIfInBounds_toArray, List.set_cons_succ, List.set_cons_zero]
  refine Ev.ev_step (v := .int .i64 r.exp) rfl rfl (gen_load (freshAt_other _ (by decide)) ⟨w.heap.size, 3, none⟩ (c53) (show w.heap.size ≠ (w.heap.size + 1 + 1 + 1) by omega) (fun w hc => by go_simp)) ?_
  simp only [Act.put, List.setIfInBounds_toArray, List.set_cons_succ, List.set_cons_zero]
  refine Ev.ev_step (v := .int .i64 now) rfl rfl (gen_pure (freshAt_other _ (by decide)) (fun _ => by first | rfl | (go_simp; done) | (go_simp; rfl))) ?_
  simp only [Act.put, List.setIfInBounds_toArray, List.set_cons_succ, List.set_cons_zero]
  refine Ev.ev_step (v := .int .i64 (dead r.exp now)) rfl rfl (gen_call (freshAt_other _ (by decide)) 40 #[.int .i64 r.exp, .int .i64 now] (fun _ => by first | (go_simp; done) | (go_simp; rfl)) (fun w => refDead_calls _ _ w)) ?_
  simp only [Act.put, List.setIfInBounds_toArray, List.set_cons_succ, List.set_cons_zero]
  refine Ev.ev_step (v := .pointer (some ⟨w.heap.size, 8, none⟩)) rfl rfl (gen_pure (freshAt_other _ (by decide)) (fun _ => by first | rfl | (go_simp; done) | (go_simp; rfl))) ?_
  simp only [Act.put, List.setIfInBounds_toArray, List.set_cons_succ, List.set_cons_zero]
  refine Ev.ev_step (v := .string r.data) rfl rfl (gen_load (freshAt_other _ (by decide)) ⟨w.heap.size, 8, none⟩ (c58) (show w.heap.size ≠ (w.heap.size + 1 + 1 + 1) by omega) (fun w hc => by go_simp)) ?_
  simp only [Act.put, List.setIfInBounds_toArray, List.set_cons_succ, List.set_cons_zero]
  refine Ev.ev_step (v := .int .i64 ver) rfl rfl (gen_pure (freshAt_other _ (by decide)) (fun _ => by first | rfl | (go_simp; done) | (go_simp; rfl))) ?_
  simp only [Act.put, List.setIfInBounds_toArray, List.set_cons_succ, List.set_cons_zero]
  refine Ev.ev_step (v := .agg (fresh r e now ver).c) rfl rfl (gen_pure (freshAt_other _ (by decide)) (fun _ => by first | rfl | (go_simp; done) | (go_simp; rfl))) ?_
  simp only [Act.put, List.setIfInBounds_toArray, List.set_cons_succ, List.set_cons_zero]
  refine Ev.ev_step (v := undef) rfl rfl (gen_store (fresh r e now ver).c (fun S h => by unfold freshAt; rw [Ev.set_same h, if_pos rfl]) (fun S => by unfold freshAt; split <;> rfl) 38 (.tmp 11) (.tmp 26) rfl rfl rfl (by kernel_rfl) (ent_one _)) ?_
  simp only [Act.put]
  refine Ev.ev_nil (fun w_e hw_e => ?_)
  have hm := hw_e.mod
  have b4e := hw_e.blk
  rw [show freshAt (fresh r e now ver).c (Array.replicate _ true) = (fresh r e now ver).c by unfold freshAt; rw [all_bit (by decide), if_pos rfl]] at b4e
  clear hw_e c60 c52 c53 c58 b4
  replace b1 := hm.blk b1 (by omega)
  replace b2 := hm.blk b2 (by omega)
  replace b3 := hm.blk b3 (by omega)
  replace hB := hm.after hB hB.size (fun k hk => by omega)
  have b4 := b4e
  clear hm b4e
  have hr := HR.out
  have e3 : (r.verb == 3) = false := by rw [hr]; rfl
  have e4 : (r.verb == 4) = false := by rw [hr]; rfl
  have e5 : (r.verb == 5) = false := by rw [hr]; rfl
  have e6 : (r.verb == 6) = true := by rw [hr]; rfl
  have e7 : (r.verb == 7) = false := by rw [hr]; rfl
  have e8 : (r.verb == 8) = false := by rw [hr]; rfl
  have e9 : (r.verb == 9) = false := by rw [hr]; rfl
  have e10 : (r.verb == 10) = false := by rw [hr]; rfl
  have e11 : (r.verb == 11) = false := by rw [hr]; rfl
  have e12 : (r.verb == 12) = false := by rw [hr]; rfl
  have c50 : w_e.cell? ⟨w.heap.size, 0, none⟩ = some (.int .i64 r.verb) := blk_cell b1 0
  clear hr HR
  have c63 : w_e.cell? ⟨w.heap.size + 1, 3, none⟩ = some (.string e.val) := blk_cell b2 3
  have c58 : w_e.cell? ⟨w.heap.size, 8, none⟩ = some (.string r.data) := blk_cell b1 8
  have hs1 : (1048576 : Int) < (e.val.size : Int) + (r.data.size : Int) := by have := HS.out; omega
  have hs2 : (e.val.size : Int) ≤ 140737488355328 := by have := HS.out; omega
  have hs3 : (r.data.size : Int) ≤ 140737488355328 := by have := HS.out; omega
  go_wp2
  clear e3 e4 e5 e6 e7 e8 e9 e10 e11 e12 c50 c63 c58 hs1 hs2 hs3
  obtain ⟨W2, hW2⟩ : ∃ W2, W2 = w_e := ⟨_, rfl⟩
  rw [← hW2] at b1 b2 b3 b4 hB ⊢
  clear hW2
  refine Ev.region_ev (Ev.Two W2 (w.heap.size + 1 + 1) (w.heap.size + 1 + 1 + 1) 32 38 A0 (ans 14 0 tooLarge) (fresh r e now ver).c (fresh r e now ver).c 2 3) (by kernel_rfl) (by kernel_rfl) (Ev.two_start b3 b4) ?_
  refine Ev.ev_step (v := .agg (ans 14 0 tooLarge)) rfl rfl (Ev.two_pure (by decide) (by decide) (fun _ => by first | (go_simp; done) | (go_simp; rfl))) ?_
  simp only [Act.put, List.setIfInBounds_toArray, List.set_cons_succ, List.set_cons_zero]
  refine Ev.ev_step (v := .agg (fresh r e now ver).c) rfl rfl (Ev.two_load2 (by decide) (by decide) 38 (.tmp 11) rfl rfl _ rfl Tryd.underlying38 rfl (by kernel_rfl)) ?_
  simp only [Act.put, List.setIfInBounds_toArray, List.set_cons_succ, List.set_cons_zero]
  refine Ev.ev_step (v := undef) rfl rfl (Ev.two_store1 (by decide) (by omega) 32 (.tmp 10) (.tmp 60) rfl rfl rfl rfl (by kernel_rfl) (ans_one _ _ _)) ?_
  simp only [Act.put]
  refine Ev.ev_step (v := undef) rfl rfl (Ev.two_store2 (by decide) (by omega) 38 (.tmp 11) (.tmp 61) rfl rfl rfl rfl (by kernel_rfl) (ent_one _)) ?_
  simp only [Act.put]
  refine Ev.ev_step (v := .bool false) rfl rfl (Ev.two_pure (by decide) (by decide) (fun _ => by rfl)) ?_
  simp only [Act.put, List.setIfInBounds_toArray, List.set_cons_succ, List.set_cons_zero]
  refine Ev.ev_step (v := .bool false) rfl rfl (Ev.two_pure (by decide) (by decide) (fun _ => by rfl)) ?_
  simp only [Act.put, List.setIfInBounds_toArray, List.set_cons_succ, List.set_cons_zero]
  refine Ev.ev_nil (fun w_e hw_e => ?_)
  obtain ⟨hM_e, hA_e, hX_e⟩ := Ev.two_end hw_e (by decide) (by decide)
  clear hw_e
  go_wp2
  refine bodyPost_ret (Ev.results_c3 rfl rfl hA_e Tryd.underlying32 rfl (by kernel_rfl) rfl hX_e Tryd.underlying38 rfl (by kernel_rfl) rfl rfl) rfl ⟨rfl, ?_⟩
  exact Mod.after hB hB.size hM_e (fun k hk => by omega)
set_option maxHeartbeats 4000000 in
set_option maxRecDepth 100000 in
theorem rnext_pre_long (r : Rq) (kv : Value) (e : Ent) (now ver : Int) (w : World) (hs : 1048576 < e.val.size + r.data.size ∧ e.val.size ≤ 140737488355328 ∧ r.data.size ≤ 140737488355328) (hr : r.verb = 7) :
    Calls Tryd.prog 18 #[.agg (r.c kv), .agg e.c, .bool true, .int .i64 now, .int .i64 ver] w fun e_ w' => e_ = .returned (.tuple #[.agg (ans 14 0 tooLarge), .agg (fresh r e now ver).c, .bool false, .bool false]) ∧ Below w.heap.size w w' := by
  have HR := Aside0.mk hr
  have HS := Aside0.mk hs
  clear hs
  clear hr
  simp only [Rq.c, Ent.c]
  go_enter Tryd.func18, Tryd.ntmps18
  go_wp2
  obtain ⟨W, hW⟩ : ∃ W, W = (((w.alloc (.cells (r.c kv) 27)).alloc (.cells e.c 38)).alloc (.cells A0 32)).alloc (.cells E0 38) := ⟨_, rfl⟩
  obtain ⟨b1, b2, b3, b4, hB⟩ := four w (.cells (r.c kv) 27) (.cells e.c 38) (.cells A0 32) (.cells E0 38)
  change Code.wp _ _ _ _ ((((w.alloc (.cells (r.c kv) 27)).alloc (.cells e.c 38)).alloc (.cells A0 32)).alloc (.cells E0 38))
  rw [← hW] at b1 b2 b3 b4 hB ⊢
  clear hW
  have c60 : W.cell? ⟨w.heap.size + 1, 0, none⟩ = some (.string e.key) := blk_cell b2 0
  have c52 : W.cell? ⟨w.heap.size, 2, none⟩ = some (.int .i64 r.fl) := blk_cell b1 2
  have c53 : W.cell? ⟨w.heap.size, 3, none⟩ = some (.int .i64 r.exp) := blk_cell b1 3
  have c58 : W.cell? ⟨w.heap.size, 8, none⟩ = some (.string r.data) := blk_cell b1 8
  refine Ev.region_ev (Gen W (w.heap.size + 1 + 1 + 1) 38 (freshAt (fresh r e now ver).c)) (by kernel_rfl) (by kernel_rfl) (gen_start b4 (by unfold freshAt; rw [no_bit]; rfl)) ?_
  refine Ev.ev_step (v := .pointer (some ⟨(w.heap.size + 1), 0, none⟩)) rfl rfl (gen_pure (freshAt_other _ (by decide)) (fun _ => by first | rfl | (go_simp; done) | (go_simp; rfl))) ?_
  simp only [Act.put, List.setIfInBounds_toArray, List.set_cons_succ, List.set_cons_zero]
  refine Ev.ev_step (v := .string e.key) rfl rfl (gen_load (freshAt_other _ (by decide)) ⟨(w.heap.size + 1), 0, none⟩ (c60) (show (w.heap.size + 1) ≠ (w.heap.size + 1 + 1 + 1) by omega) (fun w hc => by go_simp)) ?_
  simp only [Act.put, List.setIfInBounds_toArray, List.set_cons_succ, List.set_cons_zero]
  refine Ev.ev_step (v := .pointer (some ⟨w.heap.size, 2, none⟩)) rfl rfl (gen_pure (freshAt_other _ (by decide)) (fun _ => by first | rfl | (go_simp; done) | (go_simp; rfl))) ?_
  simp only [Act.put, List.setIfInBounds_toArray, List.set_cons_succ, List.set_cons_zero]
  refine Ev.ev_step (v := .int .i64 r.fl) rfl rfl (gen_load (freshAt_other _ (by decide)) ⟨w.heap.size, 2, none⟩ (c52) (show w.heap.size ≠ (w.heap.size + 1 + 1 + 1) by omega) (fun w hc => by go_simp)) ?_
  simp only [Act.put, List.setIfInBounds_toArray, List.set_cons_succ, List.set_cons_zero]
  refine Ev.ev_step (v := .pointer (some ⟨w.heap.size, 3, none⟩)) rfl rfl (gen_pure (freshAt_other _ (by decide)) (fun _ => by first | rfl | (go_simp; done) | (go_simp; rfl))) ?_
  simp only [Act.put, List.setIfInBounds_toArray, List.set_cons_succ, List.set_cons_zero]
  refine Ev.ev_step (v := .int .i64 r.exp) rfl rfl (gen_load (freshAt_other _ (by decide)) ⟨w.heap.size, 3, none⟩ (c53) (show w.heap.size ≠ (w.heap.size + 1 + 1 + 1) by omega) (fun w hc => by go_simp)) ?_
  simp only [Act.put, List.setIfInBounds_toArray, List.set_cons_succ, List.set_cons_zero]
  refine Ev.ev_step (v := .int .i64 now) rfl rfl (gen_pure (freshAt_other _ (by decide)) (fun _ => by first | rfl | (go_simp; done) | (go_simp; rfl))) ?_
  simp only [Act.put, List.setIfInBounds_toArray, List.set_cons_succ, List.set_cons_zero]
  refine Ev.ev_step (v := .int .i64 (dead r.exp now)) rfl rfl (gen_call (freshAt_other _ (by decide)) 40 #[.int .i64 r.exp, .int .i64 now] (fun _ => by first | (go_simp; done) | (go_simp; rfl)) (fun w => refDead_calls _ _ w)) ?_
  simp only [Act.put, List.setIfInBounds_toArray, List.set_cons_succ, List.set_cons_zero]
  refine Ev.ev_step (v := .pointer (some ⟨w.heap.size, 8, none⟩)) rfl rfl (gen_pure (freshAt_other _ (by decide)) (fun _ => by first | rfl | (go_simp; done) | (go_simp; rfl))) ?_
  simp only [Act.put, List.setIfInBounds_toArray, List.set_cons_succ, List.set_cons_zero]
  refine Ev.ev_step (v := .string r.data) rfl rfl (gen_load (freshAt_other _ (by decide)) ⟨w.heap.size, 8, none⟩ (c58) (show w.heap.size ≠ (w.heap.size + 1 + 1 + 1) by omega) (fun w hc => by go_simp)) ?_
  simp only [Act.put, List.setIfInBounds_toArray, List.set_cons_succ, List.set_cons_zero]
  refine Ev.ev_step (v := .int .i64 ver) rfl rfl (gen_pure (freshAt_other _ (by decide)) (fun _ => by first | rfl | (go_simp; done) | (go_simp; rfl))) ?_
  simp only [Act.put, List.setIfInBounds_toArray, List.set_cons_succ, List.set_cons_zero]
  refine Ev.ev_step (v := .agg (fresh r e now ver).c) rfl rfl (gen_pure (freshAt_other _ (by decide)) (fun _ => by first | rfl | (go_simp; done) | (go_simp; rfl))) ?_
  simp only [Act.put, List.setIfInBounds_toArray, List.set_cons_succ, List.set_cons_zero]
  refine Ev.ev_step (v := undef) rfl rfl (gen_store (fresh r e now ver).c (fun S h => by unfold freshAt; rw [Ev.set_same h, if_pos rfl]) (fun S => by unfold freshAt; split <;> rfl) 38 (.tmp 11) (.tmp 26) rfl rfl rfl (by kernel_rfl) (ent_one _)) ?_
  simp only [Act.put]
  refine Ev.ev_nil (fun w_e hw_e => ?_)
  have hm := hw_e.mod
  have b4e := hw_e.blk
  rw [show freshAt (fresh r e now ver).c (Array.replicate _ true) = (fresh r e now ver).c by unfold freshAt; rw [all_bit (by decide), if_pos rfl]] at b4e
  clear hw_e c60 c52 c53 c58 b4
  replace b1 := hm.blk b1 (by omega)
  replace b2 := hm.blk b2 (by omega)
  replace b3 := hm.blk b3 (by omega)
  replace hB := hm.after hB hB.size (fun k hk => by omega)
  have b4 := b4e
  clear hm b4e
  have hr := HR.out
  have e3 : (r.verb == 3) = false := by rw [hr]; rfl
  have e4 : (r.verb == 4) = false := by rw [hr]; rfl
  have e5 : (r.verb == 5) = false := by rw [hr]; rfl
  have e6 : (r.verb == 6) = false := by rw [hr]; rfl
  have e7 : (r.verb == 7) = true := by rw [hr]; rfl
  have e8 : (r.verb == 8) = false := by rw [hr]; rfl
  have e9 : (r.verb == 9) = false := by rw [hr]; rfl
  have e10 : (r.verb == 10) = false := by rw [hr]; rfl
  have e11 : (r.verb == 11) = false := by rw [hr]; rfl
  have e12 : (r.verb == 12) = false := by rw [hr]; rfl
  have c50 : w_e.cell? ⟨w.heap.size, 0, none⟩ = some (.int .i64 r.verb) := blk_cell b1 0
  clear hr HR
  have c63 : w_e.cell? ⟨w.heap.size + 1, 3, none⟩ = some (.string e.val) := blk_cell b2 3
  have c58 : w_e.cell? ⟨w.heap.size, 8, none⟩ = some (.string r.data) := blk_cell b1 8
  have hs1 : (1048576 : Int) < (e.val.size : Int) + (r.data.size : Int) := by have := HS.out; omega
  have hs2 : (e.val.size : Int) ≤ 140737488355328 := by have := HS.out; omega
  have hs3 : (r.data.size : Int) ≤ 140737488355328 := by have := HS.out; omega
  go_wp2
  clear e3 e4 e5 e6 e7 e8 e9 e10 e11 e12 c50 c63 c58 hs1 hs2 hs3
  obtain ⟨W2, hW2⟩ : ∃ W2, W2 = w_e := ⟨_, rfl⟩
  rw [← hW2] at b1 b2 b3 b4 hB ⊢
  clear hW2
  refine Ev.region_ev (Ev.Two W2 (w.heap.size + 1 + 1) (w.heap.size + 1 + 1 + 1) 32 38 A0 (ans 14 0 tooLarge) (fresh r e now ver).c (fresh r e now ver).c 2 3) (by kernel_rfl) (by kernel_rfl) (Ev.two_start b3 b4) ?_
  refine Ev.ev_step (v := .agg (ans 14 0 tooLarge)) rfl rfl (Ev.two_pure (by decide) (by decide) (fun _ => by first | (go_simp; done) | (go_simp; rfl))) ?_
  simp only [Act.put, List.setIfInBounds_toArray, List.set_cons_succ, List.set_cons_zero]
  refine Ev.ev_step (v := .agg (fresh r e now ver).c) rfl rfl (Ev.two_load2 (by decide) (by decide) 38 (.tmp 11) rfl rfl _ rfl Tryd.underlying38 rfl (by kernel_rfl)) ?_
  simp only [Act.put, List.setIfInBounds_toArray, List.set_cons_succ, List.set_cons_zero]
  refine Ev.ev_step (v := undef) rfl rfl (Ev.two_store1 (by decide) (by omega) 32 (.tmp 10) (.tmp 60) rfl rfl rfl rfl (by kernel_rfl) (ans_one _ _ _)) ?_
  simp only [Act.put]
  refine Ev.ev_step (v := undef) rfl rfl (Ev.two_store2 (by decide) (by omega) 38 (.tmp 11) (.tmp 61) rfl rfl rfl rfl (by kernel_rfl) (ent_one _)) ?_
  simp only [Act.put]
  refine Ev.ev_step (v := .bool false) rfl rfl (Ev.two_pure (by decide) (by decide) (fun _ => by rfl)) ?_
  simp only [Act.put, List.setIfInBounds_toArray, List.set_cons_succ, List.set_cons_zero]
  refine Ev.ev_step (v := .bool false) rfl rfl (Ev.two_pure (by decide) (by decide) (fun _ => by rfl)) ?_
  simp only [Act.put, List.setIfInBounds_toArray, List.set_cons_succ, List.set_cons_zero]
  refine Ev.ev_nil (fun w_e hw_e => ?_)
  obtain ⟨hM_e, hA_e, hX_e⟩ := Ev.two_end hw_e (by decide) (by decide)
  clear hw_e
  go_wp2
  refine bodyPost_ret (Ev.results_c3 rfl rfl hA_e Tryd.underlying32 rfl (by kernel_rfl) rfl hX_e Tryd.underlying38 rfl (by kernel_rfl) rfl rfl) rfl ⟨rfl, ?_⟩
  exact Mod.after hB hB.size hM_e (fun k hk => by omega)
set_option maxHeartbeats 4000000 in
set_option maxRecDepth 100000 in
theorem rnext_app (r : Rq) (kv : Value) (e : Ent) (now ver : Int) (w : World) (hs : e.val.size + r.data.size ≤ 1048576) (hr : r.verb = 6) :
    Calls Tryd.prog 18 #[.agg (r.c kv), .agg e.c, .bool true, .int .i64 now, .int .i64 ver] w fun e_ w' => e_ = .returned (.tuple #[.agg (ans 2 0 ⟨#[]⟩), .agg (Ent.c { e with val := e.val ++ r.data, cas := ver }), .bool true, .bool false]) ∧ Below w.heap.size w w' := by
  have HR := Aside0.mk hr
  have HS := Aside0.mk hs
  clear hs
  clear hr
  simp only [Rq.c, Ent.c]
  go_enter Tryd.func18, Tryd.ntmps18
  go_wp2
  obtain ⟨W, hW⟩ : ∃ W, W = (((w.alloc (.cells (r.c kv) 27)).alloc (.cells e.c 38)).alloc (.cells A0 32)).alloc (.cells E0 38) := ⟨_, rfl⟩
  obtain ⟨b1, b2, b3, b4, hB⟩ := four w (.cells (r.c kv) 27) (.cells e.c 38) (.cells A0 32) (.cells E0 38)
  change Code.wp _ _ _ _ ((((w.alloc (.cells (r.c kv) 27)).alloc (.cells e.c 38)).alloc (.cells A0 32)).alloc (.cells E0 38))
  rw [← hW] at b1 b2 b3 b4 hB ⊢
  clear hW
  have c60 : W.cell? ⟨w.heap.size + 1, 0, none⟩ = some (.string e.key) := blk_cell b2 0
  have c52 : W.cell? ⟨w.heap.size, 2, none⟩ = some (.int .i64 r.fl) := blk_cell b1 2
  have c53 : W.cell? ⟨w.heap.size, 3, none⟩ = some (.int .i64 r.exp) := blk_cell b1 3
  have c58 : W.cell? ⟨w.heap.size, 8, none⟩ = some (.string r.data) := blk_cell b1 8
  refine Ev.region_ev (Gen W (w.heap.size + 1 + 1 + 1) 38 (freshAt (fresh r e now ver).c)) (by kernel_rfl) (by kernel_rfl) (gen_start b4 (by unfold freshAt; rw [no_bit]; rfl)) ?_
  refine Ev.ev_step (v := .pointer (some ⟨(w.heap.size + 1), 0, none⟩)) rfl rfl (gen_pure (freshAt_other _ (by decide)) (fun _ => by first | rfl | (go_simp; done) | (go_simp; rfl))) ?_
  simp only [Act.put, List.setIfInBounds_toArray, List.set_cons_succ, List.set_cons_zero]
  refine Ev.ev_step (v := .string e.key) rfl rfl (gen_load (freshAt_other _ (by decide)) ⟨(w.heap.size + 1), 0, none⟩ (c60) (show (w.heap.size + 1) ≠ (w.heap.size + 1 + 1 + 1) by omega) (fun w hc => by go_simp)) ?_
  simp only [Act.put, List.setIfInBounds_toArray, List.set_cons_succ, List.set_cons_zero]
  refine Ev.ev_step (v := .pointer (some ⟨w.heap.size, 2, none⟩)) rfl rfl (gen_pure (freshAt_other _ (by decide)) (fun _ => by first | rfl | (go_simp; done) | (go_simp; rfl))) ?_
  simp only [Act.put, List.setIfInBounds_toArray, List.set_cons_succ, List.set_cons_zero]
  refine Ev.ev_step (v := .int .i64 r.fl) rfl rfl (gen_load (freshAt_other _ (by decide)) ⟨w.heap.size, 2, none⟩ (c52) (show w.heap.size ≠ (w.heap.size + 1 + 1 + 1) by omega) (fun w hc => by go_simp)) ?_
  simp only [Act.put, List.setIfInBounds_toArray, List.set_cons_succ, List.set_cons_zero]
  refine Ev.ev_step (v := .pointer (some ⟨w.heap.size, 3, none⟩)) rfl rfl (gen_pure (freshAt_other _ (by decide)) (fun _ => by first | rfl | (go_simp; done) | (go_simp; rfl))) ?_
  simp only [Act.put, List.setIfInBounds_toArray, List.set_cons_succ, List.set_cons_zero]
  refine Ev.ev_step (v := .int .i64 r.exp) rfl rfl (gen_load (freshAt_other _ (by decide)) ⟨w.heap.size, 3, none⟩ (c53) (show w.heap.size ≠ (w.heap.size + 1 + 1 + 1) by omega) (fun w hc => by go_simp)) ?_
  simp only [Act.put, List.setIfInBounds_toArray, List.set_cons_succ, List.set_cons_zero]
  refine Ev.ev_step (v := .int .i64 now) rfl rfl (gen_pure (freshAt_other _ (by decide)) (fun _ => by first | rfl | (go_simp; done) | (go_simp; rfl))) ?_
  simp only [Act.put, List.setIfInBounds_toArray, List.set_cons_succ, List.set_cons_zero]
  refine Ev.ev_step (v := .int .i64 (dead r.exp now)) rfl rfl (gen_call (freshAt_other _ (by decide)) 40 #[.int .i64 r.exp, .int .i64 now] (fun _ => by first | (go_simp; done) | (go_simp; rfl)) (fun w => refDead_calls _ _ w)) ?_
  simp only [Act.put, List.setIfInBounds_toArray, List.set_cons_succ, List.set_cons_zero]
  refine Ev.ev_step (v := .pointer (some ⟨w.heap.size, 8, none⟩)) rfl rfl (gen_pure (freshAt_other _ (by decide)) (fun _ => by first | rfl | (go_simp; done) | (go_simp; rfl))) ?_
  simp only [Act.put, List.setIfInBounds_toArray, List.set_cons_succ, List.set_cons_zero]
  refine Ev.ev_step (v := .string r.data) rfl rfl (gen_load (freshAt_other _ (by decide)) ⟨w.heap.size, 8, none⟩ (c58) (show w.heap.size ≠ (w.heap.size + 1 + 1 + 1) by omega) (fun w hc => by go_simp)) ?_
  simp only [Act.put, List.setIfInBounds_toArray, List.set_cons_succ, List.set_cons_zero]
  refine Ev.ev_step (v := .int .i64 ver) rfl rfl (gen_pure (freshAt_other _ (by decide)) (fun _ => by first | rfl | (go_simp; done) | (go_simp; rfl))) ?_
  simp only [Act.put, List.setIfInBounds_toArray, List.set_cons_succ, List.set_cons_zero]
  refine Ev.ev_step (v := .agg (fresh r e now ver).c) rfl rfl (gen_pure (freshAt_other _ (by decide)) (fun _ => by first | rfl | (go_simp; done) | (go_simp; rfl))) ?_
  simp only [Act.put, List.setIfInBounds_toArray, List.set_cons_succ, List.set_cons_zero]
  refine Ev.ev_step (v := undef) rfl rfl (gen_store (fresh r e now ver).c (fun S h => by unfold freshAt; rw [Ev.set_same h, if_pos rfl]) (fun S => by unfold freshAt; split <;> rfl) 38 (.tmp 11) (.tmp 26) rfl rfl rfl (by kernel_rfl) (ent_one _)) ?_
  simp only [Act.put]
  refine Ev.ev_nil (fun w_e hw_e => ?_)
  have hm := hw_e.mod
  have b4e := hw_e.blk
  rw [show freshAt (fresh r e now ver).c (Array.replicate _ true) = (fresh r e now ver).c by unfold freshAt; rw [all_bit (by decide), if_pos rfl]] at b4e
  clear hw_e c60 c52 c53 c58 b4
  replace b1 := hm.blk b1 (by omega)
  replace b2 := hm.blk b2 (by omega)
  replace b3 := hm.blk b3 (by omega)
  replace hB := hm.after hB hB.size (fun k hk => by omega)
  have b4 := b4e
  clear hm b4e
  have hr := HR.out
  have e3 : (r.verb == 3) = false := by rw [hr]; rfl
  have e4 : (r.verb == 4) = false := by rw [hr]; rfl
  have e5 : (r.verb == 5) = false := by rw [hr]; rfl
  have e6 : (r.verb == 6) = true := by rw [hr]; rfl
  have e7 : (r.verb == 7) = false := by rw [hr]; rfl
  have e8 : (r.verb == 8) = false := by rw [hr]; rfl
  have e9 : (r.verb == 9) = false := by rw [hr]; rfl
  have e10 : (r.verb == 10) = false := by rw [hr]; rfl
  have e11 : (r.verb == 11) = false := by rw [hr]; rfl
  have e12 : (r.verb == 12) = false := by rw [hr]; rfl
  have c50 : w_e.cell? ⟨w.heap.size, 0, none⟩ = some (.int .i64 r.verb) := blk_cell b1 0
  clear hr HR
  have c63 : w_e.cell? ⟨w.heap.size + 1, 3, none⟩ = some (.string e.val) := blk_cell b2 3
  have c58 : w_e.cell? ⟨w.heap.size, 8, none⟩ = some (.string r.data) := blk_cell b1 8
  have hs1 : (e.val.size : Int) + (r.data.size : Int) ≤ 1048576 := by have := HS.out; omega
  have hs2 : (e.val.size : Int) ≤ 140737488355328 := by have := HS.out; omega
  have hs3 : (r.data.size : Int) ≤ 140737488355328 := by have := HS.out; omega
  have B1 := Aside0.mk b1
  have B2 := Aside0.mk b2
  have B3 := Aside0.mk b3
  have B4 := Aside0.mk b4
  have HB := Aside0.mk hB
  clear b1 b2 b3 b4 hB
  go_wp2_with (first | (refine gate_ (.load 38 (.tmp 6)) rfl ?_; refine ev_load_row (.load 38 (.tmp 6)) rfl rfl 38 (.tmp 6) rfl (w.heap.size + 1) rfl 38 e.c _ B2.out Tryd.underlying38 rfl (by kernel_rfl) ?_) | (refine gate_ (.store 38 (.tmp 11) (.tmp 62)) rfl ?_; refine ev_store_row (.store 38 (.tmp 11) (.tmp 62)) rfl rfl rfl 38 (.tmp 11) (.tmp 62) rfl (w.heap.size + 1 + 1 + 1) e.c rfl rfl 38 (fresh r e now ver).c B4.out (by kernel_rfl) rfl (ent_one _) ?_; intro w_2 hw2 hm2; have B1n := Aside0.mk (hm2.blk B1.out (by omega)); have B2n := Aside0.mk (hm2.blk B2.out (by omega)); have B3n := Aside0.mk (hm2.blk B3.out (by omega)); have HBn := Aside0.mk (hm2.after HB.out HB.out.size (fun k hk => by omega)); have B4n := Aside0.mk hw2; clear B1 B2 B3 B4 HB hw2 hm2; have B1 := B1n; have B2 := B2n; have B3 := B3n; have B4 := B4n; have HB := HBn; clear B1n B2n B3n B4n HBn))
  clear c50 c63 c58
  have b1 := B1.out
  have b2 := B2.out
  have b3 := B3.out
  have b4 := B4.out
  have hB := HB.out
  clear B1 B2 B3 B4 HB
  refine Ev.region_ev (Gen w_2 (w.heap.size + 1 + 1 + 1) 38 (joinAt r e ver)) (by kernel_rfl) (by kernel_rfl) (gen_start b4 (by unfold joinAt; rw [no_bit, no_bit]; rfl)) ?_
  refine Ev.ev_step (v := .int .i64 ver) rfl rfl (gen_pure (joinAt_other r e ver (by decide) (by decide)) (fun _ => by first | rfl | (go_simp; done) | (go_simp; rfl))) ?_
  simp only [Act.put, List.setIfInBounds_toArray, List.set_cons_succ, List.set_cons_zero]
  refine Ev.ev_step (v := .pointer (some ⟨(w.heap.size + 1), 3, none⟩)) rfl rfl (gen_pure (joinAt_other r e ver (by decide) (by decide)) (fun _ => by first | rfl | (go_simp; done) | (go_simp; rfl))) ?_
  simp only [Act.put, List.setIfInBounds_toArray, List.set_cons_succ, List.set_cons_zero]
  refine Ev.ev_step (v := .string e.val) rfl rfl (gen_load (joinAt_other r e ver (by decide) (by decide)) ⟨(w.heap.size + 1), 3, none⟩ (blk_cell b2 3) (show (w.heap.size + 1) ≠ (w.heap.size + 1 + 1 + 1) by omega) (fun w hc => by go_simp)) ?_
  simp only [Act.put, List.setIfInBounds_toArray, List.set_cons_succ, List.set_cons_zero]
  refine Ev.ev_step (v := .pointer (some ⟨w.heap.size, 8, none⟩)) rfl rfl (gen_pure (joinAt_other r e ver (by decide) (by decide)) (fun _ => by first | rfl | (go_simp; done) | (go_simp; rfl))) ?_
  simp only [Act.put, List.setIfInBounds_toArray, List.set_cons_succ, List.set_cons_zero]
  refine Ev.ev_step (v := .string r.data) rfl rfl (gen_load (joinAt_other r e ver (by decide) (by decide)) ⟨w.heap.size, 8, none⟩ (blk_cell b1 8) (show w.heap.size ≠ (w.heap.size + 1 + 1 + 1) by omega) (fun w hc => by go_simp)) ?_
  simp only [Act.put, List.setIfInBounds_toArray, List.set_cons_succ, List.set_cons_zero]
  refine Ev.ev_step (v := .string (e.val ++ r.data)) rfl rfl (gen_pure (joinAt_other r e ver (by decide) (by decide)) (fun _ => by first | (go_simp; omega) | (go_simp; done))) ?_
  simp only [Act.put, List.setIfInBounds_toArray, List.set_cons_succ, List.set_cons_zero]
  refine Ev.ev_step (v := .pointer (some ⟨(w.heap.size + 1 + 1 + 1), 4, none⟩)) rfl rfl (gen_pure (joinAt_other r e ver (by decide) (by decide)) (fun _ => by first | rfl | (go_simp; done) | (go_simp; rfl))) ?_
  simp only [Act.put, List.setIfInBounds_toArray, List.set_cons_succ, List.set_cons_zero]
  refine Ev.ev_step (v := undef) rfl rfl (gen_cell 4 (.int .i64 ver) (.int .i64 e.cas) (joinAt_h7 r e ver) (joinAt_s7 r e ver) (fun w hc hf => by first | (left; go_simp; done) | (right; go_simp; done))) ?_
  simp only [Act.put]
  refine Ev.ev_step (v := .pointer (some ⟨(w.heap.size + 1 + 1 + 1), 3, none⟩)) rfl rfl (gen_pure (joinAt_other r e ver (by decide) (by decide)) (fun _ => by first | rfl | (go_simp; done) | (go_simp; rfl))) ?_
  simp only [Act.put, List.setIfInBounds_toArray, List.set_cons_succ, List.set_cons_zero]
  refine Ev.ev_step (v := undef) rfl rfl (gen_cell 3 (.string (e.val ++ r.data)) (.string e.val) (joinAt_h9 r e ver) (joinAt_s9 r e ver) (fun w hc hf => by first | (left; go_simp; done) | (right; go_simp; done))) ?_
  simp only [Act.put]
  refine Ev.ev_nil (fun w_f hw_f => ?_)
  have hm := hw_f.mod
  have b4e := hw_f.blk
  rw [show joinAt r e ver (Array.replicate _ true) = (Ent.c { e with val := e.val ++ r.data, cas := ver }) by unfold joinAt; rw [all_bit (by decide), all_bit (by decide), if_pos rfl, if_pos rfl]; rfl] at b4e
  clear hw_f b4
  replace b1 := hm.blk b1 (by omega)
  replace b2 := hm.blk b2 (by omega)
  replace b3 := hm.blk b3 (by omega)
  replace hB := hm.after hB hB.size (fun k hk => by omega)
  have b4 := b4e
  clear hm b4e
  have c50 : w_f.cell? ⟨w.heap.size, 0, none⟩ = some (.int .i64 r.verb) := blk_cell b1 0
  go_wp2
  clear e3 e4 e5 e6 e7 e8 e9 e10 e11 e12 c50 hs1 hs2 hs3
  obtain ⟨W2, hW2⟩ : ∃ W2, W2 = w_f := ⟨_, rfl⟩
  rw [← hW2] at b1 b2 b3 b4 hB ⊢
  clear hW2
  refine Ev.region_ev (Ev.Two W2 (w.heap.size + 1 + 1) (w.heap.size + 1 + 1 + 1) 32 38 A0 (ans 2 0 ⟨#[]⟩) (Ent.c { e with val := e.val ++ r.data, cas := ver }) (Ent.c { e with val := e.val ++ r.data, cas := ver }) 2 3) (by kernel_rfl) (by kernel_rfl) (Ev.two_start b3 b4) ?_
  refine Ev.ev_step (v := .agg (ans 2 0 ⟨#[]⟩)) rfl rfl (Ev.two_call (by decide) (by decide) 41 #[.int .i64 2] (fun _ => by first | (go_simp; done) | (go_simp; rfl)) (fun w => refSay_calls 2 w)) ?_
  simp only [Act.put, List.setIfInBounds_toArray, List.set_cons_succ, List.set_cons_zero]
  refine Ev.ev_step (v := .agg (Ent.c { e with val := e.val ++ r.data, cas := ver })) rfl rfl (Ev.two_load2 (by decide) (by decide) 38 (.tmp 11) rfl rfl _ rfl Tryd.underlying38 rfl (by kernel_rfl)) ?_
  simp only [Act.put, List.setIfInBounds_toArray, List.set_cons_succ, List.set_cons_zero]
  refine Ev.ev_step (v := undef) rfl rfl (Ev.two_store1 (by decide) (by omega) 32 (.tmp 10) (.tmp 80) rfl rfl rfl rfl (by kernel_rfl) (ans_one _ _ _)) ?_
  simp only [Act.put]
  refine Ev.ev_step (v := undef) rfl rfl (Ev.two_store2 (by decide) (by omega) 38 (.tmp 11) (.tmp 81) rfl rfl rfl rfl (by kernel_rfl) (ent_one _)) ?_
  simp only [Act.put]
  refine Ev.ev_step (v := .bool true) rfl rfl (Ev.two_pure (by decide) (by decide) (fun _ => by rfl)) ?_
  simp only [Act.put, List.setIfInBounds_toArray, List.set_cons_succ, List.set_cons_zero]
  refine Ev.ev_step (v := .bool false) rfl rfl (Ev.two_pure (by decide) (by decide) (fun _ => by rfl)) ?_
  simp only [Act.put, List.setIfInBounds_toArray, List.set_cons_succ, List.set_cons_zero]
  refine Ev.ev_nil (fun w_e hw_e => ?_)
  obtain ⟨hM_e, hA_e, hX_e⟩ := Ev.two_end hw_e (by decide) (by decide)
  clear hw_e
  go_wp2
  refine bodyPost_ret (Ev.results_c3 rfl rfl hA_e Tryd.underlying32 rfl (by kernel_rfl) rfl hX_e Tryd.underlying38 rfl (by kernel_rfl) rfl rfl) rfl ⟨rfl, ?_⟩
  exact Mod.after hB hB.size hM_e (fun k hk => by omega)
set_option maxHeartbeats 4000000 in
set_option maxRecDepth 100000 in
theorem rnext_pre (r : Rq) (kv : Value) (e : Ent) (now ver : Int) (w : World) (hs : e.val.size + r.data.size ≤ 1048576) (hr : r.verb = 7) :
    Calls Tryd.prog 18 #[.agg (r.c kv), .agg e.c, .bool true, .int .i64 now, .int .i64 ver] w fun e_ w' => e_ = .returned (.tuple #[.agg (ans 2 0 ⟨#[]⟩), .agg (Ent.c { e with val := r.data ++ e.val, cas := ver }), .bool true, .bool false]) ∧ Below w.heap.size w w' := by
  have HR := Aside0.mk hr
  have HS := Aside0.mk hs
  clear hs
  clear hr
  simp only [Rq.c, Ent.c]
  go_enter Tryd.func18, Tryd.ntmps18
  go_wp2
  obtain ⟨W, hW⟩ : ∃ W, W = (((w.alloc (.cells (r.c kv) 27)).alloc (.cells e.c 38)).alloc (.cells A0 32)).alloc (.cells E0 38) := ⟨_, rfl⟩
  obtain ⟨b1, b2, b3, b4, hB⟩ := four w (.cells (r.c kv) 27) (.cells e.c 38) (.cells A0 32) (.cells E0 38)
  change Code.wp _ _ _ _ ((((w.alloc (.cells (r.c kv) 27)).alloc (.cells e.c 38)).alloc (.cells A0 32)).alloc (.cells E0 38))
  rw [← hW] at b1 b2 b3 b4 hB ⊢
  clear hW
  have c60 : W.cell? ⟨w.heap.size + 1, 0, none⟩ = some (.string e.key) := blk_cell b2 0
  have c52 : W.cell? ⟨w.heap.size, 2, none⟩ = some (.int .i64 r.fl) := blk_cell b1 2
  have c53 : W.cell? ⟨w.heap.size, 3, none⟩ = some (.int .i64 r.exp) := blk_cell b1 3
  have c58 : W.cell? ⟨w.heap.size, 8, none⟩ = some (.string r.data) := blk_cell b1 8
  refine Ev.region_ev (Gen W (w.heap.size + 1 + 1 + 1) 38 (freshAt (fresh r e now ver).c)) (by kernel_rfl) (by kernel_rfl) (gen_start b4 (by unfold freshAt; rw [no_bit]; rfl)) ?_
  refine Ev.ev_step (v := .pointer (some ⟨(w.heap.size + 1), 0, none⟩)) rfl rfl (gen_pure (freshAt_other _ (by decide)) (fun _ => by first | rfl | (go_simp; done) | (go_simp; rfl))) ?_
  simp only [Act.put, List.setIfInBounds_toArray, List.set_cons_succ, List.set_cons_zero]
  refine Ev.ev_step (v := .string e.key) rfl rfl (gen_load (freshAt_other _ (by decide)) ⟨(w.heap.size + 1), 0, none⟩ (c60) (show (w.heap.size + 1) ≠ (w.heap.size + 1 + 1 + 1) by omega) (fun w hc => by go_simp)) ?_
  simp only [Act.put, List.setIfInBounds_toArray, List.set_cons_succ, List.set_cons_zero]
  refine Ev.ev_step (v := .pointer (some ⟨w.heap.size, 2, none⟩)) rfl rfl (gen_pure (freshAt_other _ (by decide)) (fun _ => by first | rfl | (go_simp; done) | (go_simp; rfl))) ?_
  simp only [Act.put, List.setIfInBounds_toArray, List.set_cons_succ, List.set_cons_zero]
  refine Ev.ev_step (v := .int .i64 r.fl) rfl rfl (gen_load (freshAt_other _ (by decide)) ⟨w.heap.size, 2, none⟩ (c52) (show w.heap.size ≠ (w.heap.size + 1 + 1 + 1) by omega) (fun w hc => by go_simp)) ?_
  simp only [Act.put, List.setIfInBounds_toArray, List.set_cons_succ, List.set_cons_zero]
  refine Ev.ev_step (v := .pointer (some ⟨w.heap.size, 3, none⟩)) rfl rfl (gen_pure (freshAt_other _ (by decide)) (fun _ => by first | rfl | (go_simp; done) | (go_simp; rfl))) ?_
  simp only [Act.put, List.setIfInBounds_toArray, List.set_cons_succ, List.set_cons_zero]
  refine Ev.ev_step (v := .int .i64 r.exp) rfl rfl (gen_load (freshAt_other _ (by decide)) ⟨w.heap.size, 3, none⟩ (c53) (show w.heap.size ≠ (w.heap.size + 1 + 1 + 1) by omega) (fun w hc => by go_simp)) ?_
  simp only [Act.put, List.setIfInBounds_toArray, List.set_cons_succ, List.set_cons_zero]
  refine Ev.ev_step (v := .int .i64 now) rfl rfl (gen_pure (freshAt_other _ (by decide)) (fun _ => by first | rfl | (go_simp; done) | (go_simp; rfl))) ?_
  simp only [Act.put, List.setIfInBounds_toArray, List.set_cons_succ, List.set_cons_zero]
  refine Ev.ev_step (v := .int .i64 (dead r.exp now)) rfl rfl (gen_call (freshAt_other _ (by decide)) 40 #[.int .i64 r.exp, .int .i64 now] (fun _ => by first | (go_simp; done) | (go_simp; rfl)) (fun w => refDead_calls _ _ w)) ?_
  simp only [Act.put, List.setIfInBounds_toArray, List.set_cons_succ, List.set_cons_zero]
  refine Ev.ev_step (v := .pointer (some ⟨w.heap.size, 8, none⟩)) rfl rfl (gen_pure (freshAt_other _ (by decide)) (fun _ => by first | rfl | (go_simp; done) | (go_simp; rfl))) ?_
  simp only [Act.put, List.setIfInBounds_toArray, List.set_cons_succ, List.set_cons_zero]
  refine Ev.ev_step (v := .string r.data) rfl rfl (gen_load (freshAt_other _ (by decide)) ⟨w.heap.size, 8, none⟩ (c58) (show w.heap.size ≠ (w.heap.size + 1 + 1 + 1) by omega) (fun w hc => by go_simp)) ?_
  simp only [Act.put, List.setIfInBounds_toArray, List.set_cons_succ, List.set_cons_zero]
  refine Ev.ev_step (v := .int .i64 ver) rfl rfl (gen_pure (freshAt_other _ (by decide)) (fun _ => by first | rfl | (go_simp; done) | (go_simp; rfl))) ?_
  simp only [Act.put, List.setIfInBounds_toArray, List.set_cons_succ, List.set_cons_zero]
  refine Ev.ev_step (v := .agg (fresh r e now ver).c) rfl rfl (gen_pure (freshAt_other _ (by decide)) (fun _ => by first | rfl | (go_simp; done) | (go_simp; rfl))) ?_
  simp only [Act.put, List.setIfInBounds_toArray, List.set_cons_succ, List.set_cons_zero]
  refine Ev.ev_step (v := undef) rfl rfl (gen_store (fresh r e now ver).c (fun S h => by unfold freshAt; rw [Ev.set_same h, if_pos rfl]) (fun S => by unfold freshAt; split <;> rfl) 38 (.tmp 11) (.tmp 26) rfl rfl rfl (by kernel_rfl) (ent_one _)) ?_
  simp only [Act.put]
  refine Ev.ev_nil (fun w_e hw_e => ?_)
  have hm := hw_e.mod
  have b4e := hw_e.blk
  rw [show freshAt (fresh r e now ver).c (Array.replicate _ true) = (fresh r e now ver).c by unfold freshAt; rw [all_bit (by decide), if_pos rfl]] at b4e
  clear hw_e c60 c52 c53 c58 b4
  replace b1 := hm.blk b1 (by omega)
  replace b2 := hm.blk b2 (by omega)
  replace b3 := hm.blk b3 (by omega)
  replace hB := hm.after hB hB.size (fun k hk => by omega)
  have b4 := b4e
  clear hm b4e
  have hr := HR.out
  have e3 : (r.verb == 3) = false := by rw [hr]; rfl
  have e4 : (r.verb == 4) = false := by rw [hr]; rfl
  have e5 : (r.verb == 5) = false := by rw [hr]; rfl
  have e6 : (r.verb == 6) = false := by rw [hr]; rfl
  have e7 : (r.verb == 7) = true := by rw [hr]; rfl
  have e8 : (r.verb == 8) = false := by rw [hr]; rfl
  have e9 : (r.verb == 9) = false := by rw [hr]; rfl
  have e10 : (r.verb == 10) = false := by rw [hr]; rfl
  have e11 : (r.verb == 11) = false := by rw [hr]; rfl
  have e12 : (r.verb == 12) = false := by rw [hr]; rfl
  have c50 : w_e.cell? ⟨w.heap.size, 0, none⟩ = some (.int .i64 r.verb) := blk_cell b1 0
  clear hr HR
  have c63 : w_e.cell? ⟨w.heap.size + 1, 3, none⟩ = some (.string e.val) := blk_cell b2 3
  have c58 : w_e.cell? ⟨w.heap.size, 8, none⟩ = some (.string r.data) := blk_cell b1 8
  have hs1 : (e.val.size : Int) + (r.data.size : Int) ≤ 1048576 := by have := HS.out; omega
  have hs2 : (e.val.size : Int) ≤ 140737488355328 := by have := HS.out; omega
  have hs3 : (r.data.size : Int) ≤ 140737488355328 := by have := HS.out; omega
  have B1 := Aside0.mk b1
  have B2 := Aside0.mk b2
  have B3 := Aside0.mk b3
  have B4 := Aside0.mk b4
  have HB := Aside0.mk hB
  clear b1 b2 b3 b4 hB
  go_wp2_with (first | (refine gate_ (.load 38 (.tmp 6)) rfl ?_; refine ev_load_row (.load 38 (.tmp 6)) rfl rfl 38 (.tmp 6) rfl (w.heap.size + 1) rfl 38 e.c _ B2.out Tryd.underlying38 rfl (by kernel_rfl) ?_) | (refine gate_ (.store 38 (.tmp 11) (.tmp 62)) rfl ?_; refine ev_store_row (.store 38 (.tmp 11) (.tmp 62)) rfl rfl rfl 38 (.tmp 11) (.tmp 62) rfl (w.heap.size + 1 + 1 + 1) e.c rfl rfl 38 (fresh r e now ver).c B4.out (by kernel_rfl) rfl (ent_one _) ?_; intro w_2 hw2 hm2; have B1n := Aside0.mk (hm2.blk B1.out (by omega)); have B2n := Aside0.mk (hm2.blk B2.out (by omega)); have B3n := Aside0.mk (hm2.blk B3.out (by omega)); have HBn := Aside0.mk (hm2.after HB.out HB.out.size (fun k hk => by omega)); have B4n := Aside0.mk hw2; clear B1 B2 B3 B4 HB hw2 hm2; have B1 := B1n; have B2 := B2n; have B3 := B3n; have B4 := B4n; have HB := HBn; clear B1n B2n B3n B4n HBn))
  clear c50 c63 c58
  have b1 := B1.out
  have b2 := B2.out
  have b3 := B3.out
  have b4 := B4.out
  have hB := HB.out
  clear B1 B2 B3 B4 HB
  refine Ev.region_ev (Gen w_2 (w.heap.size + 1 + 1 + 1) 38 (joinAt r e ver)) (by kernel_rfl) (by kernel_rfl) (gen_start b4 (by unfold joinAt; rw [no_bit, no_bit]; rfl)) ?_
  refine Ev.ev_step (v := .int .i64 ver) rfl rfl (gen_pure (joinAt_other r e ver (by decide) (by decide)) (fun _ => by first | rfl | (go_simp; done) | (go_simp; rfl))) ?_
  simp only [Act.put, List.setIfInBounds_toArray, List.set_cons_succ, List.set_cons_zero]
  refine Ev.ev_step (v := .pointer (some ⟨(w.heap.size + 1), 3, none⟩)) rfl rfl (gen_pure (joinAt_other r e ver (by decide) (by decide)) (fun _ => by first | rfl | (go_simp; done) | (go_simp; rfl))) ?_
  simp only [Act.put, List.setIfInBounds_toArray, List.set_cons_succ, List.set_cons_zero]
  refine Ev.ev_step (v := .string e.val) rfl rfl (gen_load (joinAt_other r e ver (by decide) (by decide)) ⟨(w.heap.size + 1), 3, none⟩ (blk_cell b2 3) (show (w.heap.size + 1) ≠ (w.heap.size + 1 + 1 + 1) by omega) (fun w hc => by go_simp)) ?_
  simp only [Act.put, List.setIfInBounds_toArray, List.set_cons_succ, List.set_cons_zero]
  refine Ev.ev_step (v := .pointer (some ⟨w.heap.size, 8, none⟩)) rfl rfl (gen_pure (joinAt_other r e ver (by decide) (by decide)) (fun _ => by first | rfl | (go_simp; done) | (go_simp; rfl))) ?_
  simp only [Act.put, List.setIfInBounds_toArray, List.set_cons_succ, List.set_cons_zero]
  refine Ev.ev_step (v := .string r.data) rfl rfl (gen_load (joinAt_other r e ver (by decide) (by decide)) ⟨w.heap.size, 8, none⟩ (blk_cell b1 8) (show w.heap.size ≠ (w.heap.size + 1 + 1 + 1) by omega) (fun w hc => by go_simp)) ?_
  simp only [Act.put, List.setIfInBounds_toArray, List.set_cons_succ, List.set_cons_zero]
  refine Ev.ev_step (v := .string (e.val ++ r.data)) rfl rfl (gen_pure (joinAt_other r e ver (by decide) (by decide)) (fun _ => by first | (go_simp; omega) | (go_simp; done))) ?_
  simp only [Act.put, List.setIfInBounds_toArray, List.set_cons_succ, List.set_cons_zero]
  refine Ev.ev_step (v := .pointer (some ⟨(w.heap.size + 1 + 1 + 1), 4, none⟩)) rfl rfl (gen_pure (joinAt_other r e ver (by decide) (by decide)) (fun _ => by first | rfl | (go_simp; done) | (go_simp; rfl))) ?_
  simp only [Act.put, List.setIfInBounds_toArray, List.set_cons_succ, List.set_cons_zero]
  refine Ev.ev_step (v := undef) rfl rfl (gen_cell 4 (.int .i64 ver) (.int .i64 e.cas) (joinAt_h7 r e ver) (joinAt_s7 r e ver) (fun w hc hf => by first | (left; go_simp; done) | (right; go_simp; done))) ?_
  simp only [Act.put]
  refine Ev.ev_step (v := .pointer (some ⟨(w.heap.size + 1 + 1 + 1), 3, none⟩)) rfl rfl (gen_pure (joinAt_other r e ver (by decide) (by decide)) (fun _ => by first | rfl | (go_simp; done) | (go_simp; rfl))) ?_
  simp only [Act.put, List.setIfInBounds_toArray, List.set_cons_succ, List.set_cons_zero]
  refine Ev.ev_step (v := undef) rfl rfl (gen_cell 3 (.string (e.val ++ r.data)) (.string e.val) (joinAt_h9 r e ver) (joinAt_s9 r e ver) (fun w hc hf => by first | (left; go_simp; done) | (right; go_simp; done))) ?_
  simp only [Act.put]
  refine Ev.ev_nil (fun w_f hw_f => ?_)
  have hm := hw_f.mod
  have b4e := hw_f.blk
  rw [show joinAt r e ver (Array.replicate _ true) = (Ent.c { e with val := e.val ++ r.data, cas := ver }) by unfold joinAt; rw [all_bit (by decide), all_bit (by decide), if_pos rfl, if_pos rfl]; rfl] at b4e
  clear hw_f b4
  replace b1 := hm.blk b1 (by omega)
  replace b2 := hm.blk b2 (by omega)
  replace b3 := hm.blk b3 (by omega)
  replace hB := hm.after hB hB.size (fun k hk => by omega)
  have b4 := b4e
  clear hm b4e
  have c50 : w_f.cell? ⟨w.heap.size, 0, none⟩ = some (.int .i64 r.verb) := blk_cell b1 0
  have c63 : w_f.cell? ⟨w.heap.size + 1, 3, none⟩ = some (.string e.val) := blk_cell b2 3
  have c58 : w_f.cell? ⟨w.heap.size, 8, none⟩ = some (.string r.data) := blk_cell b1 8
  have c_3 : w_f.cell? ⟨w.heap.size + 1 + 1 + 1, 3, none⟩ = some (.string (e.val ++ r.data)) := blk_cell b4 3
  have f_3 : w_f.frozen? ⟨w.heap.size + 1 + 1 + 1, 3, none⟩ = false := blk_frozen b4 3
  go_wp2
  clear e3 e4 e5 e6 e7 e8 e9 e10 e11 e12 c50 c63 c58 c_3 f_3 hs1 hs2 hs3
  obtain ⟨W2, hW2⟩ : ∃ W2, W2 = w_f.setCell ⟨w.heap.size + 1 + 1 + 1, 3, none⟩ (.string (r.data ++ e.val)) := ⟨_, rfl⟩
  have hM : Mod (fun k => k = w.heap.size + 1 + 1 + 1) w_f W2 := by rw [hW2]; exact Mod.setCell (p := ⟨w.heap.size + 1 + 1 + 1, 3, none⟩) (Mod.refl (fun k => k = w.heap.size + 1 + 1 + 1) _) (.inl rfl) _
  have b4s : W2.heap[w.heap.size + 1 + 1 + 1]? = some (.cells (Ent.c { e with val := r.data ++ e.val, cas := ver }) 38 (0, 0)) := by rw [hW2]; exact blk_put b4 3 _ rfl
  clear b4
  have b4 := b4s
  replace b3 := hM.blk b3 (by omega)
  replace hB : Below w.heap.size w W2 := hM.after hB hB.size (fun k hk => by omega)
  rw [← hW2]
  clear hW2 hM b1 b2 b4s
  refine Ev.region_ev (Ev.Two W2 (w.heap.size + 1 + 1) (w.heap.size + 1 + 1 + 1) 32 38 A0 (ans 2 0 ⟨#[]⟩) (Ent.c { e with val := r.data ++ e.val, cas := ver }) (Ent.c { e with val := r.data ++ e.val, cas := ver }) 2 3) (by kernel_rfl) (by kernel_rfl) (Ev.two_start b3 b4) ?_
  refine Ev.ev_step (v := .agg (ans 2 0 ⟨#[]⟩)) rfl rfl (Ev.two_call (by decide) (by decide) 41 #[.int .i64 2] (fun _ => by first | (go_simp; done) | (go_simp; rfl)) (fun w => refSay_calls 2 w)) ?_
  simp only [Act.put, List.setIfInBounds_toArray, List.set_cons_succ, List.set_cons_zero]
  refine Ev.ev_step (v := .agg (Ent.c { e with val := r.data ++ e.val, cas := ver })) rfl rfl (Ev.two_load2 (by decide) (by decide) 38 (.tmp 11) rfl rfl _ rfl Tryd.underlying38 rfl (by kernel_rfl)) ?_
  simp only [Act.put, List.setIfInBounds_toArray, List.set_cons_succ, List.set_cons_zero]
  refine Ev.ev_step (v := undef) rfl rfl (Ev.two_store1 (by decide) (by omega) 32 (.tmp 10) (.tmp 80) rfl rfl rfl rfl (by kernel_rfl) (ans_one _ _ _)) ?_
  simp only [Act.put]
  refine Ev.ev_step (v := undef) rfl rfl (Ev.two_store2 (by decide) (by omega) 38 (.tmp 11) (.tmp 81) rfl rfl rfl rfl (by kernel_rfl) (ent_one _)) ?_
  simp only [Act.put]
  refine Ev.ev_step (v := .bool true) rfl rfl (Ev.two_pure (by decide) (by decide) (fun _ => by rfl)) ?_
  simp only [Act.put, List.setIfInBounds_toArray, List.set_cons_succ, List.set_cons_zero]
  refine Ev.ev_step (v := .bool false) rfl rfl (Ev.two_pure (by decide) (by decide) (fun _ => by rfl)) ?_
  simp only [Act.put, List.setIfInBounds_toArray, List.set_cons_succ, List.set_cons_zero]
  refine Ev.ev_nil (fun w_e hw_e => ?_)
  obtain ⟨hM_e, hA_e, hX_e⟩ := Ev.two_end hw_e (by decide) (by decide)
  clear hw_e
  go_wp2
  refine bodyPost_ret (Ev.results_c3 rfl rfl hA_e Tryd.underlying32 rfl (by kernel_rfl) rfl hX_e Tryd.underlying38 rfl (by kernel_rfl) rfl rfl) rfl ⟨rfl, ?_⟩
  exact Mod.after hB hB.size hM_e (fun k hk => by omega)
end Go.Proofs.YtepklobkppdliaaDoor.Md
namespace Go.Proofs.YtepklobkppdliaaDoor.Md
open Go.RowKit Go.Proofs.YtepklobkppdliaaDoorW.PrintWords Go.Proofs.YtepklobkppdliaaDoorW.PrintLast Go.Proofs.YtepklobkppdliaaDoorW.PrintMore Go.Proofs.YtepklobkppdliaaDoor.Lib Go.Proofs.YtepklobkppdliaaDoor.Open
set_option maxHeartbeats 4000000 in
set_option maxRecDepth 100000 in
theorem rcount_no (r : Rq) (kv : Value) (e : Ent) (ver : Int) (w : World) :
    Calls Tryd.prog 42 #[.agg (r.c kv), .agg e.c, .bool false, .int .i64 ver] w fun e_ w' => e_ = .returned (.tuple #[.agg (ans 5 0 ⟨#[]⟩), .agg e.c, .bool false, .bool false]) ∧ Below w.heap.size w w' := by
  simp only [Rq.c, Ent.c]
  go_enter Tryd.func42, Tryd.ntmps42
  go_wp2
  obtain ⟨V, hV⟩ : ∃ V, V = (((w.alloc (.cells (r.c kv) 27)).alloc (.cells e.c 38)).alloc (.cells A0 32)).alloc (.cells E0 38) := ⟨_, rfl⟩
  obtain ⟨b1, b2, b3, b4, hB⟩ := four w (.cells (r.c kv) 27) (.cells e.c 38) (.cells A0 32) (.cells E0 38)
  change Code.wp _ _ _ _ (((((w.alloc (.cells (r.c kv) 27)).alloc (.cells e.c 38)).alloc (.cells A0 32)).alloc (.cells E0 38)))
  rw [← hV] at b1 b2 b3 b4 hB ⊢
  clear hV
  obtain ⟨W, hW⟩ : ∃ W, W = V := ⟨_, rfl⟩
  have b2w : W.heap[w.heap.size + 1]? = some (.cells e.c 38 (0, 0)) := by rw [hW]; exact b2
  have b3w : W.heap[w.heap.size + 1 + 1]? = some (.cells A0 32 (0, 0)) := by rw [hW]; exact b3
  have b4w : W.heap[w.heap.size + 1 + 1 + 1]? = some (.cells E0 38 (0, 0)) := by rw [hW]; exact b4
  have hBw : Below w.heap.size w W := by rw [hW]; exact hB
  rw [← hW]
  clear hW hB b1 b2 b3 b4
  refine Ev.region_ev (Ev.Two W (w.heap.size + 1 + 1) (w.heap.size + 1 + 1 + 1) 32 38 A0 (ans 5 0 ⟨#[]⟩) E0 e.c 2 3) (by kernel_rfl) (by kernel_rfl) (Ev.two_start b3w b4w) ?_
  refine Ev.ev_step (v := .agg (ans 5 0 ⟨#[]⟩)) rfl rfl (Ev.two_pure (by decide) (by decide) (fun _ => by first | (go_simp; done) | (go_simp; rfl))) ?_
  simp only [Act.put, List.setIfInBounds_toArray, List.set_cons_succ, List.set_cons_zero]
  refine Ev.ev_step (v := .agg e.c) rfl rfl (Ev.two_load (by decide) (by decide) 38 (.tmp 5) rfl (w.heap.size + 1) rfl _ _ _ b2w (by omega) (by omega) Tryd.underlying38 rfl (by kernel_rfl)) ?_
  simp only [Act.put, List.setIfInBounds_toArray, List.set_cons_succ, List.set_cons_zero]
  refine Ev.ev_step (v := undef) rfl rfl (Ev.two_store1 (by decide) (by omega) 32 (.tmp 8) (.tmp 16) rfl rfl rfl rfl (by kernel_rfl) (ans_one _ _ _)) ?_
  simp only [Act.put]
  refine Ev.ev_step (v := undef) rfl rfl (Ev.two_store2 (by decide) (by omega) 38 (.tmp 9) (.tmp 17) rfl rfl rfl rfl (by kernel_rfl) (ent_one _)) ?_
  simp only [Act.put]
  refine Ev.ev_step (v := .bool false) rfl rfl (Ev.two_pure (by decide) (by decide) (fun _ => by rfl)) ?_
  simp only [Act.put, List.setIfInBounds_toArray, List.set_cons_succ, List.set_cons_zero]
  refine Ev.ev_step (v := .bool false) rfl rfl (Ev.two_pure (by decide) (by decide) (fun _ => by rfl)) ?_
  simp only [Act.put, List.setIfInBounds_toArray, List.set_cons_succ, List.set_cons_zero]
  refine Ev.ev_nil (fun w_e hw_e => ?_)
  obtain ⟨hM_e, hA_e, hX_e⟩ := Ev.two_end hw_e (by decide) (by decide)
  clear hw_e
  go_wp2
  refine bodyPost_ret (Ev.results_c3 rfl rfl hA_e Tryd.underlying32 rfl (by kernel_rfl) rfl hX_e Tryd.underlying38 rfl (by kernel_rfl) rfl rfl) rfl ⟨rfl, ?_⟩
  exact Mod.after hBw hBw.size hM_e (fun k hk => by omega)

set_option maxHeartbeats 4000000 in
set_option maxRecDepth 100000 in
theorem rcount_bad (r : Rq) (kv : Value) (e : Ent) (ver : Int) (w : World) (h : numOf e.val = none) :
    Calls Tryd.prog 42 #[.agg (r.c kv), .agg e.c, .bool true, .int .i64 ver] w fun e_ w' => e_ = .returned (.tuple #[.agg (ans 13 0 badNum), .agg e.c, .bool false, .bool false]) ∧ Below w.heap.size w w' := by
  have HN := Aside0.mk h
  clear h
  simp only [Rq.c, Ent.c]
  go_enter Tryd.func42, Tryd.ntmps42
  go_wp2_with (go_at_call 55; refine (refNumber_calls _ _).mono ?_; rintro e_1 w_1 ⟨rfl, hd⟩; obtain ⟨⟨nq, rfl⟩⟩ := hd; rw [HN.out]; simp only [nout]; clear HN)
  obtain ⟨V, hV⟩ : ∃ V, V = (((w.alloc (.cells (r.c kv) 27)).alloc (.cells e.c 38)).alloc (.cells A0 32)).alloc (.cells E0 38) := ⟨_, rfl⟩
  obtain ⟨b1, b2, b3, b4, hB⟩ := four w (.cells (r.c kv) 27) (.cells e.c 38) (.cells A0 32) (.cells E0 38)
  change Code.wp _ _ _ _ (((((w.alloc (.cells (r.c kv) 27)).alloc (.cells e.c 38)).alloc (.cells A0 32)).alloc (.cells E0 38)).drewN nq)
  rw [← hV] at b1 b2 b3 b4 hB ⊢
  clear hV
  obtain ⟨W, hW⟩ : ∃ W, W = V.drewN nq := ⟨_, rfl⟩
  have b2w : W.heap[w.heap.size + 1]? = some (.cells e.c 38 (0, 0)) := by rw [hW]; exact b2
  have b3w : W.heap[w.heap.size + 1 + 1]? = some (.cells A0 32 (0, 0)) := by rw [hW]; exact b3
  have b4w : W.heap[w.heap.size + 1 + 1 + 1]? = some (.cells E0 38 (0, 0)) := by rw [hW]; exact b4
  have hBw : Below w.heap.size w W := by rw [hW]; exact pw_below_drewN hB nq
  rw [← hW]
  clear hW hB b1 b2 b3 b4
  refine Ev.region_ev (Ev.Two W (w.heap.size + 1 + 1) (w.heap.size + 1 + 1 + 1) 32 38 A0 (ans 13 0 badNum) E0 e.c 2 3) (by kernel_rfl) (by kernel_rfl) (Ev.two_start b3w b4w) ?_
  refine Ev.ev_step (v := .agg (ans 13 0 badNum)) rfl rfl (Ev.two_pure (by decide) (by decide) (fun _ => by first | (go_simp; done) | (go_simp; rfl))) ?_
  simp only [Act.put, List.setIfInBounds_toArray, List.set_cons_succ, List.set_cons_zero]
  refine Ev.ev_step (v := .agg e.c) rfl rfl (Ev.two_load (by decide) (by decide) 38 (.tmp 5) rfl (w.heap.size + 1) rfl _ _ _ b2w (by omega) (by omega) Tryd.underlying38 rfl (by kernel_rfl)) ?_
  simp only [Act.put, List.setIfInBounds_toArray, List.set_cons_succ, List.set_cons_zero]
  refine Ev.ev_step (v := undef) rfl rfl (Ev.two_store1 (by decide) (by omega) 32 (.tmp 8) (.tmp 26) rfl rfl rfl rfl (by kernel_rfl) (ans_one _ _ _)) ?_
  simp only [Act.put]
  refine Ev.ev_step (v := undef) rfl rfl (Ev.two_store2 (by decide) (by omega) 38 (.tmp 9) (.tmp 27) rfl rfl rfl rfl (by kernel_rfl) (ent_one _)) ?_
  simp only [Act.put]
  refine Ev.ev_step (v := .bool false) rfl rfl (Ev.two_pure (by decide) (by decide) (fun _ => by rfl)) ?_
  simp only [Act.put, List.setIfInBounds_toArray, List.set_cons_succ, List.set_cons_zero]
  refine Ev.ev_step (v := .bool false) rfl rfl (Ev.two_pure (by decide) (by decide) (fun _ => by rfl)) ?_
  simp only [Act.put, List.setIfInBounds_toArray, List.set_cons_succ, List.set_cons_zero]
  refine Ev.ev_nil (fun w_e hw_e => ?_)
  obtain ⟨hM_e, hA_e, hX_e⟩ := Ev.two_end hw_e (by decide) (by decide)
  clear hw_e
  go_wp2
  refine bodyPost_ret (Ev.results_c3 rfl rfl hA_e Tryd.underlying32 rfl (by kernel_rfl) rfl hX_e Tryd.underlying38 rfl (by kernel_rfl) rfl rfl) rfl ⟨rfl, ?_⟩
  exact Mod.after hBw hBw.size hM_e (fun k hk => by omega)

set_option maxHeartbeats 4000000 in
set_option maxRecDepth 100000 in
theorem rcount_up (r : Rq) (kv : Value) (e : Ent) (ver n : Int) (m : Nat) (w : World) (h : numOf e.val = some n) (hr : r.verb = 10)  (hm : IntKind.u64.wrap (n + r.delta) = (m : Int)) :
    Calls Tryd.prog 42 #[.agg (r.c kv), .agg e.c, .bool true, .int .i64 ver] w fun e_ w' => e_ = .returned (.tuple #[.agg (ans 8 (m : Int) ⟨#[]⟩), .agg (Ent.c { e with val := dec m, cas := ver }), .bool true, .bool false]) ∧ Below w.heap.size w w' := by
  obtain ⟨n0, n1⟩ := numOf_bd h
  have HN := Aside0.mk h
  have hm0 : 0 ≤ IntKind.u64.wrap (n + r.delta) ∧ IntKind.u64.wrap (n + r.delta) < 18446744073709551616 := by rw [IntKind.wrap_u64]; omega
  have HM := Aside0.mk (show m < 18446744073709551616 by omega)
  clear hm0
  have hr2 : (r.verb == 10) = true := by simp [hr]
  clear hr h
  simp only [Rq.c, Ent.c]
  go_enter Tryd.func42, Tryd.ntmps42
  go_wp2_with (go_at_call 55; refine (refNumber_calls _ _).mono ?_; rintro e_1 w_1 ⟨rfl, hd⟩; obtain ⟨⟨nq, rfl⟩⟩ := hd; rw [HN.out]; simp only [nout]; clear HN)
  go_at_call 56
  obtain ⟨V, hV⟩ : ∃ V, V = (((w.alloc (.cells (r.c kv) 27)).alloc (.cells e.c 38)).alloc (.cells A0 32)).alloc (.cells E0 38) := ⟨_, rfl⟩
  obtain ⟨b1, b2, b3, b4, hB⟩ := four w (.cells (r.c kv) 27) (.cells e.c 38) (.cells A0 32) (.cells E0 38)
  change Calls _ _ _ (((((w.alloc (.cells (r.c kv) 27)).alloc (.cells e.c 38)).alloc (.cells A0 32)).alloc (.cells E0 38)).drewN nq) _
  rw [← hV] at b1 b2 b3 b4 hB ⊢
  clear hV
  refine (refDigits_calls m HM.out _).mono ?_
  rintro e_1 w_1 ⟨rfl, hb⟩
  have hB1 := Aside0.mk ((pw_below_drewN hB nq).trans (hb.mono hB.size))
  have B2 := Aside0.mk ((hb.block _ (blk_lt b2)).trans b2)
  have B3 := Aside0.mk ((hb.block _ (blk_lt b3)).trans b3)
  have B4 := Aside0.mk ((hb.block _ (blk_lt b4)).trans b4)
  have c3 : w_1.cell? ⟨w.heap.size + 1, 3, none⟩ = some (.string e.val) := blk_cell B2.out 3
  have c4 : w_1.cell? ⟨w.heap.size + 1, 4, none⟩ = some (.int .i64 e.cas) := blk_cell B2.out 4
  have f3 : w_1.frozen? ⟨w.heap.size + 1, 3, none⟩ = false := blk_frozen B2.out 3
  have f4 : w_1.frozen? ⟨w.heap.size + 1, 4, none⟩ = false := blk_frozen B2.out 4
  clear b1 b2 b3 b4 hB hb HM
  go_wp2
  obtain ⟨W, hW⟩ : ∃ W, W = (w_1.setCell ⟨w.heap.size + 1, 3, none⟩ (.string (dec m))).setCell ⟨w.heap.size + 1, 4, none⟩ (.int .i64 ver) := ⟨_, rfl⟩
  have hM : Mod (fun k => k = w.heap.size + 1) w_1 W := by rw [hW]; exact Mod.setCell (p := ⟨w.heap.size + 1, 4, none⟩) (Mod.setCell (p := ⟨w.heap.size + 1, 3, none⟩) (Mod.refl (fun k => k = w.heap.size + 1) _) (.inl rfl) _) (.inl rfl) _
  have b2w : W.heap[w.heap.size + 1]? = some (.cells (Ent.c { e with val := dec m, cas := ver }) 38 (0, 0)) := by rw [hW]; exact blk_put (blk_put B2.out 3 _ rfl) 4 _ rfl
  have b3w : W.heap[w.heap.size + 1 + 1]? = some (.cells A0 32 (0, 0)) := hM.blk B3.out (by omega)
  have b4w : W.heap[w.heap.size + 1 + 1 + 1]? = some (.cells E0 38 (0, 0)) := hM.blk B4.out (by omega)
  have hBw : Below w.heap.size w W := hM.after hB1.out hB1.out.size (fun k hk => by omega)
  rw [← hW]
  clear hW hM c3 c4 f3 f4
  refine Ev.region_ev (Ev.Two W (w.heap.size + 1 + 1) (w.heap.size + 1 + 1 + 1) 32 38 A0 (ans 8 (m : Int) ⟨#[]⟩) E0 (Ent.c { e with val := dec m, cas := ver }) 3 4) (by kernel_rfl) (by kernel_rfl) (Ev.two_start b3w b4w) ?_
  refine Ev.ev_step (v := .int .u64 (m : Int)) rfl rfl (Ev.two_pure (by decide) (by decide) (fun _ => by rfl)) ?_
  simp only [Act.put, List.setIfInBounds_toArray, List.set_cons_succ, List.set_cons_zero]
  refine Ev.ev_step (v := .agg (ans 8 (m : Int) ⟨#[]⟩)) rfl rfl (Ev.two_pure (by decide) (by decide) (fun _ => by first | (go_simp; done) | (go_simp; rfl))) ?_
  simp only [Act.put, List.setIfInBounds_toArray, List.set_cons_succ, List.set_cons_zero]
  refine Ev.ev_step (v := .agg (Ent.c { e with val := dec m, cas := ver })) rfl rfl (Ev.two_load (by decide) (by decide) 38 (.tmp 5) rfl (w.heap.size + 1) rfl _ _ _ b2w (by omega) (by omega) Tryd.underlying38 rfl (by kernel_rfl)) ?_
  simp only [Act.put, List.setIfInBounds_toArray, List.set_cons_succ, List.set_cons_zero]
  refine Ev.ev_step (v := undef) rfl rfl (Ev.two_store1 (by decide) (by omega) 32 (.tmp 8) (.tmp 47) rfl rfl rfl rfl (by kernel_rfl) (ans_one _ _ _)) ?_
  simp only [Act.put]
  refine Ev.ev_step (v := undef) rfl rfl (Ev.two_store2 (by decide) (by omega) 38 (.tmp 9) (.tmp 48) rfl rfl rfl rfl (by kernel_rfl) (ent_one _)) ?_
  simp only [Act.put]
  refine Ev.ev_step (v := .bool true) rfl rfl (Ev.two_pure (by decide) (by decide) (fun _ => by rfl)) ?_
  simp only [Act.put, List.setIfInBounds_toArray, List.set_cons_succ, List.set_cons_zero]
  refine Ev.ev_step (v := .bool false) rfl rfl (Ev.two_pure (by decide) (by decide) (fun _ => by rfl)) ?_
  simp only [Act.put, List.setIfInBounds_toArray, List.set_cons_succ, List.set_cons_zero]
  refine Ev.ev_nil (fun w_e hw_e => ?_)
  obtain ⟨hM_e, hA_e, hX_e⟩ := Ev.two_end hw_e (by decide) (by decide)
  clear hw_e
  go_wp2
  refine bodyPost_ret (Ev.results_c3 rfl rfl hA_e Tryd.underlying32 rfl (by kernel_rfl) rfl hX_e Tryd.underlying38 rfl (by kernel_rfl) rfl rfl) rfl ⟨rfl, ?_⟩
  exact Mod.after hBw hBw.size hM_e (fun k hk => by omega)

set_option maxHeartbeats 4000000 in
set_option maxRecDepth 100000 in
theorem rcount_down (r : Rq) (kv : Value) (e : Ent) (ver n : Int) (m : Nat) (w : World) (h : numOf e.val = some n) (hr : r.verb ≠ 10) (h0 : 0 ≤ r.delta) (hm : n - min n r.delta = (m : Int)) :
    Calls Tryd.prog 42 #[.agg (r.c kv), .agg e.c, .bool true, .int .i64 ver] w fun e_ w' => e_ = .returned (.tuple #[.agg (ans 8 (m : Int) ⟨#[]⟩), .agg (Ent.c { e with val := dec m, cas := ver }), .bool true, .bool false]) ∧ Below w.heap.size w w' := by
  obtain ⟨n0, n1⟩ := numOf_bd h
  have HN := Aside0.mk h
  have HM := Aside0.mk (show m < 18446744073709551616 by omega)
  have hr2 : (r.verb == 10) = false := by simp [hr]
  clear hr h
  simp only [Rq.c, Ent.c]
  go_enter Tryd.func42, Tryd.ntmps42
  go_wp2_with (go_at_call 55; refine (refNumber_calls _ _).mono ?_; rintro e_1 w_1 ⟨rfl, hd⟩; obtain ⟨⟨nq, rfl⟩⟩ := hd; rw [HN.out]; simp only [nout]; clear HN)
  go_at_call 56
  obtain ⟨V, hV⟩ : ∃ V, V = (((w.alloc (.cells (r.c kv) 27)).alloc (.cells e.c 38)).alloc (.cells A0 32)).alloc (.cells E0 38) := ⟨_, rfl⟩
  obtain ⟨b1, b2, b3, b4, hB⟩ := four w (.cells (r.c kv) 27) (.cells e.c 38) (.cells A0 32) (.cells E0 38)
  change Calls _ _ _ (((((w.alloc (.cells (r.c kv) 27)).alloc (.cells e.c 38)).alloc (.cells A0 32)).alloc (.cells E0 38)).drewN nq) _
  rw [← hV] at b1 b2 b3 b4 hB ⊢
  clear hV
  refine (refDigits_calls m HM.out _).mono ?_
  rintro e_1 w_1 ⟨rfl, hb⟩
  have hB1 := Aside0.mk ((pw_below_drewN hB nq).trans (hb.mono hB.size))
  have B2 := Aside0.mk ((hb.block _ (blk_lt b2)).trans b2)
  have B3 := Aside0.mk ((hb.block _ (blk_lt b3)).trans b3)
  have B4 := Aside0.mk ((hb.block _ (blk_lt b4)).trans b4)
  have c3 : w_1.cell? ⟨w.heap.size + 1, 3, none⟩ = some (.string e.val) := blk_cell B2.out 3
  have c4 : w_1.cell? ⟨w.heap.size + 1, 4, none⟩ = some (.int .i64 e.cas) := blk_cell B2.out 4
  have f3 : w_1.frozen? ⟨w.heap.size + 1, 3, none⟩ = false := blk_frozen B2.out 3
  have f4 : w_1.frozen? ⟨w.heap.size + 1, 4, none⟩ = false := blk_frozen B2.out 4
  clear b1 b2 b3 b4 hB hb HM
  go_wp2
  obtain ⟨W, hW⟩ : ∃ W, W = (w_1.setCell ⟨w.heap.size + 1, 3, none⟩ (.string (dec m))).setCell ⟨w.heap.size + 1, 4, none⟩ (.int .i64 ver) := ⟨_, rfl⟩
  have hM : Mod (fun k => k = w.heap.size + 1) w_1 W := by rw [hW]; exact Mod.setCell (p := ⟨w.heap.size + 1, 4, none⟩) (Mod.setCell (p := ⟨w.heap.size + 1, 3, none⟩) (Mod.refl (fun k => k = w.heap.size + 1) _) (.inl rfl) _) (.inl rfl) _
  have b2w : W.heap[w.heap.size + 1]? = some (.cells (Ent.c { e with val := dec m, cas := ver }) 38 (0, 0)) := by rw [hW]; exact blk_put (blk_put B2.out 3 _ rfl) 4 _ rfl
  have b3w : W.heap[w.heap.size + 1 + 1]? = some (.cells A0 32 (0, 0)) := hM.blk B3.out (by omega)
  have b4w : W.heap[w.heap.size + 1 + 1 + 1]? = some (.cells E0 38 (0, 0)) := hM.blk B4.out (by omega)
  have hBw : Below w.heap.size w W := hM.after hB1.out hB1.out.size (fun k hk => by omega)
  rw [← hW]
  clear hW hM c3 c4 f3 f4
  refine Ev.region_ev (Ev.Two W (w.heap.size + 1 + 1) (w.heap.size + 1 + 1 + 1) 32 38 A0 (ans 8 (m : Int) ⟨#[]⟩) E0 (Ent.c { e with val := dec m, cas := ver }) 3 4) (by kernel_rfl) (by kernel_rfl) (Ev.two_start b3w b4w) ?_
  refine Ev.ev_step (v := .int .u64 (m : Int)) rfl rfl (Ev.two_pure (by decide) (by decide) (fun _ => by rfl)) ?_
  simp only [Act.put, List.setIfInBounds_toArray, List.set_cons_succ, List.set_cons_zero]
  refine Ev.ev_step (v := .agg (ans 8 (m : Int) ⟨#[]⟩)) rfl rfl (Ev.two_pure (by decide) (by decide) (fun _ => by first | (go_simp; done) | (go_simp; rfl))) ?_
  simp only [Act.put, List.setIfInBounds_toArray, List.set_cons_succ, List.set_cons_zero]
  refine Ev.ev_step (v := .agg (Ent.c { e with val := dec m, cas := ver })) rfl rfl (Ev.two_load (by decide) (by decide) 38 (.tmp 5) rfl (w.heap.size + 1) rfl _ _ _ b2w (by omega) (by omega) Tryd.underlying38 rfl (by kernel_rfl)) ?_
  simp only [Act.put, List.setIfInBounds_toArray, List.set_cons_succ, List.set_cons_zero]
  refine Ev.ev_step (v := undef) rfl rfl (Ev.two_store1 (by decide) (by omega) 32 (.tmp 8) (.tmp 47) rfl rfl rfl rfl (by kernel_rfl) (ans_one _ _ _)) ?_
  simp only [Act.put]
  refine Ev.ev_step (v := undef) rfl rfl (Ev.two_store2 (by decide) (by omega) 38 (.tmp 9) (.tmp 48) rfl rfl rfl rfl (by kernel_rfl) (ent_one _)) ?_
  simp only [Act.put]
  refine Ev.ev_step (v := .bool true) rfl rfl (Ev.two_pure (by decide) (by decide) (fun _ => by rfl)) ?_
  simp only [Act.put, List.setIfInBounds_toArray, List.set_cons_succ, List.set_cons_zero]
  refine Ev.ev_step (v := .bool false) rfl rfl (Ev.two_pure (by decide) (by decide) (fun _ => by rfl)) ?_
  simp only [Act.put, List.setIfInBounds_toArray, List.set_cons_succ, List.set_cons_zero]
  refine Ev.ev_nil (fun w_e hw_e => ?_)
  obtain ⟨hM_e, hA_e, hX_e⟩ := Ev.two_end hw_e (by decide) (by decide)
  clear hw_e
  go_wp2
  refine bodyPost_ret (Ev.results_c3 rfl rfl hA_e Tryd.underlying32 rfl (by kernel_rfl) rfl hX_e Tryd.underlying38 rfl (by kernel_rfl) rfl rfl) rfl ⟨rfl, ?_⟩
  exact Mod.after hBw hBw.size hM_e (fun k hk => by omega)
end Go.Proofs.YtepklobkppdliaaDoor.Md
namespace Go.Proofs.YtepklobkppdliaaDoor.Md
open Go.RowKit Go.Proofs.YtepklobkppdliaaDoorW.PrintWords Go.Proofs.YtepklobkppdliaaDoorW.PrintLast Go.Proofs.YtepklobkppdliaaDoorW.PrintMore Go.Proofs.YtepklobkppdliaaDoor.Lib Go.Proofs.YtepklobkppdliaaDoor.Open
set_option maxHeartbeats 4000000 in
set_option maxRecDepth 100000 in
theorem rnext_incr (r : Rq) (kv : Value) (e : Ent) (there : Bool) (a n : Int) (t : ByteArray) (x : Ent) (k : Bool) (now ver : Int) (w : World) (hj : ∀ W, Calls Tryd.prog 42 #[.agg (r.c kv), .agg e.c, .bool there, .int .i64 ver] W fun e_ w' => e_ = .returned (.tuple #[.agg (ans a n t), .agg x.c, .bool k, .bool false]) ∧ Below W.heap.size W w') (hr : r.verb = 10) :
    Calls Tryd.prog 18 #[.agg (r.c kv), .agg e.c, .bool there, .int .i64 now, .int .i64 ver] w fun e_ w' => e_ = .returned (.tuple #[.agg (ans a n t), .agg x.c, .bool k, .bool false]) ∧ Below w.heap.size w w' := by
  have HR := Aside0.mk hr
  clear hr
  simp only [Rq.c, Ent.c]
  go_enter Tryd.func18, Tryd.ntmps18
  go_wp2
  obtain ⟨W, hW⟩ : ∃ W, W = (((w.alloc (.cells (r.c kv) 27)).alloc (.cells e.c 38)).alloc (.cells A0 32)).alloc (.cells E0 38) := ⟨_, rfl⟩
  obtain ⟨b1, b2, b3, b4, hB⟩ := four w (.cells (r.c kv) 27) (.cells e.c 38) (.cells A0 32) (.cells E0 38)
  change Code.wp _ _ _ _ ((((w.alloc (.cells (r.c kv) 27)).alloc (.cells e.c 38)).alloc (.cells A0 32)).alloc (.cells E0 38))
  rw [← hW] at b1 b2 b3 b4 hB ⊢
  clear hW
  have c60 : W.cell? ⟨w.heap.size + 1, 0, none⟩ = some (.string e.key) := blk_cell b2 0
  have c52 : W.cell? ⟨w.heap.size, 2, none⟩ = some (.int .i64 r.fl) := blk_cell b1 2
  have c53 : W.cell? ⟨w.heap.size, 3, none⟩ = some (.int .i64 r.exp) := blk_cell b1 3
  have c58 : W.cell? ⟨w.heap.size, 8, none⟩ = some (.string r.data) := blk_cell b1 8
  refine Ev.region_ev (Gen W (w.heap.size + 1 + 1 + 1) 38 (freshAt (fresh r e now ver).c)) (by kernel_rfl) (by kernel_rfl) (gen_start b4 (by unfold freshAt; rw [no_bit]; rfl)) ?_
  refine Ev.ev_step (v := .pointer (some ⟨(w.heap.size + 1), 0, none⟩)) rfl rfl (gen_pure (freshAt_other _ (by decide)) (fun _ => by first | rfl | (go_simp; done) | (go_simp; rfl))) ?_
  simp only [Act.put, List.setIfInBounds_toArray, List.set_cons_succ, List.set_cons_zero]
  refine Ev.ev_step (v := .string e.key) rfl rfl (gen_load (freshAt_other _ (by decide)) ⟨(w.heap.size + 1), 0, none⟩ (c60) (show (w.heap.size + 1) ≠ (w.heap.size + 1 + 1 + 1) by omega) (fun w hc => by go_simp)) ?_
  simp only [Act.put, List.setIfInBounds_toArray, List.set_cons_succ, List.set_cons_zero]
  refine Ev.ev_step (v := .pointer (some ⟨w.heap.size, 2, none⟩)) rfl rfl (gen_pure (freshAt_other _ (by decide)) (fun _ => by first | rfl | (go_simp; done) | (go_simp; rfl))) ?_
  simp only [Act.put, List.setIfInBounds_toArray, List.set_cons_succ, List.set_cons_zero]
  refine Ev.ev_step (v := .int .i64 r.fl) rfl rfl (gen_load (freshAt_other _ (by decide)) ⟨w.heap.size, 2, none⟩ (c52) (show w.heap.size ≠ (w.heap.size + 1 + 1 + 1) by omega) (fun w hc => by go_simp)) ?_
  simp only [Act.put, List.setIfInBounds_toArray, List.set_cons_succ, List.set_cons_zero]
  refine Ev.ev_step (v := .pointer (some ⟨w.heap.size, 3, none⟩)) rfl rfl (gen_pure (freshAt_other _ (by decide)) (fun _ => by first | rfl | (go_simp; done) | (go_simp; rfl))) ?_
  simp only [Act.put, List.setIfInBounds_toArray, List.set_cons_succ, List.set_cons_zero]
  refine Ev.ev_step (v := .int .i64 r.exp) rfl rfl (gen_load (freshAt_other _ (by decide)) ⟨w.heap.size, 3, none⟩ (c53) (show w.heap.size ≠ (w.heap.size + 1 + 1 + 1) by omega) (fun w hc => by go_simp)) ?_
  simp only [Act.put, List.setIfInBounds_toArray, List.set_cons_succ, List.set_cons_zero]
  refine Ev.ev_step (v := .int .i64 now) rfl rfl (gen_pure (freshAt_other _ (by decide)) (fun _ => by first | rfl | (go_simp; done) | (go_simp; rfl))) ?_
  simp only [Act.put, List.setIfInBounds_toArray, List.set_cons_succ, List.set_cons_zero]
  refine Ev.ev_step (v := .int .i64 (dead r.exp now)) rfl rfl (gen_call (freshAt_other _ (by decide)) 40 #[.int .i64 r.exp, .int .i64 now] (fun _ => by first | (go_simp; done) | (go_simp; rfl)) (fun w => refDead_calls _ _ w)) ?_
  simp only [Act.put, List.setIfInBounds_toArray, List.set_cons_succ, List.set_cons_zero]
  refine Ev.ev_step (v := .pointer (some ⟨w.heap.size, 8, none⟩)) rfl rfl (gen_pure (freshAt_other _ (by decide)) (fun _ => by first | rfl | (go_simp; done) | (go_simp; rfl))) ?_
  simp only [Act.put, List.setIfInBounds_toArray, List.set_cons_succ, List.set_cons_zero]
  refine Ev.ev_step (v := .string r.data) rfl rfl (gen_load (freshAt_other _ (by decide)) ⟨w.heap.size, 8, none⟩ (c58) (show w.heap.size ≠ (w.heap.size + 1 + 1 + 1) by omega) (fun w hc => by go_simp)) ?_
  simp only [Act.put, List.setIfInBounds_toArray, List.set_cons_succ, List.set_cons_zero]
  refine Ev.ev_step (v := .int .i64 ver) rfl rfl (gen_pure (freshAt_other _ (by decide)) (fun _ => by first | rfl | (go_simp; done) | (go_simp; rfl))) ?_
  simp only [Act.put, List.setIfInBounds_toArray, List.set_cons_succ, List.set_cons_zero]
  refine Ev.ev_step (v := .agg (fresh r e now ver).c) rfl rfl (gen_pure (freshAt_other _ (by decide)) (fun _ => by first | rfl | (go_simp; done) | (go_simp; rfl))) ?_
  simp only [Act.put, List.setIfInBounds_toArray, List.set_cons_succ, List.set_cons_zero]
  refine Ev.ev_step (v := undef) rfl rfl (gen_store (fresh r e now ver).c (fun S h => by unfold freshAt; rw [Ev.set_same h, if_pos rfl]) (fun S => by unfold freshAt; split <;> rfl) 38 (.tmp 11) (.tmp 26) rfl rfl rfl (by kernel_rfl) (ent_one _)) ?_
  simp only [Act.put]
  refine Ev.ev_nil (fun w_e hw_e => ?_)
  have hm := hw_e.mod
  have b4e := hw_e.blk
  rw [show freshAt (fresh r e now ver).c (Array.replicate _ true) = (fresh r e now ver).c by unfold freshAt; rw [all_bit (by decide), if_pos rfl]] at b4e
  clear hw_e c60 c52 c53 c58 b4
  replace b1 := hm.blk b1 (by omega)
  replace b2 := hm.blk b2 (by omega)
  replace b3 := hm.blk b3 (by omega)
  replace hB := hm.after hB hB.size (fun k hk => by omega)
  have b4 := b4e
  clear hm b4e
  have hr := HR.out
  have e3 : (r.verb == 3) = false := by rw [hr]; rfl
  have e4 : (r.verb == 4) = false := by rw [hr]; rfl
  have e5 : (r.verb == 5) = false := by rw [hr]; rfl
  have e6 : (r.verb == 6) = false := by rw [hr]; rfl
  have e7 : (r.verb == 7) = false := by rw [hr]; rfl
  have e8 : (r.verb == 8) = false := by rw [hr]; rfl
  have e9 : (r.verb == 9) = false := by rw [hr]; rfl
  have e10 : (r.verb == 10) = true := by rw [hr]; rfl
  have e11 : (r.verb == 11) = false := by rw [hr]; rfl
  have e12 : (r.verb == 12) = false := by rw [hr]; rfl
  have c50 : w_e.cell? ⟨w.heap.size, 0, none⟩ = some (.int .i64 r.verb) := blk_cell b1 0
  clear hr HR
  have HJ := Aside0.mk hj
  clear hj
  have B1 := Aside0.mk b1
  have B2 := Aside0.mk b2
  have B3 := Aside0.mk b3
  have B4 := Aside0.mk b4
  have HB := Aside0.mk hB
  clear b1 b2 b3 b4 hB
  go_wp2_with (first | (refine gate_ (.load 27 (.tmp 5)) rfl ?_; refine ev_load_row (.load 27 (.tmp 5)) rfl rfl 27 (.tmp 5) rfl w.heap.size rfl 27 (r.c kv) _ B1.out Tryd.underlying27 rfl (by kernel_rfl) ?_) | (refine gate_ (.load 38 (.tmp 6)) rfl ?_; refine ev_load_row (.load 38 (.tmp 6)) rfl rfl 38 (.tmp 6) rfl (w.heap.size + 1) rfl 38 e.c _ B2.out Tryd.underlying38 rfl (by kernel_rfl) ?_) | (go_at_call 42; (with_reducible refine (HJ.out _).mono ?_); rintro e_1 w_1 ⟨rfl, hb⟩; have B3n := Aside0.mk ((hb.block _ (blk_lt B3.out)).trans B3.out); have B4n := Aside0.mk ((hb.block _ (blk_lt B4.out)).trans B4.out); have HBn := Aside0.mk (HB.out.trans (hb.mono HB.out.size)); clear B1 B2 B3 B4 HB hb; have B3 := B3n; have B4 := B4n; have HB := HBn; clear B3n B4n HBn) | (refine gate_ (.store 32 (.tmp 10) (.tmp 126)) rfl ?_; refine ev_store_row (.store 32 (.tmp 10) (.tmp 126)) rfl rfl rfl 32 (.tmp 10) (.tmp 126) rfl (w.heap.size + 1 + 1) (ans a n t) rfl rfl 32 A0 B3.out (by kernel_rfl) rfl (ans_one _ _ _) ?_; intro w_2 hw2 hm2; have B4n := Aside0.mk (hm2.blk B4.out (by omega)); have HBn := Aside0.mk (hm2.after HB.out HB.out.size (fun k hk => by omega)); have B3n := Aside0.mk hw2; clear B3 B4 HB hw2 hm2; have B3 := B3n; have B4 := B4n; have HB := HBn; clear B3n B4n HBn) | (refine gate_ (.store 38 (.tmp 11) (.tmp 127)) rfl ?_; refine ev_store_row (.store 38 (.tmp 11) (.tmp 127)) rfl rfl rfl 38 (.tmp 11) (.tmp 127) rfl (w.heap.size + 1 + 1 + 1) x.c rfl rfl 38 (fresh r e now ver).c B4.out (by kernel_rfl) rfl (ent_one _) ?_; intro w_3 hw3 hm3; have B3n := Aside0.mk (hm3.blk B3.out (by omega)); have HBn := Aside0.mk (hm3.after HB.out HB.out.size (fun k hk => by omega)); have B4n := Aside0.mk hw3; clear B3 B4 HB hw3 hm3; have B3 := B3n; have B4 := B4n; have HB := HBn; clear B3n B4n HBn))
  refine bodyPost_ret (Ev.results_c3 rfl rfl B3.out Tryd.underlying32 rfl (by kernel_rfl) rfl B4.out Tryd.underlying38 rfl (by kernel_rfl) rfl rfl) rfl ⟨rfl, HB.out⟩
set_option maxHeartbeats 4000000 in
set_option maxRecDepth 100000 in
theorem rnext_decr (r : Rq) (kv : Value) (e : Ent) (there : Bool) (a n : Int) (t : ByteArray) (x : Ent) (k : Bool) (now ver : Int) (w : World) (hj : ∀ W, Calls Tryd.prog 42 #[.agg (r.c kv), .agg e.c, .bool there, .int .i64 ver] W fun e_ w' => e_ = .returned (.tuple #[.agg (ans a n t), .agg x.c, .bool k, .bool false]) ∧ Below W.heap.size W w') (hr : r.verb = 11) :
    Calls Tryd.prog 18 #[.agg (r.c kv), .agg e.c, .bool there, .int .i64 now, .int .i64 ver] w fun e_ w' => e_ = .returned (.tuple #[.agg (ans a n t), .agg x.c, .bool k, .bool false]) ∧ Below w.heap.size w w' := by
  have HR := Aside0.mk hr
  clear hr
  simp only [Rq.c, Ent.c]
  go_enter Tryd.func18, Tryd.ntmps18
  go_wp2
  obtain ⟨W, hW⟩ : ∃ W, W = (((w.alloc (.cells (r.c kv) 27)).alloc (.cells e.c 38)).alloc (.cells A0 32)).alloc (.cells E0 38) := ⟨_, rfl⟩
  obtain ⟨b1, b2, b3, b4, hB⟩ := four w (.cells (r.c kv) 27) (.cells e.c 38) (.cells A0 32) (.cells E0 38)
  change Code.wp _ _ _ _ ((((w.alloc (.cells (r.c kv) 27)).alloc (.cells e.c 38)).alloc (.cells A0 32)).alloc (.cells E0 38))
  rw [← hW] at b1 b2 b3 b4 hB ⊢
  clear hW
  have c60 : W.cell? ⟨w.heap.size + 1, 0, none⟩ = some (.string e.key) := blk_cell b2 0
  have c52 : W.cell? ⟨w.heap.size, 2, none⟩ = some (.int .i64 r.fl) := blk_cell b1 2
  have c53 : W.cell? ⟨w.heap.size, 3, none⟩ = some (.int .i64 r.exp) := blk_cell b1 3
  have c58 : W.cell? ⟨w.heap.size, 8, none⟩ = some (.string r.data) := blk_cell b1 8
  refine Ev.region_ev (Gen W (w.heap.size + 1 + 1 + 1) 38 (freshAt (fresh r e now ver).c)) (by kernel_rfl) (by kernel_rfl) (gen_start b4 (by unfold freshAt; rw [no_bit]; rfl)) ?_
  refine Ev.ev_step (v := .pointer (some ⟨(w.heap.size + 1), 0, none⟩)) rfl rfl (gen_pure (freshAt_other _ (by decide)) (fun _ => by first | rfl | (go_simp; done) | (go_simp; rfl))) ?_
  simp only [Act.put, List.setIfInBounds_toArray, List.set_cons_succ, List.set_cons_zero]
  refine Ev.ev_step (v := .string e.key) rfl rfl (gen_load (freshAt_other _ (by decide)) ⟨(w.heap.size + 1), 0, none⟩ (c60) (show (w.heap.size + 1) ≠ (w.heap.size + 1 + 1 + 1) by omega) (fun w hc => by go_simp)) ?_
  simp only [Act.put, List.setIfInBounds_toArray, List.set_cons_succ, List.set_cons_zero]
  refine Ev.ev_step (v := .pointer (some ⟨w.heap.size, 2, none⟩)) rfl rfl (gen_pure (freshAt_other _ (by decide)) (fun _ => by first | rfl | (go_simp; done) | (go_simp; rfl))) ?_
  simp only [Act.put, List.setIfInBounds_toArray, List.set_cons_succ, List.set_cons_zero]
  refine Ev.ev_step (v := .int .i64 r.fl) rfl rfl (gen_load (freshAt_other _ (by decide)) ⟨w.heap.size, 2, none⟩ (c52) (show w.heap.size ≠ (w.heap.size + 1 + 1 + 1) by omega) (fun w hc => by go_simp)) ?_
  simp only [Act.put, List.setIfInBounds_toArray, List.set_cons_succ, List.set_cons_zero]
  refine Ev.ev_step (v := .pointer (some ⟨w.heap.size, 3, none⟩)) rfl rfl (gen_pure (freshAt_other _ (by decide)) (fun _ => by first | rfl | (go_simp; done) | (go_simp; rfl))) ?_
  simp only [Act.put, List.setIfInBounds_toArray, List.set_cons_succ, List.set_cons_zero]
  refine Ev.ev_step (v := .int .i64 r.exp) rfl rfl (gen_load (freshAt_other _ (by decide)) ⟨w.heap.size, 3, none⟩ (c53) (show w.heap.size ≠ (w.heap.size + 1 + 1 + 1) by omega) (fun w hc => by go_simp)) ?_
  simp only [Act.put, List.setIfInBounds_toArray, List.set_cons_succ, List.set_cons_zero]
  refine Ev.ev_step (v := .int .i64 now) rfl rfl (gen_pure (freshAt_other _ (by decide)) (fun _ => by first | rfl | (go_simp; done) | (go_simp; rfl))) ?_
  simp only [Act.put, List.setIfInBounds_toArray, List.set_cons_succ, List.set_cons_zero]
  refine Ev.ev_step (v := .int .i64 (dead r.exp now)) rfl rfl (gen_call (freshAt_other _ (by decide)) 40 #[.int .i64 r.exp, .int .i64 now] (fun _ => by first | (go_simp; done) | (go_simp; rfl)) (fun w => refDead_calls _ _ w)) ?_
  simp only [Act.put, List.setIfInBounds_toArray, List.set_cons_succ, List.set_cons_zero]
  refine Ev.ev_step (v := .pointer (some ⟨w.heap.size, 8, none⟩)) rfl rfl (gen_pure (freshAt_other _ (by decide)) (fun _ => by first | rfl | (go_simp; done) | (go_simp; rfl))) ?_
  simp only [Act.put, List.setIfInBounds_toArray, List.set_cons_succ, List.set_cons_zero]
  refine Ev.ev_step (v := .string r.data) rfl rfl (gen_load (freshAt_other _ (by decide)) ⟨w.heap.size, 8, none⟩ (c58) (show w.heap.size ≠ (w.heap.size + 1 + 1 + 1) by omega) (fun w hc => by go_simp)) ?_
  simp only [Act.put, List.setIfInBounds_toArray, List.set_cons_succ, List.set_cons_zero]
  refine Ev.ev_step (v := .int .i64 ver) rfl rfl (gen_pure (freshAt_other _ (by decide)) (fun _ => by first | rfl | (go_simp; done) | (go_simp; rfl))) ?_
  simp only [Act.put, List.setIfInBounds_toArray, List.set_cons_succ, List.set_cons_zero]
  refine Ev.ev_step (v := .agg (fresh r e now ver).c) rfl rfl (gen_pure (freshAt_other _ (by decide)) (fun _ => by first | rfl | (go_simp; done) | (go_simp; rfl))) ?_
  simp only [Act.put, List.setIfInBounds_toArray, List.set_cons_succ, List.set_cons_zero]
  refine Ev.ev_step (v := undef) rfl rfl (gen_store (fresh r e now ver).c (fun S h => by unfold freshAt; rw [Ev.set_same h, if_pos rfl]) (fun S => by unfold freshAt; split <;> rfl) 38 (.tmp 11) (.tmp 26) rfl rfl rfl (by kernel_rfl) (ent_one _)) ?_
  simp only [Act.put]
  refine Ev.ev_nil (fun w_e hw_e => ?_)
  have hm := hw_e.mod
  have b4e := hw_e.blk
  rw [show freshAt (fresh r e now ver).c (Array.replicate _ true) = (fresh r e now ver).c by unfold freshAt; rw [all_bit (by decide), if_pos rfl]] at b4e
  clear hw_e c60 c52 c53 c58 b4
  replace b1 := hm.blk b1 (by omega)
  replace b2 := hm.blk b2 (by omega)
  replace b3 := hm.blk b3 (by omega)
  replace hB := hm.after hB hB.size (fun k hk => by omega)
  have b4 := b4e
  clear hm b4e
  have hr := HR.out
  have e3 : (r.verb == 3) = false := by rw [hr]; rfl
  have e4 : (r.verb == 4) = false := by rw [hr]; rfl
  have e5 : (r.verb == 5) = false := by rw [hr]; rfl
  have e6 : (r.verb == 6) = false := by rw [hr]; rfl
  have e7 : (r.verb == 7) = false := by rw [hr]; rfl
  have e8 : (r.verb == 8) = false := by rw [hr]; rfl
  have e9 : (r.verb == 9) = false := by rw [hr]; rfl
  have e10 : (r.verb == 10) = false := by rw [hr]; rfl
  have e11 : (r.verb == 11) = true := by rw [hr]; rfl
  have e12 : (r.verb == 12) = false := by rw [hr]; rfl
  have c50 : w_e.cell? ⟨w.heap.size, 0, none⟩ = some (.int .i64 r.verb) := blk_cell b1 0
  clear hr HR
  have HJ := Aside0.mk hj
  clear hj
  have B1 := Aside0.mk b1
  have B2 := Aside0.mk b2
  have B3 := Aside0.mk b3
  have B4 := Aside0.mk b4
  have HB := Aside0.mk hB
  clear b1 b2 b3 b4 hB
  go_wp2_with (first | (refine gate_ (.load 27 (.tmp 5)) rfl ?_; refine ev_load_row (.load 27 (.tmp 5)) rfl rfl 27 (.tmp 5) rfl w.heap.size rfl 27 (r.c kv) _ B1.out Tryd.underlying27 rfl (by kernel_rfl) ?_) | (refine gate_ (.load 38 (.tmp 6)) rfl ?_; refine ev_load_row (.load 38 (.tmp 6)) rfl rfl 38 (.tmp 6) rfl (w.heap.size + 1) rfl 38 e.c _ B2.out Tryd.underlying38 rfl (by kernel_rfl) ?_) | (go_at_call 42; (with_reducible refine (HJ.out _).mono ?_); rintro e_1 w_1 ⟨rfl, hb⟩; have B3n := Aside0.mk ((hb.block _ (blk_lt B3.out)).trans B3.out); have B4n := Aside0.mk ((hb.block _ (blk_lt B4.out)).trans B4.out); have HBn := Aside0.mk (HB.out.trans (hb.mono HB.out.size)); clear B1 B2 B3 B4 HB hb; have B3 := B3n; have B4 := B4n; have HB := HBn; clear B3n B4n HBn) | (refine gate_ (.store 32 (.tmp 10) (.tmp 126)) rfl ?_; refine ev_store_row (.store 32 (.tmp 10) (.tmp 126)) rfl rfl rfl 32 (.tmp 10) (.tmp 126) rfl (w.heap.size + 1 + 1) (ans a n t) rfl rfl 32 A0 B3.out (by kernel_rfl) rfl (ans_one _ _ _) ?_; intro w_2 hw2 hm2; have B4n := Aside0.mk (hm2.blk B4.out (by omega)); have HBn := Aside0.mk (hm2.after HB.out HB.out.size (fun k hk => by omega)); have B3n := Aside0.mk hw2; clear B3 B4 HB hw2 hm2; have B3 := B3n; have B4 := B4n; have HB := HBn; clear B3n B4n HBn) | (refine gate_ (.store 38 (.tmp 11) (.tmp 127)) rfl ?_; refine ev_store_row (.store 38 (.tmp 11) (.tmp 127)) rfl rfl rfl 38 (.tmp 11) (.tmp 127) rfl (w.heap.size + 1 + 1 + 1) x.c rfl rfl 38 (fresh r e now ver).c B4.out (by kernel_rfl) rfl (ent_one _) ?_; intro w_3 hw3 hm3; have B3n := Aside0.mk (hm3.blk B3.out (by omega)); have HBn := Aside0.mk (hm3.after HB.out HB.out.size (fun k hk => by omega)); have B4n := Aside0.mk hw3; clear B3 B4 HB hw3 hm3; have B3 := B3n; have B4 := B4n; have HB := HBn; clear B3n B4n HBn))
  refine bodyPost_ret (Ev.results_c3 rfl rfl B3.out Tryd.underlying32 rfl (by kernel_rfl) rfl B4.out Tryd.underlying38 rfl (by kernel_rfl) rfl rfl) rfl ⟨rfl, HB.out⟩

theorem rcount_calls (r : Rq) (kv : Value) (e : Ent) (ver : Int) (h0 : 0 ≤ r.delta) : ∃ a n t x k, (match numOf e.val with
        | none => ((⟨13, 0, badNum⟩ : An), e, false, false)
        | some n => (⟨8, (numTo r n : Int), ⟨#[]⟩⟩, { e with val := dec (numTo r n), cas := ver }, true, false)) = (⟨a, n, t⟩, x, k, false) ∧
    ∀ W, Calls Tryd.prog 42 #[.agg (r.c kv), .agg e.c, .bool true, .int .i64 ver] W fun e_ w' => e_ = .returned (.tuple #[.agg (ans a n t), .agg x.c, .bool k, .bool false]) ∧ Below W.heap.size W w' := by
  cases h : numOf e.val with
  | none => exact ⟨_, _, _, _, _, rfl, fun W => rcount_bad r kv e ver W h⟩
  | some n =>
    have hb := numOf_bd h
    by_cases h10 : r.verb = 10
    · have hm : IntKind.u64.wrap (n + r.delta) = (numTo r n : Int) := by
        unfold numTo
        rw [if_pos h10]
        have : 0 ≤ IntKind.u64.wrap (n + r.delta) := by rw [IntKind.wrap_u64]; omega
        omega
      exact ⟨_, _, _, _, _, rfl, fun W => rcount_up r kv e ver n _ W h h10 hm⟩
    · have hm : n - min n r.delta = (numTo r n : Int) := by
        unfold numTo
        rw [if_neg h10]
        omega
      exact ⟨_, _, _, _, _, rfl, fun W => rcount_down r kv e ver n _ W h h10 h0 hm⟩
/-- What the document's Next tells: the same, but for an entry that is not kept. -/
def Told (N : An × Ent × Bool × Bool) (r : Rq) (kv : Value) (e : Ent) (there : Bool) (now ver : Int) (w : World) : Prop :=
  ∃ x : Ent, (N.2.2.1 = true → x = N.2.1) ∧ Calls Tryd.prog 18 #[.agg (r.c kv), .agg e.c, .bool there, .int .i64 now, .int .i64 ver] w fun e_ w' => e_ = .returned (.tuple #[.agg N.1.c, .agg x.c, .bool N.2.2.1, .bool N.2.2.2]) ∧ Below w.heap.size w w'
theorem rnext_calls (r : Rq) (kv : Value) (e : Ent) (there : Bool) (now ver : Int) (w : World) (hF : Fine r e) : Told (nextOf r e there now ver) r kv e there now ver w := by
  have yes : ∀ (a : An) (x : Ent) (d : Bool), (Calls Tryd.prog 18 #[.agg (r.c kv), .agg e.c, .bool there, .int .i64 now, .int .i64 ver] w fun e_ w' => e_ = .returned (.tuple #[.agg a.c, .agg x.c, .bool true, .bool d]) ∧ Below w.heap.size w w') → Told (a, x, true, d) r kv e there now ver w := fun a x d h => ⟨x, fun _ => rfl, h⟩
  have no : ∀ (a : An) (x y : Ent) (d : Bool), (Calls Tryd.prog 18 #[.agg (r.c kv), .agg e.c, .bool there, .int .i64 now, .int .i64 ver] w fun e_ w' => e_ = .returned (.tuple #[.agg a.c, .agg y.c, .bool false, .bool d]) ∧ Below w.heap.size w w') → Told (a, x, false, d) r kv e there now ver w := fun a x y d h => ⟨y, (fun hh => absurd hh Bool.false_ne_true), h⟩
  unfold nextOf
  by_cases h3 : r.verb = 3
  · rw [if_pos h3]; exact yes _ _ _ (rnext_set r kv e there now ver w h3)
  rw [if_neg h3]
  by_cases h4 : r.verb = 4
  · rw [if_pos h4]
    cases there
    · exact yes _ _ _ (rnext_add_yes r kv e now ver w h4)
    · exact no _ _ _ _ (rnext_add_no r kv e now ver w h4)
  rw [if_neg h4]
  by_cases h5 : r.verb = 5
  · rw [if_pos h5]
    cases there
    · exact no _ _ _ _ (rnext_rep_no r kv e now ver w h5)
    · exact yes _ _ _ (rnext_rep_yes r kv e now ver w h5)
  rw [if_neg h5]
  by_cases h67 : r.verb = 6 ∨ r.verb = 7
  · rw [if_pos h67]
    cases there
    · rcases h67 with h6 | h7
      · exact no _ _ _ _ (rnext_app_no r kv e now ver w h6)
      · exact no _ _ _ _ (rnext_pre_no r kv e now ver w h7)
    · rw [if_pos rfl]
      by_cases hl : 1048576 < e.val.size + r.data.size
      · rw [if_pos hl]
        have hs := And.intro hl (And.intro hF.v hF.d)
        rcases h67 with h6 | h7
        · exact no _ _ _ _ (rnext_app_long r kv e now ver w hs h6)
        · exact no _ _ _ _ (rnext_pre_long r kv e now ver w hs h7)
      · rw [if_neg hl]
        by_cases h6 : r.verb = 6
        · rw [if_pos h6]
          exact yes _ _ _ (rnext_app r kv e now ver w (by omega) h6)
        · rw [if_neg h6]
          exact yes _ _ _ (rnext_pre r kv e now ver w (by omega) (by omega))
  rw [if_neg h67]
  by_cases h8 : 8 ≤ r.verb ∧ r.verb ≤ 12
  · rw [if_pos h8]
    cases there
    · rw [if_neg (by decide)]
      rcases (show r.verb = 8 ∨ r.verb = 9 ∨ r.verb = 10 ∨ r.verb = 11 ∨ r.verb = 12 by omega) with h | h | h | h | h
      · exact no _ _ _ _ (rnext_cas_no r kv e now ver w h)
      · exact no _ _ _ _ (rnext_delete_no r kv e now ver w h)
      · exact no _ _ _ _ (rnext_incr r kv e false 5 0 ⟨#[]⟩ e false now ver w (fun W => rcount_no r kv e ver W) h)
      · exact no _ _ _ _ (rnext_decr r kv e false 5 0 ⟨#[]⟩ e false now ver w (fun W => rcount_no r kv e ver W) h)
      · exact no _ _ _ _ (rnext_touch_no r kv e now ver w h)
    · rw [if_pos rfl]
      by_cases g8 : r.verb = 8
      · rw [if_pos g8]
        by_cases hc : e.cas = r.cas
        · rw [if_pos hc]; exact yes _ _ _ (rnext_cas r kv e hc now ver w g8)
        · rw [if_neg hc]; exact no _ _ _ _ (rnext_cas_other r kv e hc now ver w g8)
      rw [if_neg g8]
      by_cases g9 : r.verb = 9
      · rw [if_pos g9]; exact no _ _ _ _ (rnext_delete r kv e now ver w g9)
      rw [if_neg g9]
      by_cases g12 : r.verb = 12
      · rw [if_pos g12]; exact yes _ _ _ (rnext_touch r kv e now ver w g12)
      rw [if_neg g12]
      obtain ⟨a, n, t, x, k, he, hj⟩ := rcount_calls r kv e ver hF.d0
      have hh : Told (⟨a, n, t⟩, x, k, false) r kv e true now ver w := by
        rcases (show r.verb = 10 ∨ r.verb = 11 by omega) with h | h
        · exact ⟨x, fun _ => rfl, rnext_incr r kv e true a n t x k now ver w hj h⟩
        · exact ⟨x, fun _ => rfl, rnext_decr r kv e true a n t x k now ver w hj h⟩
      rw [← he] at hh
      exact hh
  rw [if_neg h8]
  exact no _ _ _ _ (rnext_else r kv e there now ver w (by omega))
end Go.Proofs.YtepklobkppdliaaDoor.Md
namespace Go.Proofs.YtepklobkppdliaaDoor.Md
open Go.RowKit Go.Proofs.YtepklobkppdliaaDoorW.PrintWords Go.Proofs.YtepklobkppdliaaDoorW.PrintLast Go.Proofs.YtepklobkppdliaaDoorW.PrintMore Go.Proofs.YtepklobkppdliaaDoor.Lib Go.Proofs.YtepklobkppdliaaDoor.Open
theorem eqA38 (d : Nat) (w : World) (x0 y0 : ByteArray) (x1 y1 x2 y2 : Int) (x3 y3 : ByteArray) (x4 y4 : Int) :
    (Op.equalIn (d + 2) 38 (.agg #[.string x0, .int .i64 x1, .int .i64 x2, .string x3, .int .i64 x4]) (.agg #[.string y0, .int .i64 y1, .int .i64 y2, .string y3, .int .i64 y4])).run Tryd.prog w = .ok (x0.toList == y0.toList && (x1 == y1 && (x2 == y2 && (x3.toList == y3.toList && (x4 == y4))))) w := by
  refine eqA_of Tryd.underlying38 (by kernel_rfl) ?_
  refine eqf_cons (by rfl) (by go_simp; rfl) (by go_simp; rfl) (by go_simp) ?_
  refine eqf_cons (by rfl) (by go_simp; rfl) (by go_simp; rfl) (by go_simp) ?_
  refine eqf_cons (by rfl) (by go_simp; rfl) (by go_simp; rfl) (by go_simp) ?_
  refine eqf_cons (by rfl) (by go_simp; rfl) (by go_simp; rfl) (by go_simp) ?_
  exact eqf_last (by rfl) (by go_simp; rfl) (by go_simp; rfl) (by go_simp)
theorem eq30 (w : World) : (Op.equalIn 10000 30 (.agg #[.int .i64 0, .int .i64 0, .int .i64 0, .int .i64 0]) (.agg #[.int .i64 0, .int .i64 0, .int .i64 0, .int .i64 0])).run Tryd.prog w = .ok true w := by kernel_rfl
theorem eq38 (x : Ent) (w : World) : (Op.equalIn 10000 38 (.agg x.c) (.agg x.c)).run Tryd.prog w = .ok true w := by
  have h := eqA38 9998 w x.key x.key x.fl x.fl x.dl x.dl x.val x.val x.cas x.cas
  simp only [beq_self_eq_true, Bool.and_self] at h
  exact h
theorem same_none (w : World) : Calls Tryd.prog 43 #[.slice none 0 0, .slice none 0 0] w fun e w' => e = .returned (.bool true) ∧ Below w.heap.size w w' := by
  go_enter Tryd.func43, Tryd.ntmps43
  go_wp2
  go_loopg [5] 1 (fun _ s wr => s = .int .i64 0 ∧ wr = w)
  case atStart => exact ⟨rfl, rfl⟩
  case round =>
    obtain ⟨rfl, rfl⟩ := hrel
    go_wp2
    go_ret
    exact ⟨rfl, Below.refl _ _⟩
set_option maxHeartbeats 4000000 in
set_option maxRecDepth 100000 in
theorem answers_calls (k n : Int) (t : ByteArray) (w : World) : Calls Tryd.prog 19 #[.agg (ans k n t), .agg (ans k n t)] w fun e w' => e = .returned (.bool true) ∧ Below w.heap.size w w' := by
  simp only [ans]
  go_enter Tryd.func19, Tryd.ntmps19
  go_wp2_with fail
  go_at_call 43
  refine (same_none _).mono ?_
  rintro e_1 w_1 ⟨rfl, hb⟩
  have s1 : (w.alloc (.cells (ans k n t) 32)).heap.size = w.heap.size + 1 := by simp
  have b1 := (hb.block w.heap.size (by simp; omega)).trans (blk_alloc (blk_new w (.cells (ans k n t) 32)) (.cells (ans k n t) 32))
  have b2 := (hb.block (w.heap.size + 1) (by simp)).trans (show ((w.alloc (.cells (ans k n t) 32)).alloc (.cells (ans k n t) 32)).heap[w.heap.size + 1]? = some (.cells (ans k n t) 32) by rw [← s1]; exact blk_new _ _)
  have HB := Aside0.mk (below_step (below_alloc (below_alloc (Below.refl w.heap.size w) (.cells (ans k n t) 32)) (.cells (ans k n t) 32)) hb)
  have c12 : w_1.cell? ⟨w.heap.size, 2, none⟩ = some (.bool false) := blk_cell b1 2
  have c13 : w_1.cell? ⟨w.heap.size, 3, none⟩ = some (.int .u64 n) := blk_cell b1 3
  have c14 : w_1.cell? ⟨w.heap.size, 4, none⟩ = some (.string t) := blk_cell b1 4
  have c15 : w_1.cell? ⟨w.heap.size, 5, none⟩ = some (.int .i64 0) := blk_cell b1 5
  have c16 : w_1.cell? ⟨w.heap.size, 6, none⟩ = some (.int .i64 0) := blk_cell b1 6
  have c17 : w_1.cell? ⟨w.heap.size, 7, none⟩ = some (.int .i64 0) := blk_cell b1 7
  have c18 : w_1.cell? ⟨w.heap.size, 8, none⟩ = some (.int .i64 0) := blk_cell b1 8
  have c22 : w_1.cell? ⟨w.heap.size + 1, 2, none⟩ = some (.bool false) := blk_cell b2 2
  have c23 : w_1.cell? ⟨w.heap.size + 1, 3, none⟩ = some (.int .u64 n) := blk_cell b2 3
  have c24 : w_1.cell? ⟨w.heap.size + 1, 4, none⟩ = some (.string t) := blk_cell b2 4
  have c25 : w_1.cell? ⟨w.heap.size + 1, 5, none⟩ = some (.int .i64 0) := blk_cell b2 5
  have c26 : w_1.cell? ⟨w.heap.size + 1, 6, none⟩ = some (.int .i64 0) := blk_cell b2 6
  have c27 : w_1.cell? ⟨w.heap.size + 1, 7, none⟩ = some (.int .i64 0) := blk_cell b2 7
  have c28 : w_1.cell? ⟨w.heap.size + 1, 8, none⟩ = some (.int .i64 0) := blk_cell b2 8
  clear hb b1 b2 s1
  have q30 := eq30
  go_wp2
  go_ret
  exact ⟨rfl, HB.out⟩
theorem told_use {N : An × Ent × Bool × Bool} {r : Rq} {kv : Value} {e : Ent} {there : Bool} {now ver : Int} {W : World} {R : Ending → World → Prop} (h : Told N r kv e there now ver W)
    (k : ∀ x w', (N.2.2.1 = true → x = N.2.1) → Below W.heap.size W w' → R (.returned (.tuple #[.agg N.1.c, .agg x.c, .bool N.2.2.1, .bool N.2.2.2])) w') : Calls Tryd.prog 18 #[.agg (r.c kv), .agg e.c, .bool there, .int .i64 now, .int .i64 ver] W R := by
  obtain ⟨x, hx, hc⟩ := h
  exact hc.mono fun e w' ⟨he, hb⟩ => he ▸ k x w' hx hb
set_option maxHeartbeats 4000000 in
set_option maxRecDepth 100000 in
theorem mnext_long (r : Rq) (kv : Value) (e : Ent) (there : Bool) (now ver : Int) (w : World) (ht : Pow w) (h1 : (r.data.size : Int) ≤ 140737488355328) (h2 : (e.val.size : Int) ≤ 140737488355328) (h3 : (e.key.size : Int) ≤ 140737488355328) (hs : (2000 : Int) < r.data.size + e.val.size + e.key.size) :
    Calls Tryd.prog 4 #[.agg (r.c kv), .agg e.c, .bool there, .int .i64 now, .int .i64 ver] w fun e_ w' => e_ = .returned (.bool true) ∧ Below w.heap.size w w' := by
  have HT := Aside0.mk (ht.below (below_alloc (below_alloc (Below.refl w.heap.size w) (.cells (r.c kv) 27)) (.cells e.c 38)))
  have HB := Aside0.mk (below_alloc (below_alloc (Below.refl w.heap.size w) (.cells (r.c kv) 27)) (.cells e.c 38))
  clear ht
  simp only [Rq.c, Ent.c]
  go_enter Tryd.func4, Tryd.ntmps4
  go_wp2_with fail
  go_at_call 3
  refine (runs_calls _ HT.out).mono ?_
  rintro e_1 w_1 ⟨rfl, hb⟩
  have HBm := Aside0.mk (below_step HB.out hb)
  clear hb HB HT
  go_wp2
  go_ret
  exact ⟨rfl, HBm.out⟩

set_option maxHeartbeats 8000000 in
set_option maxRecDepth 100000 in
theorem mnext_calls (r : Rq) (kv : Value) (e : Ent) (there : Bool) (now ver : Int) (w : World) (ht : Pow w) (h0 : 0 ≤ r.delta) (hs : (r.data.size : Int) + e.val.size + e.key.size ≤ 2000) :
    Calls Tryd.prog 4 #[.agg (r.c kv), .agg e.c, .bool there, .int .i64 now, .int .i64 ver] w fun e_ w' => e_ = .returned (.bool true) ∧ Below w.heap.size w w' := by
  have h1 : (r.data.size : Int) ≤ 2000 := by omega
  have h2 : (e.val.size : Int) ≤ 2000 := by omega
  have h3 : (e.key.size : Int) ≤ 2000 := by omega
  have HF := Aside0.mk (show Fine r e from ⟨by omega, by omega, h0⟩)
  have HT := Aside0.mk (ht.below (below_alloc (below_alloc (Below.refl w.heap.size w) (.cells (r.c kv) 27)) (.cells e.c 38)))
  have HB := Aside0.mk (below_alloc (below_alloc (Below.refl w.heap.size w) (.cells (r.c kv) 27)) (.cells e.c 38))
  have s1 : (w.alloc (.cells (r.c kv) 27)).heap.size = w.heap.size + 1 := by simp
  have B1 := Aside0.mk (blk_alloc (blk_new w (.cells (r.c kv) 27)) (.cells e.c 38))
  have B2 := Aside0.mk (show ((w.alloc (.cells (r.c kv) 27)).alloc (.cells e.c 38)).heap[w.heap.size + 1]? = some (.cells e.c 38) by rw [← s1]; exact blk_new _ _)
  obtain ⟨⟨a, x, kp, dr⟩, hN⟩ : ∃ N, N = nextOf r e there now ver := ⟨_, rfl⟩
  have HN := Aside0.mk hN
  clear ht s1 hN h0
  simp only [Rq.c, Ent.c]
  go_enter Tryd.func4, Tryd.ntmps4
  go_wp2_with (first | (refine gate_ (.load 27 (.tmp 5)) rfl ?_; refine ev_load_row (.load 27 (.tmp 5)) rfl rfl 27 (.tmp 5) rfl w.heap.size rfl 27 (r.c kv) _ ((by first | exact B1.out | exact blk_alloc (blk_alloc B1.out _) _)) Tryd.underlying27 rfl (by kernel_rfl) ?_) | (refine gate_ (.load 38 (.tmp 6)) rfl ?_; refine ev_load_row (.load 38 (.tmp 6)) rfl rfl 38 (.tmp 6) rfl (w.heap.size + 1) rfl 38 (e.c) _ ((by first | exact B2.out | exact blk_alloc (blk_alloc B2.out _) _)) Tryd.underlying38 rfl (by kernel_rfl) ?_))
  go_at_call 17
  refine (next_calls r kv e there now ver _ HF.out HT.out).mono ?_
  rintro e_1 w_1 ⟨rfl, hb⟩
  rw [← HN.out]
  simp only [An.c, ans, Ent.c]
  have B1_n := Aside0.mk ((hb.block _ (blk_lt B1.out)).trans B1.out)
  have B2_n := Aside0.mk ((hb.block _ (blk_lt B2.out)).trans B2.out)
  have HB_n := Aside0.mk (below_step HB.out hb)
  have HT_n := Aside0.mk (HT.out.below hb)
  clear B1
  have B1 := B1_n
  clear B1_n
  clear B2
  have B2 := B2_n
  clear B2_n
  clear HB
  have HB := HB_n
  clear HB_n
  clear HT
  have HT := HT_n
  clear HT_n
  clear hb
  go_wp2_with (first | (refine gate_ (.load 27 (.tmp 5)) rfl ?_; refine ev_load_row (.load 27 (.tmp 5)) rfl rfl 27 (.tmp 5) rfl w.heap.size rfl 27 (r.c kv) _ ((by first | exact B1.out | exact blk_alloc (blk_alloc B1.out _) _)) Tryd.underlying27 rfl (by kernel_rfl) ?_) | (refine gate_ (.load 38 (.tmp 6)) rfl ?_; refine ev_load_row (.load 38 (.tmp 6)) rfl rfl 38 (.tmp 6) rfl (w.heap.size + 1) rfl 38 (e.c) _ ((by first | exact B2.out | exact blk_alloc (blk_alloc B2.out _) _)) Tryd.underlying38 rfl (by kernel_rfl) ?_))
  go_at_call 18
  refine told_use (rnext_calls r kv e there now ver _ HF.out) (fun x2 w_2 hx2 hb => ?_)
  rw [← HN.out] at hx2 ⊢
  simp only [An.c, ans, Ent.c]
  have s2 : (w_1.alloc (.cells a.c 32)).heap.size = w_1.heap.size + 1 := by simp
  have B11 := Aside0.mk ((hb.block w_1.heap.size (by simp; omega)).trans (blk_alloc (blk_new w_1 (.cells a.c 32)) (.cells x.c 38)))
  have B12 := Aside0.mk ((hb.block (w_1.heap.size + 1) (by simp)).trans (show ((w_1.alloc (.cells a.c 32)).alloc (.cells x.c 38)).heap[w_1.heap.size + 1]? = some (.cells x.c 38) by rw [← s2]; exact blk_new _ _))
  have hb1 := below_step (below_alloc (below_alloc (Below.refl w_1.heap.size w_1) (.cells a.c 32)) (.cells x.c 38)) hb
  have HX := Aside0.mk (show kp = true → x2 = x from hx2)
  have HB_n := Aside0.mk (below_step HB.out hb1)
  have HT_n := Aside0.mk (HT.out.below hb1)
  clear HB HT hb hb1 hx2 B1 B2 s2
  go_wp2_with (first | (refine gate_ (.load 32 (.tmp 11)) rfl ?_; refine ev_load_row (.load 32 (.tmp 11)) rfl rfl 32 (.tmp 11) rfl w_1.heap.size rfl 32 (a.c) _ (blk_alloc (blk_alloc B11.out _) _) Tryd.underlying32 rfl (by kernel_rfl) ?_) | (refine gate_ (.load 32 (.tmp 15)) rfl ?_; refine ev_load_row (.load 32 (.tmp 15)) rfl rfl 32 (.tmp 15) rfl w_2.heap.size rfl 32 (a.c) _ (blk_alloc (blk_new w_2 (.cells a.c 32)) _) Tryd.underlying32 rfl (by kernel_rfl) ?_))
  go_at_call 19
  refine (answers_calls a.kind a.num a.text _).mono ?_
  rintro e_3 w_3 ⟨rfl, hb⟩
  have s3 : (w_2.alloc (.cells a.c 32)).heap.size = w_2.heap.size + 1 := by simp
  have b12 := (hb.block (w_1.heap.size + 1) (Nat.lt_of_lt_of_le (blk_lt B12.out) (by simp; omega))).trans (blk_alloc (blk_alloc B12.out (.cells a.c 32)) (.cells x2.c 38))
  have b16 := (hb.block (w_2.heap.size + 1) (by simp)).trans (show ((w_2.alloc (.cells a.c 32)).alloc (.cells x2.c 38)).heap[w_2.heap.size + 1]? = some (.cells x2.c 38) by rw [← s3]; exact blk_new _ _)
  have hb1 := below_step (below_alloc (below_alloc (Below.refl w_2.heap.size w_2) (.cells a.c 32)) (.cells x2.c 38)) hb
  have HB3 := Aside0.mk (below_step HB_n.out hb1)
  have HT3 := Aside0.mk (HT_n.out.below hb1)
  clear HB_n HT_n hb hb1 s3
  cases kp
  · clear b12 b16 HX
    go_wp2_with fail
    go_at_call 3
    refine (runs_calls _ HT3.out).mono ?_
    rintro e_4 w_4 ⟨rfl, hb⟩
    have HB4 := Aside0.mk (below_step HB3.out hb)
    clear hb HB3 HT3
    go_wp2
    go_ret
    exact ⟨rfl, HB4.out⟩
  · obtain rfl := HX.out rfl
    have c0 : w_3.cell? ⟨w_1.heap.size + 1, 0, none⟩ = some (.string x2.key) := blk_cell b12 0
    have c1 : w_3.cell? ⟨w_1.heap.size + 1, 1, none⟩ = some (.int .i64 x2.fl) := blk_cell b12 1
    have c2 : w_3.cell? ⟨w_1.heap.size + 1, 2, none⟩ = some (.int .i64 x2.dl) := blk_cell b12 2
    have c3 : w_3.cell? ⟨w_1.heap.size + 1, 3, none⟩ = some (.string x2.val) := blk_cell b12 3
    have c4 : w_3.cell? ⟨w_1.heap.size + 1, 4, none⟩ = some (.int .i64 x2.cas) := blk_cell b12 4
    have d0 : w_3.cell? ⟨w_2.heap.size + 1, 0, none⟩ = some (.string x2.key) := blk_cell b16 0
    have d1 : w_3.cell? ⟨w_2.heap.size + 1, 1, none⟩ = some (.int .i64 x2.fl) := blk_cell b16 1
    have d2 : w_3.cell? ⟨w_2.heap.size + 1, 2, none⟩ = some (.int .i64 x2.dl) := blk_cell b16 2
    have d3 : w_3.cell? ⟨w_2.heap.size + 1, 3, none⟩ = some (.string x2.val) := blk_cell b16 3
    have d4 : w_3.cell? ⟨w_2.heap.size + 1, 4, none⟩ = some (.int .i64 x2.cas) := blk_cell b16 4
    have q38 := eq38 x2
    simp only [Ent.c] at q38
    clear b12 b16 HX
    go_wp2_with fail
    go_at_call 3
    refine (runs_calls _ HT3.out).mono ?_
    rintro e_4 w_4 ⟨rfl, hb⟩
    have HB4 := Aside0.mk (below_step HB3.out hb)
    clear hb HB3 HT3
    go_wp2
    go_ret
    exact ⟨rfl, HB4.out⟩
end Go.Proofs.YtepklobkppdliaaDoor.Md
namespace Go.Proofs.YtepklobkppdliaaDoor.Md
open Go.RowKit Go.Proofs.YtepklobkppdliaaDoorW.PrintWords Go.Proofs.YtepklobkppdliaaDoorW.PrintLast Go.Proofs.YtepklobkppdliaaDoorW.PrintMore Go.Proofs.YtepklobkppdliaaDoor.Lib Go.Proofs.YtepklobkppdliaaDoor.Open Go.Proofs.YtepklobkppdliaaDoor.Open
section
variable {H : Type} {enc : TypeId × Value → H} {P : Program} {w : World} {base : Nat} {spare : Nat → Bool} {held : Bool}
theorem mapM_at {α β : Type} {f : α → Option β} : ∀ {l : List α} {xs : List β}, l.mapM f = some xs → ∀ (i : Nat) (a : α), l[i]? = some a → ∃ y, xs[i]? = some y ∧ f a = some y
  | [], xs, _, i, a, ha => by simp at ha
  | b :: l, xs, h, i, a, ha => by
    rw [List.mapM_cons] at h
    obtain ⟨y, hy, h2⟩ := Option.bind_eq_some_iff.1 h
    obtain ⟨ys, hys, h3⟩ := Option.bind_eq_some_iff.1 h2
    obtain rfl : y :: ys = xs := Option.some.inj h3
    cases i with
    | zero =>
      obtain rfl : b = a := by simpa using ha
      exact ⟨y, rfl, hy⟩
    | succ i => exact mapM_at hys i a (by simpa using ha)
/-- A struct that came in: field by field. -/
theorem struct_at {t : TypeId} {fs : Array Field} {fuel : Nat} {cs : List Value} {x : DataW H × List MemPlace} (ht : P.underlying t = some (.struct fs)) (h : DataW.trod enc P w base spare held (fuel + 1) t cs = some x) :
    cs.length = P.cellsOf t ∧ ∃ parts, x.1 = .agg parts ∧ ∀ (i : Nat) (f : Field), fs.toList[i]? = some f → ∃ y, parts[i]? = some y.1 ∧ DataW.trod enc P w base spare held fuel f.type ((cs.drop f.offset).take (P.cellsOf f.type)) = some y := by
  unfold DataW.trod at h
  rw [ht] at h
  simp only at h
  by_cases hc : cs.length = P.cellsOf t
  · rw [if_pos hc] at h
    obtain ⟨xs, h1, hx⟩ := Option.map_eq_some_iff.1 h
    refine ⟨hc, xs.map (·.1), by rw [← hx], fun i f hf => ?_⟩
    obtain ⟨y, h2, h3⟩ := mapM_at h1 i f hf
    exact ⟨y, by rw [List.getElem?_map, h2]; rfl, h3⟩
  · rw [if_neg hc] at h; cases h
theorem weigh_agg {t : TypeId} {fs : Array Field} {parts : List (DataW H)} (ht : P.underlying t = some (.struct fs)) (hw : ∀ n ∈ (DataW.agg parts).weights P t, n ≤ reachBytes) (i : Nat) (f : Field) (hf : fs.toList[i]? = some f) (s : ByteArray) (hp : parts[i]? = some (.lit (.string s.data.toList))) : s.size ≤ 140737488351232 := by
  have h := hw s.data.toList.length (by
    have : s.data.toList.length ∈ DataW.weightsEach P (fs.toList.map (·.type)) parts := DataW.weights_mem_each (j := i) (t := f.type) (d := .lit (.string s.data.toList)) (by rw [List.getElem?_map, hf]; rfl) hp _ (by simp [DataW.weights])
    simpa [DataW.weights, ht] using this)
  have h2 : reachBytes = 140737488351232 := by decide
  rw [Array.length_toList] at h
  have : s.size = s.data.size := rfl
  omega
end
theorem wf64 {x : Int} (h : (Lit.int .u64 x).wf = true) : 0 ≤ x := by
  have h1 : IntKind.u64.min = 0 := rfl
  simp [Lit.wf] at h
  omega
theorem list9 {α : Type} : ∀ {l : List α}, l.length = 9 → ∃ a b c d e f g h i, l = [a, b, c, d, e, f, g, h, i]
  | [a, b, c, d, e, f, g, h, i], _ => ⟨a, b, c, d, e, f, g, h, i, rfl⟩
theorem list5 {α : Type} : ∀ {l : List α}, l.length = 5 → ∃ a b c d e, l = [a, b, c, d, e]
  | [a, b, c, d, e], _ => ⟨a, b, c, d, e, rfl⟩
section
variable {H : Type} {enc : TypeId × Value → H} {w : World} {base : Nat} {spare : Nat → Bool} {held : Bool} {fuel : Nat} {v : Value} {y : DataW H × List MemPlace}
theorem cell_int (h : DataW.trod enc Tryd.prog w base spare held fuel 3 [v] = some y) : ∃ x, v = .int .i64 x := by
  cases fuel with
  | zero => cases h
  | succ fuel =>
    obtain ⟨b, hb, _⟩ := DataW.trod_int Tryd.underlying3 h
    exact ⟨b, by simpa using hb⟩
theorem cell_u64 (h : DataW.trod enc Tryd.prog w base spare held fuel 25 [v] = some y) : ∃ x, v = .int .u64 x ∧ 0 ≤ x := by
  cases fuel with
  | zero => cases h
  | succ fuel =>
    obtain ⟨b, hb, _, hw⟩ := DataW.trod_int Tryd.underlying25 h
    exact ⟨b, by simpa using hb, (wf64 hw)⟩
theorem cell_bool (h : DataW.trod enc Tryd.prog w base spare held fuel 4 [v] = some y) : ∃ x, v = .bool x := by
  cases fuel with
  | zero => cases h
  | succ fuel =>
    obtain ⟨b, hb, _⟩ := DataW.trod_bool Tryd.underlying4 h
    exact ⟨b, by simpa using hb⟩
theorem cell_str (h : DataW.trod enc Tryd.prog w base spare held fuel 9 [v] = some y) : ∃ x : ByteArray, v = .string x ∧ y.1 = .lit (.string x.data.toList) := by
  cases fuel with
  | zero => cases h
  | succ fuel =>
    obtain ⟨b, hb, he, _⟩ := DataW.trod_string Tryd.underlying9 h
    exact ⟨b, by simpa using hb, by rw [he]⟩
end
section
variable {H : Type} {enc : TypeId × Value → H} {W : World} {base : Nat} {spare : Nat → Bool} {held : Bool} {v : Value} {d : DataW H} {p : List MemPlace}
set_option maxRecDepth 100000 in
/-- A request that came in. -/
theorem open_rq (hv : Value.okWide Tryd.prog W .any base 27 v) (h : DataW.Trod enc Tryd.prog W 0 spare held 27 v d p) (hw : ∀ n ∈ d.weights Tryd.prog 27, n ≤ reachBytes) :
    ∃ x : Rq × Value, v = .agg (x.1.c x.2) ∧ 0 ≤ x.1.delta ∧ x.1.data.size ≤ 140737488351232 := by
  obtain ⟨cs, rfl, _⟩ := WideShapes.okWide_struct Tryd.underlying27 hv
  obtain ⟨fuel, hf⟩ := h
  cases fuel with
  | zero => cases hf
  | succ fuel =>
    obtain ⟨l⟩ := cs
    have hf2 : DataW.trod enc Tryd.prog W 0 spare held (fuel + 1) 27 l = some (d, p) := hf
    obtain ⟨hl, parts, hd, hp⟩ := struct_at Tryd.underlying27 hf2
    obtain rfl : d = .agg parts := hd
    have hn : Tryd.prog.cellsOf 27 = 9 := by kernel_rfl
    have hl9 : l.length = 9 := by rw [hl, hn]
    clear hf hf2 hl hn hv
    obtain ⟨a, b, c, e, f, g, i, j, k, rfl⟩ := list9 hl9
    obtain ⟨_, _, h0⟩ := hp 0 _ rfl
    obtain ⟨_, _, h2⟩ := hp 2 _ rfl
    obtain ⟨_, _, h3⟩ := hp 3 _ rfl
    obtain ⟨_, _, h4⟩ := hp 4 _ rfl
    obtain ⟨_, _, h5⟩ := hp 5 _ rfl
    obtain ⟨_, _, h6⟩ := hp 6 _ rfl
    obtain ⟨_, _, h7⟩ := hp 7 _ rfl
    obtain ⟨y8, h8p, h8⟩ := hp 8 _ rfl
    have c3 : Tryd.prog.cellsOf 3 = 1 := by kernel_rfl
    have c9 : Tryd.prog.cellsOf 9 = 1 := by kernel_rfl
    have c25 : Tryd.prog.cellsOf 25 = 1 := by kernel_rfl
    have c4 : Tryd.prog.cellsOf 4 = 1 := by kernel_rfl
    simp only [c3, c25, c4, c9, List.drop_zero, List.drop_succ_cons, List.take_succ_cons, List.take_zero] at h0 h2 h3 h4 h5 h6 h7 h8
    obtain ⟨x0, rfl⟩ := cell_int (v := a) h0
    obtain ⟨x2, rfl⟩ := cell_int (v := c) h2
    obtain ⟨x3, rfl⟩ := cell_int (v := e) h3
    obtain ⟨x4, rfl⟩ := cell_int (v := f) h4
    obtain ⟨x5, rfl⟩ := cell_int (v := g) h5
    obtain ⟨x6, rfl, hx6⟩ := cell_u64 (v := i) h6
    obtain ⟨x7, rfl⟩ := cell_bool (v := j) h7
    obtain ⟨x8, rfl, hx8⟩ := cell_str (v := k) h8
    rw [hx8] at h8p
    exact ⟨(⟨x0, x2, x3, x4, x5, x6, x7, x8⟩, b), rfl, hx6, weigh_agg Tryd.underlying27 hw 8 _ rfl x8 h8p⟩
set_option maxRecDepth 100000 in
/-- An entry that came in. -/
theorem open_ent (hv : Value.okWide Tryd.prog W .any base 38 v) (h : DataW.Trod enc Tryd.prog W 0 spare held 38 v d p) (hw : ∀ n ∈ d.weights Tryd.prog 38, n ≤ reachBytes) :
    ∃ x : Ent, v = .agg x.c ∧ x.key.size ≤ 140737488351232 ∧ x.val.size ≤ 140737488351232 := by
  obtain ⟨cs, rfl, _⟩ := WideShapes.okWide_struct Tryd.underlying38 hv
  obtain ⟨fuel, hf⟩ := h
  cases fuel with
  | zero => cases hf
  | succ fuel =>
    obtain ⟨l⟩ := cs
    have hf2 : DataW.trod enc Tryd.prog W 0 spare held (fuel + 1) 38 l = some (d, p) := hf
    obtain ⟨hl, parts, hd, hp⟩ := struct_at Tryd.underlying38 hf2
    obtain rfl : d = .agg parts := hd
    have hn : Tryd.prog.cellsOf 38 = 5 := by kernel_rfl
    have hl5 : l.length = 5 := by rw [hl, hn]
    clear hf hf2 hl hn hv
    obtain ⟨a, b, c, e, f, rfl⟩ := list5 hl5
    obtain ⟨_, h0p, h0⟩ := hp 0 _ rfl
    obtain ⟨_, _, h1⟩ := hp 1 _ rfl
    obtain ⟨_, _, h2⟩ := hp 2 _ rfl
    obtain ⟨_, h3p, h3⟩ := hp 3 _ rfl
    obtain ⟨_, _, h4⟩ := hp 4 _ rfl
    have c3 : Tryd.prog.cellsOf 3 = 1 := by kernel_rfl
    have c9 : Tryd.prog.cellsOf 9 = 1 := by kernel_rfl
    simp only [c3, c9, List.drop_zero, List.drop_succ_cons, List.take_succ_cons, List.take_zero] at h0 h1 h2 h3 h4
    obtain ⟨x0, rfl, hx0⟩ := cell_str (v := a) h0
    obtain ⟨x1, rfl⟩ := cell_int (v := b) h1
    obtain ⟨x2, rfl⟩ := cell_int (v := c) h2
    obtain ⟨x3, rfl, hx3⟩ := cell_str (v := e) h3
    obtain ⟨x4, rfl⟩ := cell_int (v := f) h4
    rw [hx0] at h0p
    rw [hx3] at h3p
    exact ⟨⟨x0, x1, x2, x3, x4⟩, rfl, weigh_agg Tryd.underlying38 hw 0 _ rfl x0 h0p, weigh_agg Tryd.underlying38 hw 3 _ rfl x3 h3p⟩
end
theorem mnext_card (r : Rq) (kv : Value) (e : Ent) (there : Bool) (now ver : Int) (w : World) (ht : Pow w) (h1 : 0 ≤ r.delta ∧ r.data.size ≤ 140737488351232) (h2 : e.key.size ≤ 140737488351232 ∧ e.val.size ≤ 140737488351232) :
    Calls Tryd.prog 4 #[.agg (r.c kv), .agg e.c, .bool there, .int .i64 now, .int .i64 ver] w fun e_ w' => e_ = .returned (.bool true) ∧ Below w.heap.size w w' := by
  by_cases hs : 2000 < r.data.size + e.val.size + e.key.size
  · exact mnext_long r kv e there now ver w ht (by omega) (by omega) (by omega) (by omega)
  · exact mnext_calls r kv e there now ver w ht h1.1 (by omega)
end Go.Proofs.YtepklobkppdliaaDoor.Md
