/- The model: the map is written in a region that draws; delete. The model: Apply. -/
import Derived.Test.YtepklobkppdliaaDoorUAd
section
namespace Go.Proofs.YtepklobkppdliaaDoor.Md
open Go.RowKit Go.Proofs.YtepklobkppdliaaDoorW.PrintWords Go.Proofs.YtepklobkppdliaaDoorW.PrintLast Go.Proofs.YtepklobkppdliaaDoorW.PrintMore Go.Proofs.YtepklobkppdliaaDoor.Lib Go.Proofs.YtepklobkppdliaaDoor.Open
section
variable {ops : Array Oper} {rest : List Oper} {o : Oper} {a : Act} {Q : Exit → Act → World → Prop} {W : World} {b n : Nat} {f : ByteArray → Option Ent} {md : Region.Mode}
theorem ev_delete (x y : Operand) (ho : o.op = .call { callee := .builtin .delete, args := #[x, y], argTypes := #[80, 9] }) (hg : o.guard = none) (hx : a.eval x = .map (some b)) (k : ByteArray) (hy : a.eval y = .string k) (hM : Mp W b n f) (hk : k.size ≤ maxLen)
    (h : ∀ w', Mp w' b n (upd f k none) → Mod (fun q => q = b) W w' → wpList Tryd.prog ops Q rest (a.put o.dst (.tuple #[])) w') : wpList Tryd.prog ops Q (o :: rest) a W := by
  refine wpList_plain hg fun K' hK' => ?_
  obtain ⟨w', hrun, r1, r2⟩ := hM.drop k hk o.type
  unfold Oper.wp
  simp [execOp, ho, resolve, invoke, builtin, hx, hy, hrun, Result.andThen]
  exact hK' _ _ (h w' r1 r2)
/-- A map is written, by one operation. -/
structure Mst (W : World) (b n : Nat) (f' : ByteArray → Option Ent) (i0 : Nat) (S : Array Bool) (w : World) : Prop where
  mod : Mod (fun q => q = b) W w
  pre : S.getD i0 false = false → w = W.drew
  post : S.getD i0 false = true → Mp w b n f'
variable {i0 : Nat} {f' : ByteArray → Option Ent}
theorem mst_start {m : Nat} : Mst W b n f' i0 (Array.replicate m false) W.drew := by
  refine ⟨(Mod.refl _ _).drew, fun _ => rfl, fun h => ?_⟩
  rw [Array.getD_eq_getD_getElem?, Array.getElem?_replicate] at h
  split at h <;> cases h
theorem mst_end {m : Nat} {w : World} (h : Mst W b n f' i0 (Array.replicate m true) w) (h0 : i0 < m) : Mod (fun q => q = b) W w ∧ Mp w b n f' := by
  refine ⟨h.mod, h.post ?_⟩
  rw [Array.getD_eq_getD_getElem?, Array.getElem?_replicate, if_pos h0]
  rfl
theorem mst_idle {i : Nat} (h : i ≠ i0) : Ev.Idle (Mst W b n f' i0) i := fun S w _ hC => ⟨hC.mod, by rw [Ev.set_other h]; exact hC.pre, by rw [Ev.set_other h]; exact hC.post⟩
theorem mst_pure {i : Nat} {v : Value} (hi : i ≠ i0) (h : ∀ w, (execOp a.eval o).run Tryd.prog w = .ok (.value v) w) : Ev.Does Tryd.prog md (Mst W b n f' i0) i o a v := Ev.does_pure (mst_idle hi) h
theorem mst_load {i : Nat} {v : Value} (hi : i ≠ i0) (p : Addr) (hc : W.cell? p = some v) (hp : p.block ≠ b) (h : ∀ w : World, w.cell? p = some v → (execOp a.eval o).run Tryd.prog w = .ok (.value v) w) :
    Ev.Does Tryd.prog md (Mst W b n f' i0) i o a v := fun S w h0 _ hC => by
  have hb := hC.mod.block p.block (World.block_lt_of_cell? _ _ hc) hp
  rw [h w (by rw [← hc]; unfold World.cell?; rw [hb])]
  exact ⟨rfl, mst_idle hi S w h0 hC⟩
theorem mst_whole {i : Nat} (hi : i ≠ i0) (g : Nat) (t : TypeId) (cs : Array Value) (hg : W.heap[g]? = some (.cells cs t (0, 0))) (hn : g ≠ b)
    (hr : ∀ w : World, w.heap[g]? = some (.cells cs t (0, 0)) → (execOp a.eval o).run Tryd.prog w = .ok (.value (.agg cs)) w) : Ev.Does Tryd.prog md (Mst W b n f' i0) i o a (.agg cs) := fun S w h0 _ hC => by
  rw [hr w (hC.mod.blk hg hn)]
  exact ⟨rfl, mst_idle hi S w h0 hC⟩
theorem mst_store (x y z : Operand) (ho : o.op = .mapUpdate 80 x y z) (hx : a.eval x = .map (some b)) (k : ByteArray) (hy : a.eval y = .string k) (e : Ent) (hz : a.eval z = .agg e.c) (hM : Mp W b n f) (hn : n < maxLen) (hk : k.size ≤ maxLen) :
    Ev.Does Tryd.prog md (Mst W b (n + 1) (upd f k (some e)) i0) i0 o a undef := fun S w h0 _ hC => by
  obtain rfl := hC.pre (Ev.get_false h0)
  obtain ⟨w', hrun, r1, r2⟩ := (show Mp W.drew b n f from hM).store hn k hk e
  have hr : (execOp a.eval o).run Tryd.prog W.drew = .ok (.value undef) w' ∨ (execOp a.eval o).run Tryd.prog W.drew = .ok .skip w' := by
    simp [execOp, ho, hx, hy, hz, hrun, Result.andThen]
  have hD : Mst W b (n + 1) (upd f k (some e)) i0 (S.setIfInBounds i0 true) w' := by
    refine ⟨hC.mod.trans r2 (fun q hq => .inl hq), fun h => ?_, fun _ => r1⟩
    rw [Ev.set_same h0] at h
    cases h
  rcases hr with hr | hr
  · rw [hr]
    exact ⟨rfl, hD⟩
  · rw [hr]
    exact ⟨rfl, hD⟩
end
end Go.Proofs.YtepklobkppdliaaDoor.Md
end
section
namespace Go.Proofs.YtepklobkppdliaaDoor.Md
open Go.RowKit Go.Proofs.YtepklobkppdliaaDoorW.PrintWords Go.Proofs.YtepklobkppdliaaDoorW.PrintLast Go.Proofs.YtepklobkppdliaaDoorW.PrintMore Go.Proofs.YtepklobkppdliaaDoor.Lib Go.Proofs.YtepklobkppdliaaDoor.Open
set_option maxHeartbeats 8000000 in
set_option maxRecDepth 100000 in
theorem apply_keep (g b n : Nat) (f : ByteArray → Option Ent) (r : Rq) (k : ByteArray) (ad : Addr) (cap : Nat) (now ver : Int) (a : An) (x : Ent) (w : World) (h : Md w g b n f) (hn : n < maxLen) (hk : k.size ≤ maxLen) (hc : w.cell? ad = some (.string k))
    (hv : r.verb ≠ 1 ∧ r.verb ≠ 2 ∧ r.verb ≠ 13) (ht : Pow w) (hF : Fine r ((liveOf f k now).getD (keyEnt k))) (hx : nextOf r ((liveOf f k now).getD (keyEnt k)) (liveOf f k now).isSome now ver = (a, x, true, false)) :
    Calls Tryd.prog 16 #[.pointer (some ⟨g, 0, none⟩), .agg (r.c (.slice (some ad) 1 cap)), .int .i64 now, .int .i64 ver] w fun e w' => e = .returned (.agg a.c) ∧ Mp w' b (n + 1) (upd f k (some x)) ∧ Mod (fun q => q = b) w w' := by
  obtain ⟨E, hE⟩ : ∃ E, E = (liveOf f k now).getD (keyEnt k) := ⟨_, rfl⟩
  obtain ⟨L, hL⟩ : ∃ L, L = (liveOf f k now).isSome := ⟨_, rfl⟩
  rw [← hE, ← hL] at hx
  rw [← hE] at hF
  have e1 : (r.verb == 1) = false := beq_eq_false_iff_ne.2 hv.1
  have e2 : (r.verb == 2) = false := beq_eq_false_iff_ne.2 hv.2.1
  have e13 : (r.verb == 13) = false := beq_eq_false_iff_ne.2 hv.2.2
  obtain ⟨ab, ao, ai⟩ := ad
  have hlt : ab < w.heap.size := World.block_lt_of_cell? _ _ hc
  have hck : ∀ o1 o2, ((w.alloc o1).alloc o2).cell? ⟨ab, ao, ai⟩ = some (.string k) := fun o1 o2 => by
    rw [World.cell?_alloc_lt _ _ _ (by simp; omega), World.cell?_alloc_lt _ _ _ hlt]
    exact hc
  have hs1 : ((w.alloc (.cells (r.c (.slice (some ⟨ab, ao, ai⟩) 1 cap)) 27)).heap.size = w.heap.size + 1) := by simp
  have B5 := Aside0.mk (blk_alloc (blk_new w (.cells (r.c (.slice (some ⟨ab, ao, ai⟩) 1 cap)) 27)) (.cells A0 32))
  have B8 := Aside0.mk (show ((w.alloc (.cells (r.c (.slice (some ⟨ab, ao, ai⟩) 1 cap)) 27)).alloc (.cells A0 32)).heap[w.heap.size + 1]? = some (.cells A0 32) by rw [← hs1]; exact blk_new _ _)
  have HM := Aside0.mk (h.below (below_alloc (below_alloc (Below.refl _ _) (.cells (r.c (.slice (some ⟨ab, ao, ai⟩) 1 cap)) 27)) (.cells A0 32)))
  have HT := Aside0.mk (ht.below (below_alloc (below_alloc (Below.refl _ _) (.cells (r.c (.slice (some ⟨ab, ao, ai⟩) 1 cap)) 27)) (.cells A0 32)))
  have HB := Aside0.mk (below_alloc (below_alloc (Below.refl w.heap.size w) (.cells (r.c (.slice (some ⟨ab, ao, ai⟩) 1 cap)) 27)) (.cells A0 32))
  have HE := Aside0.mk hE
  have HL := Aside0.mk hL
  have HX := Aside0.mk hx
  have HF := Aside0.mk hF
  have HK := Aside0.mk hk
  have HG := Aside0.mk h.lt
  have HNE := Aside0.mk h.ne
  have HN := Aside0.mk hn
  clear hE hL hx hF h ht hc hv hs1 hk hn hlt
  simp only [Rq.c]
  go_enter Tryd.func16, Tryd.ntmps16
  go_wp2_with (first | (go_at_call 35; (refine (living_calls g b n f k now _ HM.out HK.out).mono ?_); rintro e_1 w_1 ⟨rfl, hb⟩; rw [← HE.out, ← HL.out]; simp only [Ent.c]; have B5n := Aside0.mk ((hb.block _ (blk_lt B5.out)).trans B5.out); have B8n := Aside0.mk ((hb.block _ (blk_lt B8.out)).trans B8.out); have HMn := Aside0.mk (HM.out.below hb); have HTn := Aside0.mk (HT.out.below hb); have HBn := Aside0.mk (HB.out.trans (hb.mono HB.out.size)); clear B5; have B5 := B5n; clear B5n; clear B8; have B8 := B8n; clear B8n; clear HM; have HM := HMn; clear HMn; clear HT; have HT := HTn; clear HTn; clear HB; have HB := HBn; clear HBn; clear hb) | (refine gate_ (.load 27 (.tmp 5)) rfl ?_; refine ev_load_row (.load 27 (.tmp 5)) rfl rfl 27 (.tmp 5) rfl w.heap.size rfl 27 (r.c (.slice (some ⟨ab, ao, ai⟩) 1 cap)) _ (by first | exact blk_alloc B5.out _ | exact B5.out) Tryd.underlying27 rfl (by kernel_rfl) ?_))
  go_at_call 17
  refine (next_calls r (.slice (some ⟨ab, ao, ai⟩) 1 cap) E L now ver _ HF.out (HT.out.alloc _)).mono ?_
  rintro e_2 w_2 ⟨rfl, hb⟩
  rw [HX.out]
  simp only [An.c, ans, Ent.c]
  have hbw := (below_alloc (Below.refl w_1.heap.size w_1) _).trans (hb.mono (by simp))
  clear hb
  have B5n := Aside0.mk ((hbw.block _ (blk_lt B5.out)).trans B5.out)
  have B8n := Aside0.mk ((hbw.block _ (blk_lt B8.out)).trans B8.out)
  have HMn := Aside0.mk (HM.out.below hbw)
  have HTn := Aside0.mk (HT.out.below hbw)
  have HBn := Aside0.mk (HB.out.trans (hbw.mono HB.out.size))
  clear B5
  have B5 := B5n
  clear B5n
  clear B8
  have B8 := B8n
  clear B8n
  clear HM
  have HM := HMn
  clear HMn
  clear HT
  have HT := HTn
  clear HTn
  clear HB
  have HB := HBn
  clear HBn
  clear hbw
  have hg2 := HM.out.lt
  have c0 : ∀ o1 o2, ((w_2.alloc o1).alloc o2).cell? ⟨g, 0, none⟩ = some (.map (some b)) := fun o1 o2 => by
    rw [World.cell?_alloc_lt _ _ _ (by simp; omega), World.cell?_alloc_lt _ _ _ hg2.1]
    exact blk_cell HM.out.blk 0
  have HG2 := Aside0.mk hg2
  clear hg2
  have hs2 : (w_2.alloc (.cells a.c 32)).heap.size = w_2.heap.size + 1 := by simp
  have B17 := Aside0.mk (blk_alloc (blk_new w_2 (.cells a.c 32)) (.cells x.c 38))
  have B18 := Aside0.mk (show ((w_2.alloc (.cells a.c 32)).alloc (.cells x.c 38)).heap[w_2.heap.size + 1]? = some (.cells x.c 38) by rw [← hs2]; exact blk_new _ _)
  have B8c := Aside0.mk (blk_alloc (blk_alloc B8.out (.cells a.c 32)) (.cells x.c 38))
  have HMc := Aside0.mk (HM.out.below (below_alloc (below_alloc (Below.refl _ _) (.cells a.c 32)) (.cells x.c 38)))
  have HBc := Aside0.mk (below_step HB.out (below_alloc (below_alloc (Below.refl _ _) (.cells a.c 32)) (.cells x.c 38)))
  have h8 := blk_lt B8.out
  have H8 := Aside0.mk h8
  clear hs2 B8 HM HB h8
  go_wp2
  change Code.wp _ _ _ _ ((w_2.alloc (.cells a.c 32)).alloc (.cells x.c 38))
  refine Ev.region_ev (Mst ((w_2.alloc (.cells a.c 32)).alloc (.cells x.c 38)) b (n + 1) (upd f k (some x)) 6) (by kernel_rfl) (by kernel_rfl) mst_start ?_
  refine Ev.ev_step (v := .pointer (some ⟨g, 0, none⟩)) rfl rfl (mst_pure (by decide) (fun _ => rfl)) ?_
  simp only [Act.put, List.setIfInBounds_toArray, List.set_cons_succ, List.set_cons_zero]
  refine Ev.ev_step (v := .pointer (some ⟨g, 0, none⟩)) rfl rfl (mst_pure (by decide) (fun _ => by first | rfl | (go_simp; done) | (go_simp; rfl))) ?_
  simp only [Act.put, List.setIfInBounds_toArray, List.set_cons_succ, List.set_cons_zero]
  refine Ev.ev_step (v := .pointer (some ⟨g, 0, none⟩)) rfl rfl (mst_pure (by decide) (fun _ => rfl)) ?_
  simp only [Act.put, List.setIfInBounds_toArray, List.set_cons_succ, List.set_cons_zero]
  refine Ev.ev_step (v := .map (some b)) rfl rfl (mst_load (by decide) ⟨g, 0, none⟩ (blk_cell HMc.out.blk 0) (fun e => HNE.out e.symm) (fun w hc => by go_simp)) ?_
  simp only [Act.put, List.setIfInBounds_toArray, List.set_cons_succ, List.set_cons_zero]
  refine Ev.ev_step (v := .string k) rfl rfl (mst_pure (by decide) (fun _ => rfl)) ?_
  simp only [Act.put, List.setIfInBounds_toArray, List.set_cons_succ, List.set_cons_zero]
  refine Ev.ev_step (v := .agg x.c) rfl rfl (mst_whole (by decide) (w_2.heap.size + 1) 38 x.c B18.out (by have := HG2.out.2; omega) (fun w h => Ev.run_load_whole 38 (.tmp 18) rfl _ rfl 38 x.c _ h Tryd.underlying38 rfl (by kernel_rfl))) ?_
  simp only [Act.put, List.setIfInBounds_toArray, List.set_cons_succ, List.set_cons_zero]
  refine Ev.ev_step (v := undef) rfl rfl (mst_store (.tmp 99) (.tmp 100) (.tmp 101) rfl rfl k rfl x rfl HMc.out.mp HN.out HK.out) ?_
  simp only [Act.put]
  refine Ev.ev_nil (fun w_e hw_e => ?_)
  obtain ⟨hM_e, hP_e⟩ := mst_end hw_e (by decide)
  clear hw_e
  have B17e := Aside0.mk (hM_e.blk B17.out (by have := HG2.out.2; omega))
  have B8e := Aside0.mk (hM_e.blk B8c.out (fun e => by have := HG.out.2; omega))
  have HPe := Aside0.mk hP_e
  have HMe := Aside0.mk ((Mod.of_below HBc.out (fun q => q = b)).trans hM_e (fun q hq => .inl hq))
  clear hP_e hM_e c0
  go_wp2_with (first | (refine gate_ (.load 32 (.tmp 17)) rfl ?_; refine ev_load_row (.load 32 (.tmp 17)) rfl rfl 32 (.tmp 17) rfl w_2.heap.size rfl 32 a.c _ B17e.out Tryd.underlying32 rfl (by kernel_rfl) ?_) | (refine gate_ (.store 32 (.tmp 8) (.tmp 108)) rfl ?_; refine ev_store_row (.store 32 (.tmp 8) (.tmp 108)) rfl rfl rfl 32 (.tmp 8) (.tmp 108) rfl (w.heap.size + 1) a.c rfl rfl 32 A0 B8e.out (by kernel_rfl) rfl (ans_one _ _ _) ?_; intro w_5 hw5 hm5; have HW5 := Aside0.mk hw5; have HM5 := Aside0.mk hm5; clear hw5 hm5))
  refine bodyPost_ret (results_cell_row rfl _ _ (w.heap.size + 1) 32 _ (0, 0) _ rfl HW5.out Tryd.underlying32 rfl (by kernel_rfl)) rfl ⟨rfl, ?_⟩
  have hg := HG.out
  exact ⟨HPe.out.mod HM5.out (fun e => by omega), HMe.out.trans HM5.out (fun q hq => .inr (by omega))⟩

set_option maxHeartbeats 8000000 in
set_option maxRecDepth 100000 in
theorem apply_drop (g b n : Nat) (f : ByteArray → Option Ent) (r : Rq) (k : ByteArray) (ad : Addr) (cap : Nat) (now ver : Int) (a : An) (x : Ent) (w : World) (h : Md w g b n f) (hn : n < maxLen) (hk : k.size ≤ maxLen) (hc : w.cell? ad = some (.string k))
    (hv : r.verb ≠ 1 ∧ r.verb ≠ 2 ∧ r.verb ≠ 13) (ht : Pow w) (hF : Fine r ((liveOf f k now).getD (keyEnt k))) (hx : nextOf r ((liveOf f k now).getD (keyEnt k)) (liveOf f k now).isSome now ver = (a, x, false, true)) :
    Calls Tryd.prog 16 #[.pointer (some ⟨g, 0, none⟩), .agg (r.c (.slice (some ad) 1 cap)), .int .i64 now, .int .i64 ver] w fun e w' => e = .returned (.agg a.c) ∧ Mp w' b n (upd f k none) ∧ Mod (fun q => q = b) w w' := by
  obtain ⟨E, hE⟩ : ∃ E, E = (liveOf f k now).getD (keyEnt k) := ⟨_, rfl⟩
  obtain ⟨L, hL⟩ : ∃ L, L = (liveOf f k now).isSome := ⟨_, rfl⟩
  rw [← hE, ← hL] at hx
  rw [← hE] at hF
  have e1 : (r.verb == 1) = false := beq_eq_false_iff_ne.2 hv.1
  have e2 : (r.verb == 2) = false := beq_eq_false_iff_ne.2 hv.2.1
  have e13 : (r.verb == 13) = false := beq_eq_false_iff_ne.2 hv.2.2
  obtain ⟨ab, ao, ai⟩ := ad
  have hlt : ab < w.heap.size := World.block_lt_of_cell? _ _ hc
  have hck : ∀ o1 o2, ((w.alloc o1).alloc o2).cell? ⟨ab, ao, ai⟩ = some (.string k) := fun o1 o2 => by
    rw [World.cell?_alloc_lt _ _ _ (by simp; omega), World.cell?_alloc_lt _ _ _ hlt]
    exact hc
  have hs1 : ((w.alloc (.cells (r.c (.slice (some ⟨ab, ao, ai⟩) 1 cap)) 27)).heap.size = w.heap.size + 1) := by simp
  have B5 := Aside0.mk (blk_alloc (blk_new w (.cells (r.c (.slice (some ⟨ab, ao, ai⟩) 1 cap)) 27)) (.cells A0 32))
  have B8 := Aside0.mk (show ((w.alloc (.cells (r.c (.slice (some ⟨ab, ao, ai⟩) 1 cap)) 27)).alloc (.cells A0 32)).heap[w.heap.size + 1]? = some (.cells A0 32) by rw [← hs1]; exact blk_new _ _)
  have HM := Aside0.mk (h.below (below_alloc (below_alloc (Below.refl _ _) (.cells (r.c (.slice (some ⟨ab, ao, ai⟩) 1 cap)) 27)) (.cells A0 32)))
  have HT := Aside0.mk (ht.below (below_alloc (below_alloc (Below.refl _ _) (.cells (r.c (.slice (some ⟨ab, ao, ai⟩) 1 cap)) 27)) (.cells A0 32)))
  have HB := Aside0.mk (below_alloc (below_alloc (Below.refl w.heap.size w) (.cells (r.c (.slice (some ⟨ab, ao, ai⟩) 1 cap)) 27)) (.cells A0 32))
  have HE := Aside0.mk hE
  have HL := Aside0.mk hL
  have HX := Aside0.mk hx
  have HF := Aside0.mk hF
  have HK := Aside0.mk hk
  have HG := Aside0.mk h.lt
  have HNE := Aside0.mk h.ne
  have HN := Aside0.mk hn
  clear hE hL hx hF h ht hc hv hs1 hk hn hlt
  simp only [Rq.c]
  go_enter Tryd.func16, Tryd.ntmps16
  go_wp2_with (first | (go_at_call 35; (refine (living_calls g b n f k now _ HM.out HK.out).mono ?_); rintro e_1 w_1 ⟨rfl, hb⟩; rw [← HE.out, ← HL.out]; simp only [Ent.c]; have B5n := Aside0.mk ((hb.block _ (blk_lt B5.out)).trans B5.out); have B8n := Aside0.mk ((hb.block _ (blk_lt B8.out)).trans B8.out); have HMn := Aside0.mk (HM.out.below hb); have HTn := Aside0.mk (HT.out.below hb); have HBn := Aside0.mk (HB.out.trans (hb.mono HB.out.size)); clear B5; have B5 := B5n; clear B5n; clear B8; have B8 := B8n; clear B8n; clear HM; have HM := HMn; clear HMn; clear HT; have HT := HTn; clear HTn; clear HB; have HB := HBn; clear HBn; clear hb) | (refine gate_ (.load 27 (.tmp 5)) rfl ?_; refine ev_load_row (.load 27 (.tmp 5)) rfl rfl 27 (.tmp 5) rfl w.heap.size rfl 27 (r.c (.slice (some ⟨ab, ao, ai⟩) 1 cap)) _ (by first | exact blk_alloc B5.out _ | exact B5.out) Tryd.underlying27 rfl (by kernel_rfl) ?_))
  go_at_call 17
  refine (next_calls r (.slice (some ⟨ab, ao, ai⟩) 1 cap) E L now ver _ HF.out (HT.out.alloc _)).mono ?_
  rintro e_2 w_2 ⟨rfl, hb⟩
  rw [HX.out]
  simp only [An.c, ans, Ent.c]
  have hbw := (below_alloc (Below.refl w_1.heap.size w_1) _).trans (hb.mono (by simp))
  clear hb
  have B5n := Aside0.mk ((hbw.block _ (blk_lt B5.out)).trans B5.out)
  have B8n := Aside0.mk ((hbw.block _ (blk_lt B8.out)).trans B8.out)
  have HMn := Aside0.mk (HM.out.below hbw)
  have HTn := Aside0.mk (HT.out.below hbw)
  have HBn := Aside0.mk (HB.out.trans (hbw.mono HB.out.size))
  clear B5
  have B5 := B5n
  clear B5n
  clear B8
  have B8 := B8n
  clear B8n
  clear HM
  have HM := HMn
  clear HMn
  clear HT
  have HT := HTn
  clear HTn
  clear HB
  have HB := HBn
  clear HBn
  clear hbw
  have hg2 := HM.out.lt
  have c0 : ∀ o1 o2, ((w_2.alloc o1).alloc o2).cell? ⟨g, 0, none⟩ = some (.map (some b)) := fun o1 o2 => by
    rw [World.cell?_alloc_lt _ _ _ (by simp; omega), World.cell?_alloc_lt _ _ _ hg2.1]
    exact blk_cell HM.out.blk 0
  have HG2 := Aside0.mk hg2
  clear hg2
  have hs2 : (w_2.alloc (.cells a.c 32)).heap.size = w_2.heap.size + 1 := by simp
  have B17 := Aside0.mk (blk_alloc (blk_new w_2 (.cells a.c 32)) (.cells x.c 38))
  have B18 := Aside0.mk (show ((w_2.alloc (.cells a.c 32)).alloc (.cells x.c 38)).heap[w_2.heap.size + 1]? = some (.cells x.c 38) by rw [← hs2]; exact blk_new _ _)
  have B8c := Aside0.mk (blk_alloc (blk_alloc B8.out (.cells a.c 32)) (.cells x.c 38))
  have HMc := Aside0.mk (HM.out.below (below_alloc (below_alloc (Below.refl _ _) (.cells a.c 32)) (.cells x.c 38)))
  have HBc := Aside0.mk (below_step HB.out (below_alloc (below_alloc (Below.refl _ _) (.cells a.c 32)) (.cells x.c 38)))
  have h8 := blk_lt B8.out
  have H8 := Aside0.mk h8
  clear hs2 B8 HM HB h8
  go_wp2_with (first | (refine gate_ (.call { callee := .builtin .delete, args := #[.tmp 106, .tmp 107], argTypes := #[80, 9] }) rfl ?_; refine ev_delete (.tmp 106) (.tmp 107) rfl rfl rfl k rfl HMc.out.mp HK.out ?_; intro w_3 hp hm; have B17e := Aside0.mk (hm.blk B17.out (by have := HG2.out.2; omega)); have B8e := Aside0.mk (hm.blk B8c.out (fun e => by have := HG.out.2; omega)); have HPe := Aside0.mk hp; have HMe := Aside0.mk ((Mod.of_below HBc.out (fun q => q = b)).trans hm (fun q hq => .inl hq)); clear hp hm) | (refine gate_ (.load 32 (.tmp 17)) rfl ?_; refine ev_load_row (.load 32 (.tmp 17)) rfl rfl 32 (.tmp 17) rfl w_2.heap.size rfl 32 a.c _ B17e.out Tryd.underlying32 rfl (by kernel_rfl) ?_) | (refine gate_ (.store 32 (.tmp 8) (.tmp 108)) rfl ?_; refine ev_store_row (.store 32 (.tmp 8) (.tmp 108)) rfl rfl rfl 32 (.tmp 8) (.tmp 108) rfl (w.heap.size + 1) a.c rfl rfl 32 A0 B8e.out (by kernel_rfl) rfl (ans_one _ _ _) ?_; intro w_5 hw5 hm5; have HW5 := Aside0.mk hw5; have HM5 := Aside0.mk hm5; clear hw5 hm5))
  refine bodyPost_ret (results_cell_row rfl _ _ (w.heap.size + 1) 32 _ (0, 0) _ rfl HW5.out Tryd.underlying32 rfl (by kernel_rfl)) rfl ⟨rfl, ?_⟩
  have hg := HG.out
  exact ⟨HPe.out.mod HM5.out (fun e => by omega), HMe.out.trans HM5.out (fun q hq => .inr (by omega))⟩

set_option maxHeartbeats 8000000 in
set_option maxRecDepth 100000 in
theorem apply_none (g b n : Nat) (f : ByteArray → Option Ent) (r : Rq) (k : ByteArray) (ad : Addr) (cap : Nat) (now ver : Int) (a : An) (x : Ent) (w : World) (h : Md w g b n f) (hn : n < maxLen) (hk : k.size ≤ maxLen) (hc : w.cell? ad = some (.string k))
    (hv : r.verb ≠ 1 ∧ r.verb ≠ 2 ∧ r.verb ≠ 13) (ht : Pow w) (hF : Fine r ((liveOf f k now).getD (keyEnt k))) (hx : nextOf r ((liveOf f k now).getD (keyEnt k)) (liveOf f k now).isSome now ver = (a, x, false, false)) :
    Calls Tryd.prog 16 #[.pointer (some ⟨g, 0, none⟩), .agg (r.c (.slice (some ad) 1 cap)), .int .i64 now, .int .i64 ver] w fun e w' => e = .returned (.agg a.c) ∧ Mp w' b n f ∧ Mod (fun q => q = b) w w' := by
  obtain ⟨E, hE⟩ : ∃ E, E = (liveOf f k now).getD (keyEnt k) := ⟨_, rfl⟩
  obtain ⟨L, hL⟩ : ∃ L, L = (liveOf f k now).isSome := ⟨_, rfl⟩
  rw [← hE, ← hL] at hx
  rw [← hE] at hF
  have e1 : (r.verb == 1) = false := beq_eq_false_iff_ne.2 hv.1
  have e2 : (r.verb == 2) = false := beq_eq_false_iff_ne.2 hv.2.1
  have e13 : (r.verb == 13) = false := beq_eq_false_iff_ne.2 hv.2.2
  obtain ⟨ab, ao, ai⟩ := ad
  have hlt : ab < w.heap.size := World.block_lt_of_cell? _ _ hc
  have hck : ∀ o1 o2, ((w.alloc o1).alloc o2).cell? ⟨ab, ao, ai⟩ = some (.string k) := fun o1 o2 => by
    rw [World.cell?_alloc_lt _ _ _ (by simp; omega), World.cell?_alloc_lt _ _ _ hlt]
    exact hc
  have hs1 : ((w.alloc (.cells (r.c (.slice (some ⟨ab, ao, ai⟩) 1 cap)) 27)).heap.size = w.heap.size + 1) := by simp
  have B5 := Aside0.mk (blk_alloc (blk_new w (.cells (r.c (.slice (some ⟨ab, ao, ai⟩) 1 cap)) 27)) (.cells A0 32))
  have B8 := Aside0.mk (show ((w.alloc (.cells (r.c (.slice (some ⟨ab, ao, ai⟩) 1 cap)) 27)).alloc (.cells A0 32)).heap[w.heap.size + 1]? = some (.cells A0 32) by rw [← hs1]; exact blk_new _ _)
  have HM := Aside0.mk (h.below (below_alloc (below_alloc (Below.refl _ _) (.cells (r.c (.slice (some ⟨ab, ao, ai⟩) 1 cap)) 27)) (.cells A0 32)))
  have HT := Aside0.mk (ht.below (below_alloc (below_alloc (Below.refl _ _) (.cells (r.c (.slice (some ⟨ab, ao, ai⟩) 1 cap)) 27)) (.cells A0 32)))
  have HB := Aside0.mk (below_alloc (below_alloc (Below.refl w.heap.size w) (.cells (r.c (.slice (some ⟨ab, ao, ai⟩) 1 cap)) 27)) (.cells A0 32))
  have HE := Aside0.mk hE
  have HL := Aside0.mk hL
  have HX := Aside0.mk hx
  have HF := Aside0.mk hF
  have HK := Aside0.mk hk
  have HG := Aside0.mk h.lt
  have HNE := Aside0.mk h.ne
  have HN := Aside0.mk hn
  clear hE hL hx hF h ht hc hv hs1 hk hn hlt
  simp only [Rq.c]
  go_enter Tryd.func16, Tryd.ntmps16
  go_wp2_with (first | (go_at_call 35; (refine (living_calls g b n f k now _ HM.out HK.out).mono ?_); rintro e_1 w_1 ⟨rfl, hb⟩; rw [← HE.out, ← HL.out]; simp only [Ent.c]; have B5n := Aside0.mk ((hb.block _ (blk_lt B5.out)).trans B5.out); have B8n := Aside0.mk ((hb.block _ (blk_lt B8.out)).trans B8.out); have HMn := Aside0.mk (HM.out.below hb); have HTn := Aside0.mk (HT.out.below hb); have HBn := Aside0.mk (HB.out.trans (hb.mono HB.out.size)); clear B5; have B5 := B5n; clear B5n; clear B8; have B8 := B8n; clear B8n; clear HM; have HM := HMn; clear HMn; clear HT; have HT := HTn; clear HTn; clear HB; have HB := HBn; clear HBn; clear hb) | (refine gate_ (.load 27 (.tmp 5)) rfl ?_; refine ev_load_row (.load 27 (.tmp 5)) rfl rfl 27 (.tmp 5) rfl w.heap.size rfl 27 (r.c (.slice (some ⟨ab, ao, ai⟩) 1 cap)) _ (by first | exact blk_alloc B5.out _ | exact B5.out) Tryd.underlying27 rfl (by kernel_rfl) ?_))
  go_at_call 17
  refine (next_calls r (.slice (some ⟨ab, ao, ai⟩) 1 cap) E L now ver _ HF.out (HT.out.alloc _)).mono ?_
  rintro e_2 w_2 ⟨rfl, hb⟩
  rw [HX.out]
  simp only [An.c, ans, Ent.c]
  have hbw := (below_alloc (Below.refl w_1.heap.size w_1) _).trans (hb.mono (by simp))
  clear hb
  have B5n := Aside0.mk ((hbw.block _ (blk_lt B5.out)).trans B5.out)
  have B8n := Aside0.mk ((hbw.block _ (blk_lt B8.out)).trans B8.out)
  have HMn := Aside0.mk (HM.out.below hbw)
  have HTn := Aside0.mk (HT.out.below hbw)
  have HBn := Aside0.mk (HB.out.trans (hbw.mono HB.out.size))
  clear B5
  have B5 := B5n
  clear B5n
  clear B8
  have B8 := B8n
  clear B8n
  clear HM
  have HM := HMn
  clear HMn
  clear HT
  have HT := HTn
  clear HTn
  clear HB
  have HB := HBn
  clear HBn
  clear hbw
  have hg2 := HM.out.lt
  have c0 : ∀ o1 o2, ((w_2.alloc o1).alloc o2).cell? ⟨g, 0, none⟩ = some (.map (some b)) := fun o1 o2 => by
    rw [World.cell?_alloc_lt _ _ _ (by simp; omega), World.cell?_alloc_lt _ _ _ hg2.1]
    exact blk_cell HM.out.blk 0
  have HG2 := Aside0.mk hg2
  clear hg2
  have hs2 : (w_2.alloc (.cells a.c 32)).heap.size = w_2.heap.size + 1 := by simp
  have B17 := Aside0.mk (blk_alloc (blk_new w_2 (.cells a.c 32)) (.cells x.c 38))
  have B18 := Aside0.mk (show ((w_2.alloc (.cells a.c 32)).alloc (.cells x.c 38)).heap[w_2.heap.size + 1]? = some (.cells x.c 38) by rw [← hs2]; exact blk_new _ _)
  have B8c := Aside0.mk (blk_alloc (blk_alloc B8.out (.cells a.c 32)) (.cells x.c 38))
  have HMc := Aside0.mk (HM.out.below (below_alloc (below_alloc (Below.refl _ _) (.cells a.c 32)) (.cells x.c 38)))
  have HBc := Aside0.mk (below_step HB.out (below_alloc (below_alloc (Below.refl _ _) (.cells a.c 32)) (.cells x.c 38)))
  have h8 := blk_lt B8.out
  have H8 := Aside0.mk h8
  clear hs2 B8 HM HB h8
  have B17e := B17
  have B8e := B8c
  go_wp2_with (first | (refine gate_ (.load 32 (.tmp 17)) rfl ?_; refine ev_load_row (.load 32 (.tmp 17)) rfl rfl 32 (.tmp 17) rfl w_2.heap.size rfl 32 a.c _ B17e.out Tryd.underlying32 rfl (by kernel_rfl) ?_) | (refine gate_ (.store 32 (.tmp 8) (.tmp 108)) rfl ?_; refine ev_store_row (.store 32 (.tmp 8) (.tmp 108)) rfl rfl rfl 32 (.tmp 8) (.tmp 108) rfl (w.heap.size + 1) a.c rfl rfl 32 A0 B8e.out (by kernel_rfl) rfl (ans_one _ _ _) ?_; intro w_5 hw5 hm5; have HW5 := Aside0.mk hw5; have HM5 := Aside0.mk hm5; clear hw5 hm5))
  refine bodyPost_ret (results_cell_row rfl _ _ (w.heap.size + 1) 32 _ (0, 0) _ rfl HW5.out Tryd.underlying32 rfl (by kernel_rfl)) rfl ⟨rfl, ?_⟩
  have hg := HG.out
  exact ⟨HMc.out.mp.mod HM5.out (fun e => by omega), (Mod.of_below HBc.out (fun q => q = b)).trans HM5.out (fun q hq => .inr (by omega))⟩
end Go.Proofs.YtepklobkppdliaaDoor.Md
end
