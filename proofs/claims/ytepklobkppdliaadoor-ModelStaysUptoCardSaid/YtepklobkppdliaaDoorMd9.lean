/- The model: the map is written in a region that draws; delete. -/
import Derived.Test.YtepklobkppdliaaDoorMd8
namespace Go.Proofs.YtepklobkppdliaaDoor.Md
open Go.RowKit Go.Proofs.YtepklobkppdliaaDoorW.PrintWords Go.Proofs.YtepklobkppdliaaDoorW.PrintLast Go.Proofs.YtepklobkppdliaaDoorW.PrintMore Go.Proofs.YtepklobkppdliaaDoor.Lib Go.Proofs.YtepklobkppdliaaDoor.Open
section
variable {ops : Array Oper} {rest : List Oper} {o : Oper} {a : Act} {Q : Exit → Act → World → Prop} {W : World} {b n : Nat} {f : ByteArray → Option Ent} {md : Region.Mode}
theorem ev_delete (x y : Operand) (ho : o.op = .call { callee := .builtin .delete, args := #[x, y], argTypes := #[80, 9] }) (hg : o.guard = none) (hx : a.eval x = .map (some b)) (k : ByteArray) (hy : a.eval y = .string k) (hM : Mp W b n f) (hk : k.size ≤ maxLen)
    (h : ∀ w', Mp w' b n (upd f k none) → Mod (fun q => q = b) W w' → wpList Tryd.prog ops Q rest (a.put o.dst (.tuple #[])) w') : wpList Tryd.prog ops Q (o :: rest) a W := by
  refine wpList_plain hg fun K' hK' => ?_
  obtain ⟨w', hrun, r1, r2⟩ := hM.drop k hk o.type
  unfold Oper.wp
  simp [execOp, ho, resolve, invoke, builtin, hx, hy, hrun, Result.andThen]
  exact hK' _ _ (h w' r1 r2)
/-- A map is written, by one operation. -/
structure Mst (W : World) (b n : Nat) (f' : ByteArray → Option Ent) (i0 : Nat) (S : Array Bool) (w : World) : Prop where
  mod : Mod (fun q => q = b) W w
  pre : S.getD i0 false = false → w = W.drew
  post : S.getD i0 false = true → Mp w b n f'
variable {i0 : Nat} {f' : ByteArray → Option Ent}
theorem mst_start {m : Nat} : Mst W b n f' i0 (Array.replicate m false) W.drew := by
  refine ⟨(Mod.refl _ _).drew, fun _ => rfl, fun h => ?_⟩
  rw [Array.getD_eq_getD_getElem?, Array.getElem?_replicate] at h
  split at h <;> cases h
theorem mst_end {m : Nat} {w : World} (h : Mst W b n f' i0 (Array.replicate m true) w) (h0 : i0 < m) : Mod (fun q => q = b) W w ∧ Mp w b n f' := by
  refine ⟨h.mod, h.post ?_⟩
  rw [Array.getD_eq_getD_getElem?, Array.getElem?_replicate, if_pos h0]
  rfl
theorem mst_idle {i : Nat} (h : i ≠ i0) : Ev.Idle (Mst W b n f' i0) i := fun S w _ hC => ⟨hC.mod, by rw [Ev.set_other h]; exact hC.pre, by rw [Ev.set_other h]; exact hC.post⟩
theorem mst_pure {i : Nat} {v : Value} (hi : i ≠ i0) (h : ∀ w, (execOp a.eval o).run Tryd.prog w = .ok (.value v) w) : Ev.Does Tryd.prog md (Mst W b n f' i0) i o a v := Ev.does_pure (mst_idle hi) h
theorem mst_load {i : Nat} {v : Value} (hi : i ≠ i0) (p : Addr) (hc : W.cell? p = some v) (hp : p.block ≠ b) (h : ∀ w : World, w.cell? p = some v → (execOp a.eval o).run Tryd.prog w = .ok (.value v) w) :
    Ev.Does Tryd.prog md (Mst W b n f' i0) i o a v := fun S w h0 _ hC => by
  have hb := hC.mod.block p.block (World.block_lt_of_cell? _ _ hc) hp
  rw [h w (by rw [← hc]; unfold World.cell?; rw [hb])]
  exact ⟨rfl, mst_idle hi S w h0 hC⟩
theorem mst_whole {i : Nat} (hi : i ≠ i0) (g : Nat) (t : TypeId) (cs : Array Value) (hg : W.heap[g]? = some (.cells cs t (0, 0))) (hn : g ≠ b)
    (hr : ∀ w : World, w.heap[g]? = some (.cells cs t (0, 0)) → (execOp a.eval o).run Tryd.prog w = .ok (.value (.agg cs)) w) : Ev.Does Tryd.prog md (Mst W b n f' i0) i o a (.agg cs) := fun S w h0 _ hC => by
  rw [hr w (hC.mod.blk hg hn)]
  exact ⟨rfl, mst_idle hi S w h0 hC⟩
theorem mst_store (x y z : Operand) (ho : o.op = .mapUpdate 80 x y z) (hx : a.eval x = .map (some b)) (k : ByteArray) (hy : a.eval y = .string k) (e : Ent) (hz : a.eval z = .agg e.c) (hM : Mp W b n f) (hn : n < maxLen) (hk : k.size ≤ maxLen) :
    Ev.Does Tryd.prog md (Mst W b (n + 1) (upd f k (some e)) i0) i0 o a undef := fun S w h0 _ hC => by
  obtain rfl := hC.pre (Ev.get_false h0)
  obtain ⟨w', hrun, r1, r2⟩ := (show Mp W.drew b n f from hM).store hn k hk e
  have hr : (execOp a.eval o).run Tryd.prog W.drew = .ok (.value undef) w' ∨ (execOp a.eval o).run Tryd.prog W.drew = .ok .skip w' := by
    simp [execOp, ho, hx, hy, hz, hrun, Result.andThen]
  have hD : Mst W b (n + 1) (upd f k (some e)) i0 (S.setIfInBounds i0 true) w' := by
    refine ⟨hC.mod.trans r2 (fun q hq => .inl hq), fun h => ?_, fun _ => r1⟩
    rw [Ev.set_same h0] at h
    cases h
  rcases hr with hr | hr
  · rw [hr]
    exact ⟨rfl, hD⟩
  · rw [hr]
    exact ⟨rfl, hD⟩
end
end Go.Proofs.YtepklobkppdliaaDoor.Md
