/- A row of frames that is cut at its head and appended to. -/
import Derived.Test.YtnfnbcbbiaheeaaMl8
import Derived.ArgAppend
namespace Go.Proofs.Ytnfnbcbbiaheeaa.Ml
open Go.RowKit Go.Proofs.YtnfnbcbbiaheeaaW.PrintWords Go.Proofs.YtnfnbcbbiaheeaaW.PrintLast Go.Proofs.Ytnfnbcbbiaheeaa.Lib Go.Proofs.Ytnfnbcbbiaheeaa.Open
theorem cls_length (fs : List Fr) : (cls fs).length = fs.length * 9 := flat_length cl 9 cl_length fs
/-- Frames from cell off on of a block of the call's own; room behind them. -/
structure Cut (B : Nat) (W : World) (g off cap : Nat) (fs : List Fr) : Prop where
  ge : B ≤ g
  at_ : ∃ cur, W.heap[g]? = some (.cells cur 44 (0, 0)) ∧ off + cap * 9 ≤ cur.size ∧ ∀ (j : Nat) (u : Value), (cls fs)[j]? = some u → cur[off + j]? = some u
  le : fs.length ≤ cap
/-- A slice of such frames, or nil. -/
def Cuts (B : Nat) (W : World) (v : Value) (fs : List Fr) : Prop := (v = .slice none 0 0 ∧ fs = []) ∨ ∃ g off cap, v = .slice (some ⟨g, off, none⟩) fs.length cap ∧ Cut B W g off cap fs
section
variable {B : Nat} {W W1 : World} {g off cap : Nat} {fs : List Fr} {v : Value}
theorem Cut.far (h : Cut B W g off cap fs) (hb : Below W.heap.size W W1) : Cut B W1 g off cap fs := by
  obtain ⟨cur, h1, h2⟩ := h.at_
  exact ⟨h.ge, ⟨cur, (hb.block _ (blk_lt h1)).trans h1, h2⟩, h.le⟩
theorem Cut.mod {S : Nat → Prop} (h : Cut B W g off cap fs) (hm : Mod S W W1) (hg : ¬ S g) : Cut B W1 g off cap fs := by
  obtain ⟨cur, h1, h2⟩ := h.at_
  exact ⟨h.ge, ⟨cur, hm.blk h1 hg, h2⟩, h.le⟩
theorem Cut.cell (h : Cut B W g off cap fs) {j : Nat} {u : Value} (hu : (cls fs)[j]? = some u) : W.cell? ⟨g, off + j, none⟩ = some u := by
  obtain ⟨cur, h1, _, h3⟩ := h.at_
  rw [blk_cell h1]
  exact h3 j u hu
/-- The head is cut off. -/
theorem Cut.tail {x : Fr} (h : Cut B W g off cap (x :: fs)) : Cut B W g (off + 9) (cap - 1) fs := by
  obtain ⟨cur, h1, h2, h3⟩ := h.at_
  have hl := h.le
  rw [List.length_cons] at hl
  refine ⟨h.ge, ⟨cur, h1, by omega, fun j u hu => ?_⟩, by omega⟩
  rw [Nat.add_assoc]
  refine h3 (9 + j) u ?_
  show (cl x ++ cls fs)[9 + j]? = some u
  rw [List.getElem?_append_right (by rw [cl_length]; omega), cl_length, show 9 + j - 9 = j by omega]
  exact hu
theorem Cuts.of_own (h : W.ownsRow B 44 9 v fs.length (cls fs)) : Cuts B W v fs := by
  rcases h.2 with ⟨e, hn⟩ | ⟨g, cap, cur, e, hg, hh, hle, _, hsz, ht⟩
  · exact .inl ⟨e, List.length_eq_zero_iff.1 hn⟩
  · refine .inr ⟨g, 0, cap, e, hg, ⟨cur, hh, by omega, fun j u hu => ?_⟩, hle⟩
    rw [← ht] at hu
    rw [Nat.zero_add]
    have hj := (List.getElem?_eq_some_iff.1 hu).1
    rw [List.length_take] at hj
    rw [List.getElem?_take_of_lt (by omega), Array.getElem?_toList] at hu
    exact hu
end
section
variable {P : Program} {ops : Array Oper} {rest : List Oper} {o : Oper} {a : Act} {Q : Exit → Act → World → Prop}
/-- append(v, y) onto such frames. -/
theorem ev_append_cut {W : World} {B : Nat} (s x : Operand) (ho' : o.op = .call { callee := .builtin .append, args := #[s, x], argTypes := #[48, 48] }) (hgd : o.guard = none)
    (v : Value) (fs : List Fr) (y : Fr) (hs : a.eval s = v) (hc : Cuts B W v fs) (g1 : Nat) (hx : a.eval x = .slice (some ⟨g1, 0, none⟩) 1 1) (hg1 : W.heap[g1]? = some (.cells (cl y).toArray 44 (0, 0))) (hl : fs.length ≤ 1000) (hB : B ≤ W.heap.size)
    (h : ∀ v' w', Cuts B w' v' (fs ++ [y]) → Mod (fun k => some k = v.ownBlock) W w' → wpList Try.prog ops Q rest (a.put o.dst v') w') :
    wpList Try.prog ops Q (o :: rest) a W := by
  have hnews : ∀ j u, (cl y)[j]? = some u → W.cell? ((⟨g1, 0, none⟩ : Addr).add j) = some u := fun j u hu => by rw [add_plain, blk_cell hg1, List.getElem?_toArray]; exact hu
  rcases hc with ⟨rfl, rfl⟩ | ⟨g, off, cap, rfl, hcut⟩
  · refine ev_append s x 48 44 ho' hgd B _ 9 88 Try.underlying48 info44 rfl (by decide) _ 0 [] hs (own_nil _ _ _ _) ⟨g1, 0, none⟩ 1 1 (cl y) hx rfl hnews (cl_one y) (by decide) (by decide) hB ?_
    intro v' w' h1 h2 _ _
    exact h v' w' (Cuts.of_own (by simpa [cls] using h1)) h2
  · obtain ⟨i0, hi, hzz⟩ := Option.map_eq_some_iff.1 info44
    simp only [Prod.mk.injEq] at hzz
    obtain ⟨hz0, hz1, hz2⟩ := hzz
    obtain ⟨cur, hg, hsz, hat⟩ := hcut.at_
    by_cases hroom : fs.length + 1 ≤ cap
    · have hsz9 : off + fs.length * 9 + 9 ≤ cur.size := by omega
      have hr := run_append_room_cells (P := Try.prog) (w := W) 48 o.type 44 i0 Try.underlying48 hi g off fs.length cap ⟨g1, 0, none⟩ 1 1 (cl y) (by rw [hz1]; rfl) hnews (cl_one y) hroom (fun j hj => by rw [hz1, blk_cell hg, Array.getElem?_eq_getElem (by rw [cl_length] at hj; omega)]; rfl) (fun j _ => blk_frozen hg _)
      rw [hz1] at hr
      have hrun : (execOp a.eval o).run Try.prog W = .ok (.value (.slice (some ⟨g, off, none⟩) (fs.length + 1) cap)) (W.setCells g (off + fs.length * 9) (cl y)) := by
        unfold execOp
        simp only [ho', resolve, invoke, builtin, Sem.run_bind, Sem.run_pure, Result.andThen_ok, List.map_toArray, List.map_cons, List.map_nil, hs, hx, hr]
      obtain ⟨h2, h3, h4, h5⟩ := setCells_same g (cl y) (off + fs.length * 9) W
      obtain ⟨cur', h6, h7, h8⟩ := setCells_row (cl y) (off + fs.length * 9) W cur hg (by rw [cl_length]; exact hsz9)
      refine Kd.event_run hgd hrun (h _ _ (.inr ⟨g, off, cap, by rw [List.length_append, List.length_singleton], hcut.ge, ⟨cur', h6, by rw [h7]; exact hsz, fun j u hu => ?_⟩, by rw [List.length_append, List.length_singleton]; exact hroom⟩) ⟨h2, h3, h4, Nat.le_of_eq h5.symm, fun k _ hk => setCells_far _ _ k (fun e => hk (by rw [e]; rfl))⟩)
      rw [cls_append, cls_single] at hu
      have hcl := cls_length fs
      have hcs : cur.toList.length = cur.size := Array.length_toList
      have hcy := cl_length y
      rw [← Array.getElem?_toList, h8, List.append_assoc]
      by_cases hj : j < fs.length * 9
      · rw [List.getElem?_append_left (by omega)] at hu
        have := hat j u hu
        rw [List.getElem?_append_left (by rw [List.length_take]; omega), List.getElem?_take_of_lt (by omega), Array.getElem?_toList]
        exact this
      · rw [List.getElem?_append_right (by omega)] at hu
        have hju : j - (cls fs).length < (cl y).length := (List.getElem?_eq_some_iff.1 hu).1
        have htl : (cur.toList.take (off + fs.length * 9)).length = off + fs.length * 9 := by rw [List.length_take]; omega
        rw [List.getElem?_append_right (by omega), htl, List.getElem?_append_left (by omega), show off + j - (off + fs.length * 9) = j - (cls fs).length by omega]
        exact hu
    · obtain ⟨v', w', hr, hown, hgr⟩ := run_append_arg_grows (P := Try.prog) (w := W) 48 o.type 44 i0 _ 9 88 Try.underlying48 hi hz0 hz1 hz2 rfl (by decide) ⟨g, off, none⟩ fs.length cap (cls fs) (cls_length fs) (fun j u hu => by rw [Addr.add_mid]; exact hcut.cell hu) ⟨g1, 0, none⟩ 1 1 (cl y) rfl hnews (by omega) (by unfold maxLen; omega) (by omega)
      have hrun : (execOp a.eval o).run Try.prog W = .ok (.value v') w' := by
        unfold execOp
        simp only [ho', resolve, invoke, builtin, Sem.run_bind, Sem.run_pure, Result.andThen_ok, List.map_toArray, List.map_cons, List.map_nil, hs, hx, hr]
      have hown' : w'.ownsRow B 44 9 v' (fs ++ [y]).length (cls (fs ++ [y])) := by
        rw [List.length_append, List.length_singleton, cls_append, cls_single]
        exact own_weaken hown hB
      exact Kd.event_run hgd hrun (h _ _ (Cuts.of_own hown') ((Mod.of_grown hgr).mono (fun k hk => by cases hk)))
end
end Go.Proofs.Ytnfnbcbbiaheeaa.Ml
