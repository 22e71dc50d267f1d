/- More words for walks: make; a row's cells of one value each. No Go in it. -/
import Derived.Test.YtepklobkppdliaaDoorLib
namespace Go.Proofs.YtepklobkppdliaaDoor.Lib
open Go.RowKit Go.Proofs.YtepklobkppdliaaDoorW.PrintWords Go.Proofs.YtepklobkppdliaaDoorW.PrintLast
section
variable {P : Program} {ops : Array Oper} {rest : List Oper} {o : Oper} {a : Act} {Q : Exit → Act → World → Prop}
/-- make([]T, n, n), T of one cell. -/
theorem ev_make {W : World} (op : Op) (ho' : o.op = op) (hgd : o.guard = none) (t e : TypeId) (x y : Operand) (ho : op = .makeSlice t x y) (ht : P.underlying t = some (.slice e)) (z : Value) (bytes : Nat)
    (hinfo : (P.info? e).map (fun i => (i.zero, i.size, i.bytes)) = some (some z, 1, bytes)) (hz : z.cells = #[z]) (n : Nat) (kl kc : IntKind) (hx : a.eval x = .int kl (n : Int)) (hy : a.eval y = .int kc (n : Int)) (hb : bytes * n ≤ 281474976710656) (hn : n ≤ maxLen)
    (h : ∀ g, g = W.heap.size → ∀ w1, w1.ownsRow W.heap.size e 1 (.slice (some ⟨g, 0, none⟩) n n) n (List.replicate n z) → Below W.heap.size W w1 → wpList P ops Q rest (a.put o.dst (.slice (some ⟨g, 0, none⟩) n n)) w1) : wpList P ops Q (o :: rest) a W := by
  obtain ⟨i0, hi, hzz⟩ := Option.map_eq_some_iff.1 hinfo
  simp only [Prod.mk.injEq] at hzz
  obtain ⟨hz0, hz1, hz2⟩ := hzz
  obtain ⟨w', hr, ho2, hg⟩ := run_make_full (P := P) W W.heap.size t e i0 z 1 ht hi hz0 hz1 kl kc n (by rw [hz2]; exact hb) hn (Nat.le_refl _)
  have hrun : (execOp a.eval o).run P W = .ok (.value (.slice (some ⟨W.heap.size, 0, none⟩) n n)) w' := by
    unfold execOp
    simp only [ho', ho, hx, hy, Sem.run_bind, Sem.run_pure, Result.andThen_ok, hr]
  refine Kd.event_run hgd hrun (h _ rfl _ ?_ ⟨hg.os, hg.tape, hg.output, hg.size, fun k hk => hg.block k hk (by simp)⟩)
  rw [hz, Nat.mul_one, toList_madeCells_one] at ho2
  exact ho2
end
/-- A place of a row of one-cell elements is written. -/
theorem own_set1 {W : World} {base g n c : Nat} {e : TypeId} {xs : List Value} (h : W.ownsRow base e 1 (.slice (some ⟨g, 0, none⟩) n c) n xs) (j : Nat) (u : Value) : (W.setCell ⟨g, j, none⟩ u).ownsRow base e 1 (.slice (some ⟨g, 0, none⟩) n c) n (xs.set j u) ∧ Mod (fun k => k = g) W (W.setCell ⟨g, j, none⟩ u) :=
  ⟨(h.stored j u).1, ⟨rfl, rfl, rfl, by simp [World.setCell], fun k _ hk => Below.heap_setCell W ⟨g, j, none⟩ u k hk⟩⟩
end Go.Proofs.YtepklobkppdliaaDoor.Lib
