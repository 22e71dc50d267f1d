/- A slice of slices of numbers that came in, opened. -/
import Derived.Test.YtnfnbcbbiaheeaaMl14
namespace Go.Proofs.Ytnfnbcbbiaheeaa.Ml
open Go.RowKit Go.Proofs.YtnfnbcbbiaheeaaW.PrintWords Go.Proofs.YtnfnbcbbiaheeaaW.PrintLast Go.Proofs.YtnfnbcbbiaheeaaW.PrintMore Go.Proofs.Ytnfnbcbbiaheeaa.Lib Go.Proofs.Ytnfnbcbbiaheeaa.Open
open Go.ChangeShapes Go.WideShapes
theorem plain_addr {w : World} {a : Addr} {v : Value} (h : w.cell? (a.add 0) = some v) : ∃ b o, a = ⟨b, o, none⟩ := by
  obtain ⟨b, o, s⟩ := a
  have h1 := no_spot h
  have : (Addr.add ⟨b, o, s⟩ 0).spot = s := by unfold Addr.add; rfl
  rw [this] at h1
  subst h1
  exact ⟨b, o, rfl⟩
theorem open_rows {H : Type} {enc : TypeId × Value → H} {P : Program} {w : World} {held : Bool} {t e q : TypeId} {fuel : Nat} {A : Option Addr} {len cap : Nat} {x : DataW H × List MemPlace} (ht : P.underlying t = some (.slice e)) (he : P.underlying e = some (.slice q)) (hq : P.underlying q = some (.int .i64))
    (ce : P.cellsOf e = 1) (cq : P.cellsOf q = 1) (h : DataW.trod enc P w 0 (fun _ => true) held fuel t [.slice A len cap] = some x) : len ≤ cap ∧ ∃ rs, Rows w A len rs := by
  rcases Deep.open_int_rows ht he hq ce cq h with ⟨hcs, _⟩ | ⟨a, len', cap', Ar, L, C, Z, hcs, _, hle, hm, _, hx⟩
  · simp only [List.cons.injEq, and_true, Value.slice.injEq] at hcs
    obtain ⟨rfl, rfl, rfl⟩ := hcs
    exact ⟨Nat.le_refl _, [], rfl, by omega, fun h => absurd h (Nat.lt_irrefl 0), fun r hr => by cases hr⟩
  · simp only [List.cons.injEq, and_true, Value.slice.injEq] at hcs
    obtain ⟨rfl, rfl, rfl⟩ := hcs
    refine ⟨hle, (List.range len).map fun r => ⟨Ar r, L r, C r, (Z r).take (L r)⟩, by simp, by unfold maxLen at hm; omega, fun h0 => ?_, fun r hr => ?_⟩
    · obtain ⟨b, o, rfl⟩ := plain_addr (hx 0 (by omega)).1
      refine ⟨b, o, rfl, fun i r hi => ?_⟩
      have hil := (List.getElem?_eq_some_iff.1 hi).1
      simp only [List.length_map, List.length_range] at hil
      rw [List.getElem?_map, List.getElem?_range hil] at hi
      obtain rfl := Option.some.inj hi
      have := (hx i (by omega)).1
      rwa [Addr.add_mid] at this
    · obtain ⟨i, hi, rfl⟩ := List.mem_map.1 hr
      have hil := List.mem_range.1 hi
      obtain ⟨_, h1, h2, h3, _, h4, h5⟩ := hx i (by omega)
      refine ⟨⟨by show ((Z i).take (L i)).length = L i; rw [List.length_take]; omega, by show L i ≤ _; unfold maxLen at h2; omega, fun h0 => ?_⟩, h1⟩
      have h0' : 0 < L i := h0
      cases hA : Ar i with
      | none => have := h4 hA; omega
      | some a' =>
        have hc := (h5 a' hA).2
        obtain ⟨b, o, rfl⟩ := plain_addr (hc 0 (by omega))
        refine ⟨b, o, rfl, fun j v hv => ?_⟩
        have hv' : (((Z i).take (L i)).flatMap icl)[j]? = some v := hv
        rw [icl_flat] at hv'
        have hj := (List.getElem?_eq_some_iff.1 hv').1
        rw [List.length_map, List.length_take] at hj
        have := hc j (by omega)
        rw [Addr.add_mid] at this
        rw [this]
        rw [List.getElem?_map, List.getElem?_take_of_lt (by omega), List.getElem?_eq_getElem (by omega)] at hv'
        rw [List.getD_eq_getElem?_getD, List.getElem?_eq_getElem (by omega)]
        exact hv'
end Go.Proofs.Ytnfnbcbbiaheeaa.Ml
