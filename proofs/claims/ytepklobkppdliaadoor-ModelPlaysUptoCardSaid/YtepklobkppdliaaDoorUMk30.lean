/- The model: a request, an entry that came in. -/
import Derived.Test.YtepklobkppdliaaDoorUMk29
import Derived.Test.YtepklobkppdliaaDoorUAa
import Derived.SizedLaws
import Derived.WideShapes
import Derived.OpenShut
namespace Go.Proofs.YtepklobkppdliaaDoor.Md
open Go.RowKit Go.Proofs.YtepklobkppdliaaDoorW.PrintWords Go.Proofs.YtepklobkppdliaaDoorW.PrintLast Go.Proofs.YtepklobkppdliaaDoorW.PrintMore Go.Proofs.YtepklobkppdliaaDoor.Lib Go.Proofs.YtepklobkppdliaaDoor.Open Go.Proofs.YtepklobkppdliaaDoor.Open
section
variable {H : Type} {enc : TypeId × Value → H} {P : Program} {w : World} {base : Nat} {spare : Nat → Bool} {held : Bool}
theorem mapM_at {α β : Type} {f : α → Option β} : ∀ {l : List α} {xs : List β}, l.mapM f = some xs → ∀ (i : Nat) (a : α), l[i]? = some a → ∃ y, xs[i]? = some y ∧ f a = some y
  | [], xs, _, i, a, ha => by simp at ha
  | b :: l, xs, h, i, a, ha => by
    rw [List.mapM_cons] at h
    obtain ⟨y, hy, h2⟩ := Option.bind_eq_some_iff.1 h
    obtain ⟨ys, hys, h3⟩ := Option.bind_eq_some_iff.1 h2
    obtain rfl : y :: ys = xs := Option.some.inj h3
    cases i with
    | zero =>
      obtain rfl : b = a := by simpa using ha
      exact ⟨y, rfl, hy⟩
    | succ i => exact mapM_at hys i a (by simpa using ha)
/-- A struct that came in: field by field. -/
theorem struct_at {t : TypeId} {fs : Array Field} {fuel : Nat} {cs : List Value} {x : DataW H × List MemPlace} (ht : P.underlying t = some (.struct fs)) (h : DataW.trod enc P w base spare held (fuel + 1) t cs = some x) :
    cs.length = P.cellsOf t ∧ ∃ parts, x.1 = .agg parts ∧ ∀ (i : Nat) (f : Field), fs.toList[i]? = some f → ∃ y, parts[i]? = some y.1 ∧ DataW.trod enc P w base spare held fuel f.type ((cs.drop f.offset).take (P.cellsOf f.type)) = some y := by
  unfold DataW.trod at h
  rw [ht] at h
  simp only at h
  by_cases hc : cs.length = P.cellsOf t
  · rw [if_pos hc] at h
    obtain ⟨xs, h1, hx⟩ := Option.map_eq_some_iff.1 h
    refine ⟨hc, xs.map (·.1), by rw [← hx], fun i f hf => ?_⟩
    obtain ⟨y, h2, h3⟩ := mapM_at h1 i f hf
    exact ⟨y, by rw [List.getElem?_map, h2]; rfl, h3⟩
  · rw [if_neg hc] at h; cases h
end
theorem wf64 {x : Int} (h : (Lit.int .u64 x).wf = true) : 0 ≤ x := by
  have h1 : IntKind.u64.min = 0 := rfl
  simp [Lit.wf] at h
  omega
section
variable {H : Type} {enc : TypeId × Value → H} {w : World} {base : Nat} {spare : Nat → Bool} {held : Bool} {fuel : Nat} {v : Value} {y : DataW H × List MemPlace}
theorem cell_int (h : DataW.trod enc Tryd.prog w base spare held fuel 3 [v] = some y) : ∃ x, v = .int .i64 x := by
  cases fuel with
  | zero => cases h
  | succ fuel =>
    obtain ⟨b, hb, _⟩ := DataW.trod_int Tryd.underlying3 h
    exact ⟨b, by simpa using hb⟩
theorem cell_u64 (h : DataW.trod enc Tryd.prog w base spare held fuel 25 [v] = some y) : ∃ x, v = .int .u64 x ∧ 0 ≤ x := by
  cases fuel with
  | zero => cases h
  | succ fuel =>
    obtain ⟨b, hb, _, hw⟩ := DataW.trod_int Tryd.underlying25 h
    exact ⟨b, by simpa using hb, (wf64 hw)⟩
theorem cell_bool (h : DataW.trod enc Tryd.prog w base spare held fuel 4 [v] = some y) : ∃ x, v = .bool x := by
  cases fuel with
  | zero => cases h
  | succ fuel =>
    obtain ⟨b, hb, _⟩ := DataW.trod_bool Tryd.underlying4 h
    exact ⟨b, by simpa using hb⟩
theorem cell_str (h : DataW.trod enc Tryd.prog w base spare held fuel 9 [v] = some y) : ∃ x : ByteArray, v = .string x ∧ y.1 = .lit (.string x.data.toList) := by
  cases fuel with
  | zero => cases h
  | succ fuel =>
    obtain ⟨b, hb, he, _⟩ := DataW.trod_string Tryd.underlying9 h
    exact ⟨b, by simpa using hb, by rw [he]⟩
end
section
variable {H : Type} {enc : TypeId × Value → H} {W : World} {base : Nat} {spare : Nat → Bool} {held : Bool} {v : Value} {d : DataW H} {p : List MemPlace}
end
end Go.Proofs.YtepklobkppdliaaDoor.Md
