/- How much a slice that came in weighs. -/
import Derived.Test.YtepklobkppdliaaDoorVSn4
import Derived.SizedLaws
import Derived.Deep.Slices
namespace Go.Proofs.YtepklobkppdliaaDoor.Hs
open Go.RowKit
theorem weigh_slice {H : Type} {enc : TypeId × Value → H} {P : Program} {w : World} {spare : Nat → Bool} {held : Bool} {t e fuel len cap base : Nat} {A : Option Addr} {d : DataW H} {pl : List MemPlace} (ht : P.underlying t = some (.slice e))
    (h : DataW.trod enc P w base spare held fuel t [.slice A len cap] = some (d, pl)) (hw : ∀ n ∈ d.weights P t, n ≤ reachBytes) : len * P.bytesOf e ≤ reachBytes := by
  rcases Deep.open_slice ht h with ⟨hcs, _⟩ | ⟨a, len', cap', m, n, D, Pl, hcs, _, hle, _, hmm, hx, _⟩
  · simp only [List.cons.injEq, and_true, Value.slice.injEq] at hcs
    obtain ⟨_, rfl, _⟩ := hcs
    omega
  · simp only [List.cons.injEq, and_true, Value.slice.injEq] at hcs
    obtain ⟨_, rfl, _⟩ := hcs
    injection hx with hx _
    subst hx
    have := hw ((len + (m - len)) * P.bytesOf e) (by simp [DataW.weights, ht])
    exact Nat.le_trans (Nat.mul_le_mul_right _ (by omega)) this
theorem bytes67 : Tryd.prog.bytesOf 67 = 40 := by kernel_rfl
end Go.Proofs.YtepklobkppdliaaDoor.Hs
