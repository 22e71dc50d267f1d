/- WhenLater answers true for every three ints: time goes on in parts as at once, never back, and ends at MaxTime. No condition. -/
import Derived.Test.YtiifekdcikcgpaaPWhenLaterx1
namespace Go.Proofs.Ytiifekdcikcgpaa.Pure
open Go.RowKit Go.Proofs.Ytiifekdcikcgpaa.PWhenLater Go.Proofs.YtiifekdcikcgpaaW.PrintWords Go.Proofs.YtiifekdcikcgpaaW.PrintLast Go.Proofs.YtiifekdcikcgpaaW.PrintMore

theorem runs : depotlaw11_WhenRuns.f = some true := by decide +kernel
theorem wf64 {a : Int} (h : (Lit.int .i64 a).wf = true) : -9223372036854775808 ≤ a ∧ a ≤ 9223372036854775807 := by
  simp [Lit.wf, IntKind.min, IntKind.max, IntKind.signed, IntKind.bits] at h
  exact h
theorem mx_eq (a b : Int) : mx a b = max a b := by unfold mx; split <;> omega
theorem mn_eq (a b : Int) : mn a b = min a b := by unfold mn; split <;> omega

theorem within (a : Int) : ∃ r, depotbook_Within.f a (-5) 549755813888 = some r ∧ -5 ≤ r ∧ r ≤ 549755813888 := by
  unfold depotbook_Within.f
  have e : wrap64 (wrap64 (549755813888 - -5) + 1) = 549755813894 := by decide +kernel
  rw [e, if_neg (by decide)]
  have hm1 := Int.tmod_lt_of_pos a (show (0:Int) < 549755813894 by decide)
  have hm2 : -549755813894 < Int.tmod a 549755813894 := by
    have := Int.tmod_lt_of_pos (-a) (show (0:Int) < 549755813894 by decide)
    rw [Int.neg_tmod] at this
    omega
  generalize Int.tmod a 549755813894 = m at *
  by_cases c : m < 0
  · rw [if_pos c]
    refine ⟨_, rfl, ?_⟩
    unfold wrap64
    omega
  · rw [if_neg c]
    refine ⟨_, rfl, ?_⟩
    unfold wrap64
    omega
def cl (n : Int) : Int := max 0 (min n 1099511627776)
theorem cl_le (n : Int) : 0 ≤ cl n ∧ cl n ≤ 1099511627776 := by unfold cl; omega
theorem wrap_sum (x y : Int) (h0 : 0 ≤ x) (h1 : x ≤ 1099511627776) (h2 : 0 ≤ y) (h3 : y ≤ 1099511627776) : wrap64 (x + y) = x + y := by unfold wrap64; omega
theorem later (n t : Int) : when_Later.f n t = some (cl (cl n + cl t)) := by
  unfold when_Later.f when_time.f
  simp only [Option.bind_some, mx_eq, mn_eq]
  have h1 : max 0 (min n 1099511627776) = cl n := rfl
  have h2 : max 0 (min t 1099511627776) = cl t := rfl
  rw [h1, h2, wrap_sum _ _ (cl_le _).1 (cl_le _).2 (cl_le _).1 (cl_le _).2]
  rfl
theorem parts (n x y : Int) : cl (cl (cl n + cl x) + cl y) = cl (cl n + cl (max x 0 + max y 0)) := by unfold cl; omega
theorem WhenLater : depotlaw11_WhenLater.Pure := by
  intro n a b _ _ _
  obtain ⟨x, hx, hx0, hx1⟩ := within a
  obtain ⟨y, hy, hy0, hy1⟩ := within b
  have e : wrap64 (mx x 0 + mx y 0) = max x 0 + max y 0 := by rw [mx_eq, mx_eq]; exact wrap_sum _ _ (by omega) (by omega) (by omega) (by omega)
  have p := parts n x y
  have q : cl (cl n + cl 4611686018427387904) = 1099511627776 := by unfold cl; omega
  have c : cl (cl (cl n + cl x)) = cl (cl n + cl x) := by unfold cl; omega
  have s : cl (cl (cl n + cl x) + cl y) ≥ cl (cl n + cl 0) := by unfold cl; omega
  unfold depotlaw11_WhenLater.f
  rw [hx, hy]
  simp only [Option.bind_some, later, runs]
  rw [e, ← p, q, c, if_pos (cl_le _).1, if_pos (cl_le _).2, if_pos s, if_pos rfl, if_pos rfl]

end Go.Proofs.Ytiifekdcikcgpaa.Pure
