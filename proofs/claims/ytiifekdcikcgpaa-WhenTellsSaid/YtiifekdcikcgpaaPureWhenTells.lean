/- WhenTells answers true for every four ints: the deadline, whether it is live, and the later time are what the document says. No condition. -/
import Derived.Test.YtiifekdcikcgpaaPWhenTellsx1
namespace Go.Proofs.Ytiifekdcikcgpaa.Pure
open Go.RowKit Go.Proofs.Ytiifekdcikcgpaa.PWhenTells Go.Proofs.YtiifekdcikcgpaaW.PrintWords Go.Proofs.YtiifekdcikcgpaaW.PrintLast Go.Proofs.YtiifekdcikcgpaaW.PrintMore

theorem runs : depotlaw11_WhenRuns.f = some true := by decide +kernel
theorem wf64 {a : Int} (h : (Lit.int .i64 a).wf = true) : -9223372036854775808 ≤ a ∧ a ≤ 9223372036854775807 := by
  simp [Lit.wf, IntKind.min, IntKind.max, IntKind.signed, IntKind.bits] at h
  exact h
theorem mx_eq (a b : Int) : mx a b = max a b := by unfold mx; split <;> omega
theorem mn_eq (a b : Int) : mn a b = min a b := by unfold mn; split <;> omega

theorem dead (e n : Int) : when_Deadline.f e n = depotref9_Deadline.f e n := by
  unfold when_Deadline.f depotref9_Deadline.f when_time.f
  simp only [Option.bind_some, mx_eq, mn_eq]
  by_cases c1 : e = 0
  · rw [if_pos c1, if_pos c1]
  · rw [if_neg c1, if_neg c1]
    by_cases c2 : e < 0
    · rw [if_pos c2, if_pos c2]
    · rw [if_neg c2, if_neg c2]
      by_cases c3 : e ≤ 2592000
      · rw [if_pos c3, if_pos c3]
        congr 2
        omega
      · rw [if_neg c3, if_neg c3]
        congr 1
        omega
theorem wrap_sum (x y : Int) (h0 : 0 ≤ x) (h1 : x ≤ 1099511627776) (h2 : 0 ≤ y) (h3 : y ≤ 1099511627776) : wrap64 (x + y) = x + y := by unfold wrap64; omega
theorem later (n t : Int) : when_Later.f n t = some (mn ((mn (mx n 0) 1099511627776) + (mn (mx t 0) 1099511627776)) 1099511627776) := by
  unfold when_Later.f when_time.f
  simp only [Option.bind_some, mx_eq, mn_eq]
  rw [wrap_sum _ _ (by omega) (by omega) (by omega) (by omega)]
  congr 1
  omega
theorem WhenTells : depotlaw11_WhenTells.Pure := by
  intro e n d t _ _ _ _
  have h2 : when_Live.f d n = depotref9_Live.f d n := rfl
  obtain ⟨r, hr⟩ : ∃ r, depotref9_Deadline.f e n = some r := by
    unfold depotref9_Deadline.f
    repeat' split
    all_goals exact ⟨_, rfl⟩
  obtain ⟨b, hb⟩ : ∃ b, depotref9_Live.f d n = some b := by
    unfold depotref9_Live.f
    repeat' split
    all_goals exact ⟨_, rfl⟩
  unfold depotlaw11_WhenTells.f
  rw [dead, hr, h2, hb, later, runs]
  simp only [Option.bind_some]
  simp

end Go.Proofs.Ytiifekdcikcgpaa.Pure
