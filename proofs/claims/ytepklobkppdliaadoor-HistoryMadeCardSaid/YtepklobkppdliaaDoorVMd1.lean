/- The model: what a request and an entry are; until when a value lives. -/
import Derived.Test.YtepklobkppdliaaDoorVLib2
import Derived.Test.YtepklobkppdliaaDoorVOpen
import Derived.Test.YtepklobkppdliaaDoorVEv
import Derived.Test.YtepklobkppdliaaDoorVPr
import Derived.BigQuiet
import Derived.WalkMore
import Derived.Laws.Cover3
namespace Go.Proofs.YtepklobkppdliaaDoor.Md
open Go.RowKit Go.Proofs.YtepklobkppdliaaDoorW.PrintWords Go.Proofs.YtepklobkppdliaaDoorW.PrintLast Go.Proofs.YtepklobkppdliaaDoorW.PrintMore Go.Proofs.YtepklobkppdliaaDoor.Lib Go.Proofs.YtepklobkppdliaaDoor.Open
/-- Time brought into its limits. -/
def tm (n : Int) : Int := if n < 0 then 0 else if 1099511627776 < n then 1099511627776 else n
theorem tm_bd (n : Int) : 0 ≤ tm n ∧ tm n ≤ 1099511627776 := by
  unfold tm
  split
  · omega
  · split <;> omega
/-- Until when. -/
def dead (exp now : Int) : Int := if exp = 0 then 0 else if exp < 0 then -1 else if exp ≤ 2592000 then exp + tm now else tm exp
theorem time_calls (n : Int) (w : World) : Calls Tryd.prog 53 #[.int .i64 n] w fun e w' => e = .returned (.int .i64 (tm n)) ∧ w = w' := by
  unfold tm
  by_cases h1 : n < 0
  · have h2 : ¬ 1099511627776 < n := by omega
    have h3 : ¬ 0 < n := by omega
    rw [if_pos h1]
    go_enter Tryd.func53, Tryd.ntmps53
    go_wp2
    go_ret
    exact ⟨rfl, rfl⟩
  · rw [if_neg h1]
    by_cases h2 : 1099511627776 < n
    · rw [if_pos h2]
      go_enter Tryd.func53, Tryd.ntmps53
      go_wp2
      go_ret
      exact ⟨rfl, rfl⟩
    · rw [if_neg h2]
      by_cases h3 : 0 < n
      · go_enter Tryd.func53, Tryd.ntmps53
        go_wp2
        go_ret
        exact ⟨rfl, rfl⟩
      · obtain rfl : n = 0 := by omega
        go_enter Tryd.func53, Tryd.ntmps53
        go_wp2
        go_ret
        exact ⟨rfl, rfl⟩
theorem dead_calls (exp now : Int) (w : World) : Calls Tryd.prog 36 #[.int .i64 exp, .int .i64 now] w fun e w' => e = .returned (.int .i64 (dead exp now)) ∧ w = w' := by
  unfold dead
  by_cases h1 : exp = 0
  · subst h1
    rw [if_pos rfl]
    go_enter Tryd.func36, Tryd.ntmps36
    go_wp2
    go_ret
    exact ⟨rfl, rfl⟩
  · rw [if_neg h1]
    have e1 : (exp == 0) = false := beq_eq_false_iff_ne.2 h1
    by_cases h2 : exp < 0
    · rw [if_pos h2]
      clear h1
      go_enter Tryd.func36, Tryd.ntmps36
      go_wp2
      go_ret
      exact ⟨rfl, rfl⟩
    · rw [if_neg h2]
      have h0 : 0 ≤ exp := by omega
      by_cases h3 : exp ≤ 2592000
      · rw [if_pos h3]
        obtain ⟨t, ht⟩ : ∃ t, t = tm now := ⟨_, rfl⟩
        have hb := tm_bd now
        rw [← ht] at hb ⊢
        obtain ⟨hb1, hb2⟩ := hb
        have HT := Aside0.mk ht
        clear ht h1
        go_enter Tryd.func36, Tryd.ntmps36
        go_wp2_with (go_at_call 53; refine (time_calls _ _).mono ?_; rintro e w' ⟨rfl, rfl⟩; rw [← HT.out])
        go_ret
        exact ⟨rfl, rfl⟩
      · rw [if_neg h3]
        clear h1
        go_enter Tryd.func36, Tryd.ntmps36
        go_wp2_with (go_at_call 53; refine (time_calls _ _).mono ?_; rintro e w' ⟨rfl, rfl⟩)
        go_ret
        exact ⟨rfl, rfl⟩
end Go.Proofs.YtepklobkppdliaaDoor.Md
