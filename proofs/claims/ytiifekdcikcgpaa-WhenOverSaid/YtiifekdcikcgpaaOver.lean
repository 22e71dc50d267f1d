/- WhenOver answers true for every four ints: what was set to live so long lives just so long, and never again. No condition. -/
import Derived.Test.YtiifekdcikcgpaaPWhenLaterx1
namespace Go.Proofs.Ytiifekdcikcgpaa.Over
open Go.RowKit Go.Proofs.Ytiifekdcikcgpaa.PWhenLater Go.Proofs.YtiifekdcikcgpaaW.PrintWords Go.Proofs.YtiifekdcikcgpaaW.PrintLast Go.Proofs.YtiifekdcikcgpaaW.PrintMore
attribute [local go_sem] max2_int min2_int max_two min_two
theorem runs : depotlaw11_WhenRuns.f = some true := by decide +kernel
theorem mx_eq (a b : Int) : mx a b = max a b := by unfold mx; split <;> omega
theorem mn_eq (a b : Int) : mn a b = min a b := by unfold mn; split <;> omega
theorem within (a lo hi n : Int) (h0 : 0 < n) (hn : n ≤ 1099511627776) (hl : -1099511627776 ≤ lo) (hl' : lo ≤ 1099511627776) (e : hi - lo + 1 = n) : ∃ r, depotbook_Within.f a lo hi = some r ∧ lo ≤ r ∧ r ≤ hi := by
  unfold depotbook_Within.f
  have e : wrap64 (wrap64 (hi - lo) + 1) = n := by unfold wrap64; omega
  rw [e, if_neg (by omega)]
  have hm1 := Int.tmod_lt_of_pos a h0
  have hm2 : -n < Int.tmod a n := by
    have := Int.tmod_lt_of_pos (-a) h0
    rw [Int.neg_tmod] at this
    omega
  generalize Int.tmod a n = m at *
  by_cases c : m < 0
  · rw [if_pos c]
    refine ⟨_, rfl, ?_⟩
    unfold wrap64
    omega
  · rw [if_neg c]
    refine ⟨_, rfl, ?_⟩
    unfold wrap64
    omega
theorem live (d n : Int) : when_Live.f d n = some (decide (d = 0 ∨ 0 < d ∧ n < d)) := by
  unfold when_Live.f
  by_cases c : d = 0
  · rw [if_pos c]; simp [c]
  · rw [if_neg c]
    by_cases c2 : d > 0
    · rw [if_pos c2]; simp [c, c2]
    · rw [if_neg c2]; simp [c, c2]
theorem dead (e n : Int) (h1 : e ≤ 2592000) (hn : 1 ≤ n) (hn1 : n ≤ 1073741824) : when_Deadline.f e n = some (if e = 0 then 0 else if e < 0 then -1 else e + n) := by
  unfold when_Deadline.f when_time.f
  simp only [Option.bind_some]
  have e1 : mx 0 (mn n 1099511627776) = n := by rw [mx_eq, mn_eq]; omega
  by_cases c1 : e = 0
  · rw [if_pos c1, if_pos c1]
  · rw [if_neg c1, if_neg c1]
    by_cases c2 : e < 0
    · rw [if_pos c2, if_pos c2]
    · rw [if_neg c2, if_neg c2, if_pos h1, e1]
      congr 1
      unfold wrap64
      omega
/-- Within, at any two bounds that are near. -/
theorem within_calls (a lo hi n : Int) (w : World) (h0 : 0 < n) (hn : n ≤ 1099511627776) (hl : -1099511627776 ≤ lo) (hl' : lo ≤ 1099511627776) (e : hi - lo + 1 = n) :
    Calls Try.prog 16 #[.int .i64 a, .int .i64 lo, .int .i64 hi] w fun e w' => ∃ r : Int, e = .returned (.int .i64 r) ∧ lo ≤ r ∧ r ≤ hi ∧ Below w.heap.size w w' := by
  obtain ⟨r, h, h1, h2⟩ := within a lo hi n h0 hn hl hl' e
  exact (depotbook_Within.calls a lo hi r w h).mono fun e w' ⟨h3, h4⟩ => ⟨r, h3, h1, h2, h4.below⟩
set_option maxHeartbeats 1000000 in
theorem walk0z (a0 a1 a2 a3 n e x y : Int) (w : World) (hn0 : 1 ≤ n) (hn1 : n ≤ 1073741824) (he1 : e ≤ 2592000) (hx0 : 0 ≤ x) (hx1 : x ≤ 4194304) (hy0 : 0 ≤ y) (hy1 : y ≤ 4194304) (B1 : Aside0 (depotbook_Within.f a1 1 1073741824 = some n)) (B2 : Aside0 (depotbook_Within.f a0 (-9) 2592000 = some e)) (B3 : Aside0 (depotbook_Within.f a2 0 4194304 = some x)) (B4 : Aside0 (depotbook_Within.f a3 0 4194304 = some y)) (ho : x < y) (hc : e = 0) :
    Calls Try.prog 5 #[.int .i64 a0, .int .i64 a1, .int .i64 a2, .int .i64 a3] w fun e w' => e = .returned (.bool true) ∧ Below w.heap.size w w' := by
  have B5 : Aside0 (when_Deadline.f e n = some 0) := ⟨by
    rw [dead e n he1 hn0 hn1]
    first | (rw [if_pos (by omega)]; done) | (rw [if_neg (by omega), if_pos (by omega)]; done) | (rw [if_neg (by omega), if_neg (by omega)]; done)⟩
  have B6 : Aside0 (when_Live.f 0 (n + x) = some true) := ⟨by
    rw [live, Option.some_inj]
    rw [decide_eq_true_eq]
    omega⟩
  have B7 : Aside0 (when_Live.f 0 (n + y) = some true) := ⟨by
    rw [live, Option.some_inj]
    rw [decide_eq_true_eq]
    omega⟩
  have B8 := Aside0.mk runs
  have he : (e == 0) = true := beq_iff_eq.2 hc
  have he2 : Aside0 (e = 0) := ⟨hc⟩
  clear hc
  have HB := Aside0.mk (Below.refl w.heap.size w)
  go_enter Try.func5, Try.ntmps5
  go_wp2_with (first | (go_at_call 16; with_reducible refine (depotbook_Within.calls a1 1 1073741824 n _ B1.out).mono ?_; rintro e1 w1 ⟨rfl, hb⟩; have HB1 := Aside0.mk (below_step HB.out hb.below); clear hb HB; have HB := HB1; clear HB1) | (go_at_call 16; with_reducible refine (depotbook_Within.calls a0 (-9) 2592000 e _ B2.out).mono ?_; rintro e1 w1 ⟨rfl, hb⟩; have HB1 := Aside0.mk (below_step HB.out hb.below); clear hb HB; have HB := HB1; clear HB1) | (go_at_call 16; with_reducible refine (depotbook_Within.calls a2 0 4194304 x _ B3.out).mono ?_; rintro e1 w1 ⟨rfl, hb⟩; have HB1 := Aside0.mk (below_step HB.out hb.below); clear hb HB; have HB := HB1; clear HB1) | (go_at_call 16; with_reducible refine (depotbook_Within.calls a3 0 4194304 y _ B4.out).mono ?_; rintro e1 w1 ⟨rfl, hb⟩; have HB1 := Aside0.mk (below_step HB.out hb.below); clear hb HB; have HB := HB1; clear HB1) | (go_at_call 11; with_reducible refine (when_Deadline.calls e n _ _ B5.out).mono ?_; rintro e1 w1 ⟨rfl, hb⟩; have HB1 := Aside0.mk (below_step HB.out hb); clear hb HB; have HB := HB1; clear HB1) | (go_at_call 12; with_reducible refine (when_Live.calls 0 (n + x) true _ B6.out).mono ?_; rintro e1 w1 ⟨rfl, hb⟩; have HB1 := Aside0.mk (below_step HB.out hb.below); clear hb HB; have HB := HB1; clear HB1) | (go_at_call 12; with_reducible refine (when_Live.calls 0 (n + y) true _ B7.out).mono ?_; rintro e1 w1 ⟨rfl, hb⟩; have HB1 := Aside0.mk (below_step HB.out hb.below); clear hb HB; have HB := HB1; clear HB1) | (go_at_call 3; with_reducible refine (depotlaw11_WhenRuns.calls true _ B8.out).mono ?_; rintro e1 w1 ⟨rfl, hb⟩; have HB1 := Aside0.mk (below_step HB.out hb); clear hb HB; have HB := HB1; clear HB1))
  go_ret
  exact ⟨rfl, HB.out⟩
set_option maxHeartbeats 1000000 in
theorem walk0n (a0 a1 a2 a3 n e x y : Int) (w : World) (hn0 : 1 ≤ n) (hn1 : n ≤ 1073741824) (he1 : e ≤ 2592000) (hx0 : 0 ≤ x) (hx1 : x ≤ 4194304) (hy0 : 0 ≤ y) (hy1 : y ≤ 4194304) (B1 : Aside0 (depotbook_Within.f a1 1 1073741824 = some n)) (B2 : Aside0 (depotbook_Within.f a0 (-9) 2592000 = some e)) (B3 : Aside0 (depotbook_Within.f a2 0 4194304 = some x)) (B4 : Aside0 (depotbook_Within.f a3 0 4194304 = some y)) (ho : x < y) (hc : e < 0) :
    Calls Try.prog 5 #[.int .i64 a0, .int .i64 a1, .int .i64 a2, .int .i64 a3] w fun e w' => e = .returned (.bool true) ∧ Below w.heap.size w w' := by
  have B5 : Aside0 (when_Deadline.f e n = some (-1)) := ⟨by
    rw [dead e n he1 hn0 hn1]
    first | (rw [if_pos (by omega)]; done) | (rw [if_neg (by omega), if_pos (by omega)]; done) | (rw [if_neg (by omega), if_neg (by omega)]; done)⟩
  have B6 : Aside0 (when_Live.f (-1) (n + x) = some false) := ⟨by
    rw [live, Option.some_inj]
    rw [decide_eq_false_iff_not]
    omega⟩
  have B7 : Aside0 (when_Live.f (-1) (n + y) = some false) := ⟨by
    rw [live, Option.some_inj]
    rw [decide_eq_false_iff_not]
    omega⟩
  have B8 := Aside0.mk runs
  have he : (e == 0) = false := beq_eq_false_iff_ne.2 (by omega)
  have he3 : decide (0 < e) = false := decide_eq_false (by omega)
  have HB := Aside0.mk (Below.refl w.heap.size w)
  go_enter Try.func5, Try.ntmps5
  go_wp2_with (first | (go_at_call 16; with_reducible refine (depotbook_Within.calls a1 1 1073741824 n _ B1.out).mono ?_; rintro e1 w1 ⟨rfl, hb⟩; have HB1 := Aside0.mk (below_step HB.out hb.below); clear hb HB; have HB := HB1; clear HB1) | (go_at_call 16; with_reducible refine (depotbook_Within.calls a0 (-9) 2592000 e _ B2.out).mono ?_; rintro e1 w1 ⟨rfl, hb⟩; have HB1 := Aside0.mk (below_step HB.out hb.below); clear hb HB; have HB := HB1; clear HB1) | (go_at_call 16; with_reducible refine (depotbook_Within.calls a2 0 4194304 x _ B3.out).mono ?_; rintro e1 w1 ⟨rfl, hb⟩; have HB1 := Aside0.mk (below_step HB.out hb.below); clear hb HB; have HB := HB1; clear HB1) | (go_at_call 16; with_reducible refine (depotbook_Within.calls a3 0 4194304 y _ B4.out).mono ?_; rintro e1 w1 ⟨rfl, hb⟩; have HB1 := Aside0.mk (below_step HB.out hb.below); clear hb HB; have HB := HB1; clear HB1) | (go_at_call 11; with_reducible refine (when_Deadline.calls e n _ _ B5.out).mono ?_; rintro e1 w1 ⟨rfl, hb⟩; have HB1 := Aside0.mk (below_step HB.out hb); clear hb HB; have HB := HB1; clear HB1) | (go_at_call 12; with_reducible refine (when_Live.calls (-1) (n + x) false _ B6.out).mono ?_; rintro e1 w1 ⟨rfl, hb⟩; have HB1 := Aside0.mk (below_step HB.out hb.below); clear hb HB; have HB := HB1; clear HB1) | (go_at_call 12; with_reducible refine (when_Live.calls (-1) (n + y) false _ B7.out).mono ?_; rintro e1 w1 ⟨rfl, hb⟩; have HB1 := Aside0.mk (below_step HB.out hb.below); clear hb HB; have HB := HB1; clear HB1) | (go_at_call 3; with_reducible refine (depotlaw11_WhenRuns.calls true _ B8.out).mono ?_; rintro e1 w1 ⟨rfl, hb⟩; have HB1 := Aside0.mk (below_step HB.out hb); clear hb HB; have HB := HB1; clear HB1))
  go_ret
  exact ⟨rfl, HB.out⟩
set_option maxHeartbeats 1000000 in
theorem walk0tt (a0 a1 a2 a3 n e x y : Int) (w : World) (hn0 : 1 ≤ n) (hn1 : n ≤ 1073741824) (he1 : e ≤ 2592000) (hx0 : 0 ≤ x) (hx1 : x ≤ 4194304) (hy0 : 0 ≤ y) (hy1 : y ≤ 4194304) (B1 : Aside0 (depotbook_Within.f a1 1 1073741824 = some n)) (B2 : Aside0 (depotbook_Within.f a0 (-9) 2592000 = some e)) (B3 : Aside0 (depotbook_Within.f a2 0 4194304 = some x)) (B4 : Aside0 (depotbook_Within.f a3 0 4194304 = some y)) (ho : x < y) (hc : 0 < e ∧ x < e ∧ y < e) :
    Calls Try.prog 5 #[.int .i64 a0, .int .i64 a1, .int .i64 a2, .int .i64 a3] w fun e w' => e = .returned (.bool true) ∧ Below w.heap.size w w' := by
  have B5 : Aside0 (when_Deadline.f e n = some (e + n)) := ⟨by
    rw [dead e n he1 hn0 hn1]
    first | (rw [if_pos (by omega)]; done) | (rw [if_neg (by omega), if_pos (by omega)]; done) | (rw [if_neg (by omega), if_neg (by omega)]; done)⟩
  have B6 : Aside0 (when_Live.f (e + n) (n + x) = some true) := ⟨by
    rw [live, Option.some_inj]
    rw [decide_eq_true_eq]
    omega⟩
  have B7 : Aside0 (when_Live.f (e + n) (n + y) = some true) := ⟨by
    rw [live, Option.some_inj]
    rw [decide_eq_true_eq]
    omega⟩
  have B8 := Aside0.mk runs
  have he : (e == 0) = false := beq_eq_false_iff_ne.2 (by omega)
  have he3 : decide (0 < e) = true := decide_eq_true (by omega)
  have he4 : decide (x < e) = true := by rw [decide_eq_true_eq]; omega
  clear hc
  have HB := Aside0.mk (Below.refl w.heap.size w)
  go_enter Try.func5, Try.ntmps5
  go_wp2_with (first | (go_at_call 16; with_reducible refine (depotbook_Within.calls a1 1 1073741824 n _ B1.out).mono ?_; rintro e1 w1 ⟨rfl, hb⟩; have HB1 := Aside0.mk (below_step HB.out hb.below); clear hb HB; have HB := HB1; clear HB1) | (go_at_call 16; with_reducible refine (depotbook_Within.calls a0 (-9) 2592000 e _ B2.out).mono ?_; rintro e1 w1 ⟨rfl, hb⟩; have HB1 := Aside0.mk (below_step HB.out hb.below); clear hb HB; have HB := HB1; clear HB1) | (go_at_call 16; with_reducible refine (depotbook_Within.calls a2 0 4194304 x _ B3.out).mono ?_; rintro e1 w1 ⟨rfl, hb⟩; have HB1 := Aside0.mk (below_step HB.out hb.below); clear hb HB; have HB := HB1; clear HB1) | (go_at_call 16; with_reducible refine (depotbook_Within.calls a3 0 4194304 y _ B4.out).mono ?_; rintro e1 w1 ⟨rfl, hb⟩; have HB1 := Aside0.mk (below_step HB.out hb.below); clear hb HB; have HB := HB1; clear HB1) | (go_at_call 11; with_reducible refine (when_Deadline.calls e n _ _ B5.out).mono ?_; rintro e1 w1 ⟨rfl, hb⟩; have HB1 := Aside0.mk (below_step HB.out hb); clear hb HB; have HB := HB1; clear HB1) | (go_at_call 12; with_reducible refine (when_Live.calls (e + n) (n + x) true _ B6.out).mono ?_; rintro e1 w1 ⟨rfl, hb⟩; have HB1 := Aside0.mk (below_step HB.out hb.below); clear hb HB; have HB := HB1; clear HB1) | (go_at_call 12; with_reducible refine (when_Live.calls (e + n) (n + y) true _ B7.out).mono ?_; rintro e1 w1 ⟨rfl, hb⟩; have HB1 := Aside0.mk (below_step HB.out hb.below); clear hb HB; have HB := HB1; clear HB1) | (go_at_call 3; with_reducible refine (depotlaw11_WhenRuns.calls true _ B8.out).mono ?_; rintro e1 w1 ⟨rfl, hb⟩; have HB1 := Aside0.mk (below_step HB.out hb); clear hb HB; have HB := HB1; clear HB1))
  go_ret
  exact ⟨rfl, HB.out⟩
set_option maxHeartbeats 1000000 in
theorem walk0tf (a0 a1 a2 a3 n e x y : Int) (w : World) (hn0 : 1 ≤ n) (hn1 : n ≤ 1073741824) (he1 : e ≤ 2592000) (hx0 : 0 ≤ x) (hx1 : x ≤ 4194304) (hy0 : 0 ≤ y) (hy1 : y ≤ 4194304) (B1 : Aside0 (depotbook_Within.f a1 1 1073741824 = some n)) (B2 : Aside0 (depotbook_Within.f a0 (-9) 2592000 = some e)) (B3 : Aside0 (depotbook_Within.f a2 0 4194304 = some x)) (B4 : Aside0 (depotbook_Within.f a3 0 4194304 = some y)) (ho : x < y) (hc : 0 < e ∧ x < e ∧ ¬ y < e) :
    Calls Try.prog 5 #[.int .i64 a0, .int .i64 a1, .int .i64 a2, .int .i64 a3] w fun e w' => e = .returned (.bool true) ∧ Below w.heap.size w w' := by
  have B5 : Aside0 (when_Deadline.f e n = some (e + n)) := ⟨by
    rw [dead e n he1 hn0 hn1]
    first | (rw [if_pos (by omega)]; done) | (rw [if_neg (by omega), if_pos (by omega)]; done) | (rw [if_neg (by omega), if_neg (by omega)]; done)⟩
  have B6 : Aside0 (when_Live.f (e + n) (n + x) = some true) := ⟨by
    rw [live, Option.some_inj]
    rw [decide_eq_true_eq]
    omega⟩
  have B7 : Aside0 (when_Live.f (e + n) (n + y) = some false) := ⟨by
    rw [live, Option.some_inj]
    rw [decide_eq_false_iff_not]
    omega⟩
  have B8 := Aside0.mk runs
  have he : (e == 0) = false := beq_eq_false_iff_ne.2 (by omega)
  have he3 : decide (0 < e) = true := decide_eq_true (by omega)
  have he4 : decide (x < e) = true := by rw [decide_eq_true_eq]; omega
  clear hc
  have HB := Aside0.mk (Below.refl w.heap.size w)
  go_enter Try.func5, Try.ntmps5
  go_wp2_with (first | (go_at_call 16; with_reducible refine (depotbook_Within.calls a1 1 1073741824 n _ B1.out).mono ?_; rintro e1 w1 ⟨rfl, hb⟩; have HB1 := Aside0.mk (below_step HB.out hb.below); clear hb HB; have HB := HB1; clear HB1) | (go_at_call 16; with_reducible refine (depotbook_Within.calls a0 (-9) 2592000 e _ B2.out).mono ?_; rintro e1 w1 ⟨rfl, hb⟩; have HB1 := Aside0.mk (below_step HB.out hb.below); clear hb HB; have HB := HB1; clear HB1) | (go_at_call 16; with_reducible refine (depotbook_Within.calls a2 0 4194304 x _ B3.out).mono ?_; rintro e1 w1 ⟨rfl, hb⟩; have HB1 := Aside0.mk (below_step HB.out hb.below); clear hb HB; have HB := HB1; clear HB1) | (go_at_call 16; with_reducible refine (depotbook_Within.calls a3 0 4194304 y _ B4.out).mono ?_; rintro e1 w1 ⟨rfl, hb⟩; have HB1 := Aside0.mk (below_step HB.out hb.below); clear hb HB; have HB := HB1; clear HB1) | (go_at_call 11; with_reducible refine (when_Deadline.calls e n _ _ B5.out).mono ?_; rintro e1 w1 ⟨rfl, hb⟩; have HB1 := Aside0.mk (below_step HB.out hb); clear hb HB; have HB := HB1; clear HB1) | (go_at_call 12; with_reducible refine (when_Live.calls (e + n) (n + x) true _ B6.out).mono ?_; rintro e1 w1 ⟨rfl, hb⟩; have HB1 := Aside0.mk (below_step HB.out hb.below); clear hb HB; have HB := HB1; clear HB1) | (go_at_call 12; with_reducible refine (when_Live.calls (e + n) (n + y) false _ B7.out).mono ?_; rintro e1 w1 ⟨rfl, hb⟩; have HB1 := Aside0.mk (below_step HB.out hb.below); clear hb HB; have HB := HB1; clear HB1) | (go_at_call 3; with_reducible refine (depotlaw11_WhenRuns.calls true _ B8.out).mono ?_; rintro e1 w1 ⟨rfl, hb⟩; have HB1 := Aside0.mk (below_step HB.out hb); clear hb HB; have HB := HB1; clear HB1))
  go_ret
  exact ⟨rfl, HB.out⟩
set_option maxHeartbeats 1000000 in
theorem walk0ff (a0 a1 a2 a3 n e x y : Int) (w : World) (hn0 : 1 ≤ n) (hn1 : n ≤ 1073741824) (he1 : e ≤ 2592000) (hx0 : 0 ≤ x) (hx1 : x ≤ 4194304) (hy0 : 0 ≤ y) (hy1 : y ≤ 4194304) (B1 : Aside0 (depotbook_Within.f a1 1 1073741824 = some n)) (B2 : Aside0 (depotbook_Within.f a0 (-9) 2592000 = some e)) (B3 : Aside0 (depotbook_Within.f a2 0 4194304 = some x)) (B4 : Aside0 (depotbook_Within.f a3 0 4194304 = some y)) (ho : x < y) (hc : 0 < e ∧ ¬ x < e ∧ ¬ y < e) :
    Calls Try.prog 5 #[.int .i64 a0, .int .i64 a1, .int .i64 a2, .int .i64 a3] w fun e w' => e = .returned (.bool true) ∧ Below w.heap.size w w' := by
  have B5 : Aside0 (when_Deadline.f e n = some (e + n)) := ⟨by
    rw [dead e n he1 hn0 hn1]
    first | (rw [if_pos (by omega)]; done) | (rw [if_neg (by omega), if_pos (by omega)]; done) | (rw [if_neg (by omega), if_neg (by omega)]; done)⟩
  have B6 : Aside0 (when_Live.f (e + n) (n + x) = some false) := ⟨by
    rw [live, Option.some_inj]
    rw [decide_eq_false_iff_not]
    omega⟩
  have B7 : Aside0 (when_Live.f (e + n) (n + y) = some false) := ⟨by
    rw [live, Option.some_inj]
    rw [decide_eq_false_iff_not]
    omega⟩
  have B8 := Aside0.mk runs
  have he : (e == 0) = false := beq_eq_false_iff_ne.2 (by omega)
  have he3 : decide (0 < e) = true := decide_eq_true (by omega)
  have he4 : decide (x < e) = false := by rw [decide_eq_false_iff_not]; omega
  clear hc
  have HB := Aside0.mk (Below.refl w.heap.size w)
  go_enter Try.func5, Try.ntmps5
  go_wp2_with (first | (go_at_call 16; with_reducible refine (depotbook_Within.calls a1 1 1073741824 n _ B1.out).mono ?_; rintro e1 w1 ⟨rfl, hb⟩; have HB1 := Aside0.mk (below_step HB.out hb.below); clear hb HB; have HB := HB1; clear HB1) | (go_at_call 16; with_reducible refine (depotbook_Within.calls a0 (-9) 2592000 e _ B2.out).mono ?_; rintro e1 w1 ⟨rfl, hb⟩; have HB1 := Aside0.mk (below_step HB.out hb.below); clear hb HB; have HB := HB1; clear HB1) | (go_at_call 16; with_reducible refine (depotbook_Within.calls a2 0 4194304 x _ B3.out).mono ?_; rintro e1 w1 ⟨rfl, hb⟩; have HB1 := Aside0.mk (below_step HB.out hb.below); clear hb HB; have HB := HB1; clear HB1) | (go_at_call 16; with_reducible refine (depotbook_Within.calls a3 0 4194304 y _ B4.out).mono ?_; rintro e1 w1 ⟨rfl, hb⟩; have HB1 := Aside0.mk (below_step HB.out hb.below); clear hb HB; have HB := HB1; clear HB1) | (go_at_call 11; with_reducible refine (when_Deadline.calls e n _ _ B5.out).mono ?_; rintro e1 w1 ⟨rfl, hb⟩; have HB1 := Aside0.mk (below_step HB.out hb); clear hb HB; have HB := HB1; clear HB1) | (go_at_call 12; with_reducible refine (when_Live.calls (e + n) (n + x) false _ B6.out).mono ?_; rintro e1 w1 ⟨rfl, hb⟩; have HB1 := Aside0.mk (below_step HB.out hb.below); clear hb HB; have HB := HB1; clear HB1) | (go_at_call 12; with_reducible refine (when_Live.calls (e + n) (n + y) false _ B7.out).mono ?_; rintro e1 w1 ⟨rfl, hb⟩; have HB1 := Aside0.mk (below_step HB.out hb.below); clear hb HB; have HB := HB1; clear HB1) | (go_at_call 3; with_reducible refine (depotlaw11_WhenRuns.calls true _ B8.out).mono ?_; rintro e1 w1 ⟨rfl, hb⟩; have HB1 := Aside0.mk (below_step HB.out hb); clear hb HB; have HB := HB1; clear HB1))
  go_ret
  exact ⟨rfl, HB.out⟩
set_option maxHeartbeats 1000000 in
theorem walk1z (a0 a1 a2 a3 n e x y : Int) (w : World) (hn0 : 1 ≤ n) (hn1 : n ≤ 1073741824) (he1 : e ≤ 2592000) (hx0 : 0 ≤ x) (hx1 : x ≤ 4194304) (hy0 : 0 ≤ y) (hy1 : y ≤ 4194304) (B1 : Aside0 (depotbook_Within.f a1 1 1073741824 = some n)) (B2 : Aside0 (depotbook_Within.f a0 (-9) 2592000 = some e)) (B3 : Aside0 (depotbook_Within.f a2 0 4194304 = some x)) (B4 : Aside0 (depotbook_Within.f a3 0 4194304 = some y)) (ho : y < x) (hc : e = 0) :
    Calls Try.prog 5 #[.int .i64 a0, .int .i64 a1, .int .i64 a2, .int .i64 a3] w fun e w' => e = .returned (.bool true) ∧ Below w.heap.size w w' := by
  have B5 : Aside0 (when_Deadline.f e n = some 0) := ⟨by
    rw [dead e n he1 hn0 hn1]
    first | (rw [if_pos (by omega)]; done) | (rw [if_neg (by omega), if_pos (by omega)]; done) | (rw [if_neg (by omega), if_neg (by omega)]; done)⟩
  have B6 : Aside0 (when_Live.f 0 (n + y) = some true) := ⟨by
    rw [live, Option.some_inj]
    rw [decide_eq_true_eq]
    omega⟩
  have B7 : Aside0 (when_Live.f 0 (n + x) = some true) := ⟨by
    rw [live, Option.some_inj]
    rw [decide_eq_true_eq]
    omega⟩
  have B8 := Aside0.mk runs
  have he : (e == 0) = true := beq_iff_eq.2 hc
  have he2 : Aside0 (e = 0) := ⟨hc⟩
  clear hc
  have HB := Aside0.mk (Below.refl w.heap.size w)
  go_enter Try.func5, Try.ntmps5
  go_wp2_with (first | (go_at_call 16; with_reducible refine (depotbook_Within.calls a1 1 1073741824 n _ B1.out).mono ?_; rintro e1 w1 ⟨rfl, hb⟩; have HB1 := Aside0.mk (below_step HB.out hb.below); clear hb HB; have HB := HB1; clear HB1) | (go_at_call 16; with_reducible refine (depotbook_Within.calls a0 (-9) 2592000 e _ B2.out).mono ?_; rintro e1 w1 ⟨rfl, hb⟩; have HB1 := Aside0.mk (below_step HB.out hb.below); clear hb HB; have HB := HB1; clear HB1) | (go_at_call 16; with_reducible refine (depotbook_Within.calls a2 0 4194304 x _ B3.out).mono ?_; rintro e1 w1 ⟨rfl, hb⟩; have HB1 := Aside0.mk (below_step HB.out hb.below); clear hb HB; have HB := HB1; clear HB1) | (go_at_call 16; with_reducible refine (depotbook_Within.calls a3 0 4194304 y _ B4.out).mono ?_; rintro e1 w1 ⟨rfl, hb⟩; have HB1 := Aside0.mk (below_step HB.out hb.below); clear hb HB; have HB := HB1; clear HB1) | (go_at_call 11; with_reducible refine (when_Deadline.calls e n _ _ B5.out).mono ?_; rintro e1 w1 ⟨rfl, hb⟩; have HB1 := Aside0.mk (below_step HB.out hb); clear hb HB; have HB := HB1; clear HB1) | (go_at_call 12; with_reducible refine (when_Live.calls 0 (n + y) true _ B6.out).mono ?_; rintro e1 w1 ⟨rfl, hb⟩; have HB1 := Aside0.mk (below_step HB.out hb.below); clear hb HB; have HB := HB1; clear HB1) | (go_at_call 12; with_reducible refine (when_Live.calls 0 (n + x) true _ B7.out).mono ?_; rintro e1 w1 ⟨rfl, hb⟩; have HB1 := Aside0.mk (below_step HB.out hb.below); clear hb HB; have HB := HB1; clear HB1) | (go_at_call 3; with_reducible refine (depotlaw11_WhenRuns.calls true _ B8.out).mono ?_; rintro e1 w1 ⟨rfl, hb⟩; have HB1 := Aside0.mk (below_step HB.out hb); clear hb HB; have HB := HB1; clear HB1))
  go_ret
  exact ⟨rfl, HB.out⟩
set_option maxHeartbeats 1000000 in
theorem walk1n (a0 a1 a2 a3 n e x y : Int) (w : World) (hn0 : 1 ≤ n) (hn1 : n ≤ 1073741824) (he1 : e ≤ 2592000) (hx0 : 0 ≤ x) (hx1 : x ≤ 4194304) (hy0 : 0 ≤ y) (hy1 : y ≤ 4194304) (B1 : Aside0 (depotbook_Within.f a1 1 1073741824 = some n)) (B2 : Aside0 (depotbook_Within.f a0 (-9) 2592000 = some e)) (B3 : Aside0 (depotbook_Within.f a2 0 4194304 = some x)) (B4 : Aside0 (depotbook_Within.f a3 0 4194304 = some y)) (ho : y < x) (hc : e < 0) :
    Calls Try.prog 5 #[.int .i64 a0, .int .i64 a1, .int .i64 a2, .int .i64 a3] w fun e w' => e = .returned (.bool true) ∧ Below w.heap.size w w' := by
  have B5 : Aside0 (when_Deadline.f e n = some (-1)) := ⟨by
    rw [dead e n he1 hn0 hn1]
    first | (rw [if_pos (by omega)]; done) | (rw [if_neg (by omega), if_pos (by omega)]; done) | (rw [if_neg (by omega), if_neg (by omega)]; done)⟩
  have B6 : Aside0 (when_Live.f (-1) (n + y) = some false) := ⟨by
    rw [live, Option.some_inj]
    rw [decide_eq_false_iff_not]
    omega⟩
  have B7 : Aside0 (when_Live.f (-1) (n + x) = some false) := ⟨by
    rw [live, Option.some_inj]
    rw [decide_eq_false_iff_not]
    omega⟩
  have B8 := Aside0.mk runs
  have he : (e == 0) = false := beq_eq_false_iff_ne.2 (by omega)
  have he3 : decide (0 < e) = false := decide_eq_false (by omega)
  have HB := Aside0.mk (Below.refl w.heap.size w)
  go_enter Try.func5, Try.ntmps5
  go_wp2_with (first | (go_at_call 16; with_reducible refine (depotbook_Within.calls a1 1 1073741824 n _ B1.out).mono ?_; rintro e1 w1 ⟨rfl, hb⟩; have HB1 := Aside0.mk (below_step HB.out hb.below); clear hb HB; have HB := HB1; clear HB1) | (go_at_call 16; with_reducible refine (depotbook_Within.calls a0 (-9) 2592000 e _ B2.out).mono ?_; rintro e1 w1 ⟨rfl, hb⟩; have HB1 := Aside0.mk (below_step HB.out hb.below); clear hb HB; have HB := HB1; clear HB1) | (go_at_call 16; with_reducible refine (depotbook_Within.calls a2 0 4194304 x _ B3.out).mono ?_; rintro e1 w1 ⟨rfl, hb⟩; have HB1 := Aside0.mk (below_step HB.out hb.below); clear hb HB; have HB := HB1; clear HB1) | (go_at_call 16; with_reducible refine (depotbook_Within.calls a3 0 4194304 y _ B4.out).mono ?_; rintro e1 w1 ⟨rfl, hb⟩; have HB1 := Aside0.mk (below_step HB.out hb.below); clear hb HB; have HB := HB1; clear HB1) | (go_at_call 11; with_reducible refine (when_Deadline.calls e n _ _ B5.out).mono ?_; rintro e1 w1 ⟨rfl, hb⟩; have HB1 := Aside0.mk (below_step HB.out hb); clear hb HB; have HB := HB1; clear HB1) | (go_at_call 12; with_reducible refine (when_Live.calls (-1) (n + y) false _ B6.out).mono ?_; rintro e1 w1 ⟨rfl, hb⟩; have HB1 := Aside0.mk (below_step HB.out hb.below); clear hb HB; have HB := HB1; clear HB1) | (go_at_call 12; with_reducible refine (when_Live.calls (-1) (n + x) false _ B7.out).mono ?_; rintro e1 w1 ⟨rfl, hb⟩; have HB1 := Aside0.mk (below_step HB.out hb.below); clear hb HB; have HB := HB1; clear HB1) | (go_at_call 3; with_reducible refine (depotlaw11_WhenRuns.calls true _ B8.out).mono ?_; rintro e1 w1 ⟨rfl, hb⟩; have HB1 := Aside0.mk (below_step HB.out hb); clear hb HB; have HB := HB1; clear HB1))
  go_ret
  exact ⟨rfl, HB.out⟩
set_option maxHeartbeats 1000000 in
theorem walk1tt (a0 a1 a2 a3 n e x y : Int) (w : World) (hn0 : 1 ≤ n) (hn1 : n ≤ 1073741824) (he1 : e ≤ 2592000) (hx0 : 0 ≤ x) (hx1 : x ≤ 4194304) (hy0 : 0 ≤ y) (hy1 : y ≤ 4194304) (B1 : Aside0 (depotbook_Within.f a1 1 1073741824 = some n)) (B2 : Aside0 (depotbook_Within.f a0 (-9) 2592000 = some e)) (B3 : Aside0 (depotbook_Within.f a2 0 4194304 = some x)) (B4 : Aside0 (depotbook_Within.f a3 0 4194304 = some y)) (ho : y < x) (hc : 0 < e ∧ y < e ∧ x < e) :
    Calls Try.prog 5 #[.int .i64 a0, .int .i64 a1, .int .i64 a2, .int .i64 a3] w fun e w' => e = .returned (.bool true) ∧ Below w.heap.size w w' := by
  have B5 : Aside0 (when_Deadline.f e n = some (e + n)) := ⟨by
    rw [dead e n he1 hn0 hn1]
    first | (rw [if_pos (by omega)]; done) | (rw [if_neg (by omega), if_pos (by omega)]; done) | (rw [if_neg (by omega), if_neg (by omega)]; done)⟩
  have B6 : Aside0 (when_Live.f (e + n) (n + y) = some true) := ⟨by
    rw [live, Option.some_inj]
    rw [decide_eq_true_eq]
    omega⟩
  have B7 : Aside0 (when_Live.f (e + n) (n + x) = some true) := ⟨by
    rw [live, Option.some_inj]
    rw [decide_eq_true_eq]
    omega⟩
  have B8 := Aside0.mk runs
  have he : (e == 0) = false := beq_eq_false_iff_ne.2 (by omega)
  have he3 : decide (0 < e) = true := decide_eq_true (by omega)
  have he4 : decide (y < e) = true := by rw [decide_eq_true_eq]; omega
  clear hc
  have HB := Aside0.mk (Below.refl w.heap.size w)
  go_enter Try.func5, Try.ntmps5
  go_wp2_with (first | (go_at_call 16; with_reducible refine (depotbook_Within.calls a1 1 1073741824 n _ B1.out).mono ?_; rintro e1 w1 ⟨rfl, hb⟩; have HB1 := Aside0.mk (below_step HB.out hb.below); clear hb HB; have HB := HB1; clear HB1) | (go_at_call 16; with_reducible refine (depotbook_Within.calls a0 (-9) 2592000 e _ B2.out).mono ?_; rintro e1 w1 ⟨rfl, hb⟩; have HB1 := Aside0.mk (below_step HB.out hb.below); clear hb HB; have HB := HB1; clear HB1) | (go_at_call 16; with_reducible refine (depotbook_Within.calls a2 0 4194304 x _ B3.out).mono ?_; rintro e1 w1 ⟨rfl, hb⟩; have HB1 := Aside0.mk (below_step HB.out hb.below); clear hb HB; have HB := HB1; clear HB1) | (go_at_call 16; with_reducible refine (depotbook_Within.calls a3 0 4194304 y _ B4.out).mono ?_; rintro e1 w1 ⟨rfl, hb⟩; have HB1 := Aside0.mk (below_step HB.out hb.below); clear hb HB; have HB := HB1; clear HB1) | (go_at_call 11; with_reducible refine (when_Deadline.calls e n _ _ B5.out).mono ?_; rintro e1 w1 ⟨rfl, hb⟩; have HB1 := Aside0.mk (below_step HB.out hb); clear hb HB; have HB := HB1; clear HB1) | (go_at_call 12; with_reducible refine (when_Live.calls (e + n) (n + y) true _ B6.out).mono ?_; rintro e1 w1 ⟨rfl, hb⟩; have HB1 := Aside0.mk (below_step HB.out hb.below); clear hb HB; have HB := HB1; clear HB1) | (go_at_call 12; with_reducible refine (when_Live.calls (e + n) (n + x) true _ B7.out).mono ?_; rintro e1 w1 ⟨rfl, hb⟩; have HB1 := Aside0.mk (below_step HB.out hb.below); clear hb HB; have HB := HB1; clear HB1) | (go_at_call 3; with_reducible refine (depotlaw11_WhenRuns.calls true _ B8.out).mono ?_; rintro e1 w1 ⟨rfl, hb⟩; have HB1 := Aside0.mk (below_step HB.out hb); clear hb HB; have HB := HB1; clear HB1))
  go_ret
  exact ⟨rfl, HB.out⟩
set_option maxHeartbeats 1000000 in
theorem walk1tf (a0 a1 a2 a3 n e x y : Int) (w : World) (hn0 : 1 ≤ n) (hn1 : n ≤ 1073741824) (he1 : e ≤ 2592000) (hx0 : 0 ≤ x) (hx1 : x ≤ 4194304) (hy0 : 0 ≤ y) (hy1 : y ≤ 4194304) (B1 : Aside0 (depotbook_Within.f a1 1 1073741824 = some n)) (B2 : Aside0 (depotbook_Within.f a0 (-9) 2592000 = some e)) (B3 : Aside0 (depotbook_Within.f a2 0 4194304 = some x)) (B4 : Aside0 (depotbook_Within.f a3 0 4194304 = some y)) (ho : y < x) (hc : 0 < e ∧ y < e ∧ ¬ x < e) :
    Calls Try.prog 5 #[.int .i64 a0, .int .i64 a1, .int .i64 a2, .int .i64 a3] w fun e w' => e = .returned (.bool true) ∧ Below w.heap.size w w' := by
  have B5 : Aside0 (when_Deadline.f e n = some (e + n)) := ⟨by
    rw [dead e n he1 hn0 hn1]
    first | (rw [if_pos (by omega)]; done) | (rw [if_neg (by omega), if_pos (by omega)]; done) | (rw [if_neg (by omega), if_neg (by omega)]; done)⟩
  have B6 : Aside0 (when_Live.f (e + n) (n + y) = some true) := ⟨by
    rw [live, Option.some_inj]
    rw [decide_eq_true_eq]
    omega⟩
  have B7 : Aside0 (when_Live.f (e + n) (n + x) = some false) := ⟨by
    rw [live, Option.some_inj]
    rw [decide_eq_false_iff_not]
    omega⟩
  have B8 := Aside0.mk runs
  have he : (e == 0) = false := beq_eq_false_iff_ne.2 (by omega)
  have he3 : decide (0 < e) = true := decide_eq_true (by omega)
  have he4 : decide (y < e) = true := by rw [decide_eq_true_eq]; omega
  clear hc
  have HB := Aside0.mk (Below.refl w.heap.size w)
  go_enter Try.func5, Try.ntmps5
  go_wp2_with (first | (go_at_call 16; with_reducible refine (depotbook_Within.calls a1 1 1073741824 n _ B1.out).mono ?_; rintro e1 w1 ⟨rfl, hb⟩; have HB1 := Aside0.mk (below_step HB.out hb.below); clear hb HB; have HB := HB1; clear HB1) | (go_at_call 16; with_reducible refine (depotbook_Within.calls a0 (-9) 2592000 e _ B2.out).mono ?_; rintro e1 w1 ⟨rfl, hb⟩; have HB1 := Aside0.mk (below_step HB.out hb.below); clear hb HB; have HB := HB1; clear HB1) | (go_at_call 16; with_reducible refine (depotbook_Within.calls a2 0 4194304 x _ B3.out).mono ?_; rintro e1 w1 ⟨rfl, hb⟩; have HB1 := Aside0.mk (below_step HB.out hb.below); clear hb HB; have HB := HB1; clear HB1) | (go_at_call 16; with_reducible refine (depotbook_Within.calls a3 0 4194304 y _ B4.out).mono ?_; rintro e1 w1 ⟨rfl, hb⟩; have HB1 := Aside0.mk (below_step HB.out hb.below); clear hb HB; have HB := HB1; clear HB1) | (go_at_call 11; with_reducible refine (when_Deadline.calls e n _ _ B5.out).mono ?_; rintro e1 w1 ⟨rfl, hb⟩; have HB1 := Aside0.mk (below_step HB.out hb); clear hb HB; have HB := HB1; clear HB1) | (go_at_call 12; with_reducible refine (when_Live.calls (e + n) (n + y) true _ B6.out).mono ?_; rintro e1 w1 ⟨rfl, hb⟩; have HB1 := Aside0.mk (below_step HB.out hb.below); clear hb HB; have HB := HB1; clear HB1) | (go_at_call 12; with_reducible refine (when_Live.calls (e + n) (n + x) false _ B7.out).mono ?_; rintro e1 w1 ⟨rfl, hb⟩; have HB1 := Aside0.mk (below_step HB.out hb.below); clear hb HB; have HB := HB1; clear HB1) | (go_at_call 3; with_reducible refine (depotlaw11_WhenRuns.calls true _ B8.out).mono ?_; rintro e1 w1 ⟨rfl, hb⟩; have HB1 := Aside0.mk (below_step HB.out hb); clear hb HB; have HB := HB1; clear HB1))
  go_ret
  exact ⟨rfl, HB.out⟩
set_option maxHeartbeats 1000000 in
theorem walk1ff (a0 a1 a2 a3 n e x y : Int) (w : World) (hn0 : 1 ≤ n) (hn1 : n ≤ 1073741824) (he1 : e ≤ 2592000) (hx0 : 0 ≤ x) (hx1 : x ≤ 4194304) (hy0 : 0 ≤ y) (hy1 : y ≤ 4194304) (B1 : Aside0 (depotbook_Within.f a1 1 1073741824 = some n)) (B2 : Aside0 (depotbook_Within.f a0 (-9) 2592000 = some e)) (B3 : Aside0 (depotbook_Within.f a2 0 4194304 = some x)) (B4 : Aside0 (depotbook_Within.f a3 0 4194304 = some y)) (ho : y < x) (hc : 0 < e ∧ ¬ y < e ∧ ¬ x < e) :
    Calls Try.prog 5 #[.int .i64 a0, .int .i64 a1, .int .i64 a2, .int .i64 a3] w fun e w' => e = .returned (.bool true) ∧ Below w.heap.size w w' := by
  have B5 : Aside0 (when_Deadline.f e n = some (e + n)) := ⟨by
    rw [dead e n he1 hn0 hn1]
    first | (rw [if_pos (by omega)]; done) | (rw [if_neg (by omega), if_pos (by omega)]; done) | (rw [if_neg (by omega), if_neg (by omega)]; done)⟩
  have B6 : Aside0 (when_Live.f (e + n) (n + y) = some false) := ⟨by
    rw [live, Option.some_inj]
    rw [decide_eq_false_iff_not]
    omega⟩
  have B7 : Aside0 (when_Live.f (e + n) (n + x) = some false) := ⟨by
    rw [live, Option.some_inj]
    rw [decide_eq_false_iff_not]
    omega⟩
  have B8 := Aside0.mk runs
  have he : (e == 0) = false := beq_eq_false_iff_ne.2 (by omega)
  have he3 : decide (0 < e) = true := decide_eq_true (by omega)
  have he4 : decide (y < e) = false := by rw [decide_eq_false_iff_not]; omega
  clear hc
  have HB := Aside0.mk (Below.refl w.heap.size w)
  go_enter Try.func5, Try.ntmps5
  go_wp2_with (first | (go_at_call 16; with_reducible refine (depotbook_Within.calls a1 1 1073741824 n _ B1.out).mono ?_; rintro e1 w1 ⟨rfl, hb⟩; have HB1 := Aside0.mk (below_step HB.out hb.below); clear hb HB; have HB := HB1; clear HB1) | (go_at_call 16; with_reducible refine (depotbook_Within.calls a0 (-9) 2592000 e _ B2.out).mono ?_; rintro e1 w1 ⟨rfl, hb⟩; have HB1 := Aside0.mk (below_step HB.out hb.below); clear hb HB; have HB := HB1; clear HB1) | (go_at_call 16; with_reducible refine (depotbook_Within.calls a2 0 4194304 x _ B3.out).mono ?_; rintro e1 w1 ⟨rfl, hb⟩; have HB1 := Aside0.mk (below_step HB.out hb.below); clear hb HB; have HB := HB1; clear HB1) | (go_at_call 16; with_reducible refine (depotbook_Within.calls a3 0 4194304 y _ B4.out).mono ?_; rintro e1 w1 ⟨rfl, hb⟩; have HB1 := Aside0.mk (below_step HB.out hb.below); clear hb HB; have HB := HB1; clear HB1) | (go_at_call 11; with_reducible refine (when_Deadline.calls e n _ _ B5.out).mono ?_; rintro e1 w1 ⟨rfl, hb⟩; have HB1 := Aside0.mk (below_step HB.out hb); clear hb HB; have HB := HB1; clear HB1) | (go_at_call 12; with_reducible refine (when_Live.calls (e + n) (n + y) false _ B6.out).mono ?_; rintro e1 w1 ⟨rfl, hb⟩; have HB1 := Aside0.mk (below_step HB.out hb.below); clear hb HB; have HB := HB1; clear HB1) | (go_at_call 12; with_reducible refine (when_Live.calls (e + n) (n + x) false _ B7.out).mono ?_; rintro e1 w1 ⟨rfl, hb⟩; have HB1 := Aside0.mk (below_step HB.out hb.below); clear hb HB; have HB := HB1; clear HB1) | (go_at_call 3; with_reducible refine (depotlaw11_WhenRuns.calls true _ B8.out).mono ?_; rintro e1 w1 ⟨rfl, hb⟩; have HB1 := Aside0.mk (below_step HB.out hb); clear hb HB; have HB := HB1; clear HB1))
  go_ret
  exact ⟨rfl, HB.out⟩
set_option maxHeartbeats 1000000 in
theorem walk2z (a0 a1 a2 a3 n e x y : Int) (w : World) (hn0 : 1 ≤ n) (hn1 : n ≤ 1073741824) (he1 : e ≤ 2592000) (hx0 : 0 ≤ x) (hx1 : x ≤ 4194304) (hy0 : 0 ≤ y) (hy1 : y ≤ 4194304) (B1 : Aside0 (depotbook_Within.f a1 1 1073741824 = some n)) (B2 : Aside0 (depotbook_Within.f a0 (-9) 2592000 = some e)) (B3 : Aside0 (depotbook_Within.f a2 0 4194304 = some x)) (B4 : Aside0 (depotbook_Within.f a3 0 4194304 = some y)) (ho : x = y) (hc : e = 0) :
    Calls Try.prog 5 #[.int .i64 a0, .int .i64 a1, .int .i64 a2, .int .i64 a3] w fun e w' => e = .returned (.bool true) ∧ Below w.heap.size w w' := by
  subst ho
  have B5 : Aside0 (when_Deadline.f e n = some 0) := ⟨by
    rw [dead e n he1 hn0 hn1]
    first | (rw [if_pos (by omega)]; done) | (rw [if_neg (by omega), if_pos (by omega)]; done) | (rw [if_neg (by omega), if_neg (by omega)]; done)⟩
  have B6 : Aside0 (when_Live.f 0 (n + x) = some true) := ⟨by
    rw [live, Option.some_inj]
    rw [decide_eq_true_eq]
    omega⟩
  have B7 : Aside0 (when_Live.f 0 (n + x) = some true) := ⟨by
    rw [live, Option.some_inj]
    rw [decide_eq_true_eq]
    omega⟩
  have B8 := Aside0.mk runs
  have he : (e == 0) = true := beq_iff_eq.2 hc
  have he2 : Aside0 (e = 0) := ⟨hc⟩
  clear hc
  have HB := Aside0.mk (Below.refl w.heap.size w)
  go_enter Try.func5, Try.ntmps5
  go_wp2_with (first | (go_at_call 16; with_reducible refine (depotbook_Within.calls a1 1 1073741824 n _ B1.out).mono ?_; rintro e1 w1 ⟨rfl, hb⟩; have HB1 := Aside0.mk (below_step HB.out hb.below); clear hb HB; have HB := HB1; clear HB1) | (go_at_call 16; with_reducible refine (depotbook_Within.calls a0 (-9) 2592000 e _ B2.out).mono ?_; rintro e1 w1 ⟨rfl, hb⟩; have HB1 := Aside0.mk (below_step HB.out hb.below); clear hb HB; have HB := HB1; clear HB1) | (go_at_call 16; with_reducible refine (depotbook_Within.calls a2 0 4194304 x _ B3.out).mono ?_; rintro e1 w1 ⟨rfl, hb⟩; have HB1 := Aside0.mk (below_step HB.out hb.below); clear hb HB; have HB := HB1; clear HB1) | (go_at_call 16; with_reducible refine (depotbook_Within.calls a3 0 4194304 x _ B4.out).mono ?_; rintro e1 w1 ⟨rfl, hb⟩; have HB1 := Aside0.mk (below_step HB.out hb.below); clear hb HB; have HB := HB1; clear HB1) | (go_at_call 11; with_reducible refine (when_Deadline.calls e n _ _ B5.out).mono ?_; rintro e1 w1 ⟨rfl, hb⟩; have HB1 := Aside0.mk (below_step HB.out hb); clear hb HB; have HB := HB1; clear HB1) | (go_at_call 12; with_reducible refine (when_Live.calls 0 (n + x) true _ B6.out).mono ?_; rintro e1 w1 ⟨rfl, hb⟩; have HB1 := Aside0.mk (below_step HB.out hb.below); clear hb HB; have HB := HB1; clear HB1) | (go_at_call 12; with_reducible refine (when_Live.calls 0 (n + x) true _ B7.out).mono ?_; rintro e1 w1 ⟨rfl, hb⟩; have HB1 := Aside0.mk (below_step HB.out hb.below); clear hb HB; have HB := HB1; clear HB1) | (go_at_call 3; with_reducible refine (depotlaw11_WhenRuns.calls true _ B8.out).mono ?_; rintro e1 w1 ⟨rfl, hb⟩; have HB1 := Aside0.mk (below_step HB.out hb); clear hb HB; have HB := HB1; clear HB1))
  go_ret
  exact ⟨rfl, HB.out⟩
set_option maxHeartbeats 1000000 in
theorem walk2n (a0 a1 a2 a3 n e x y : Int) (w : World) (hn0 : 1 ≤ n) (hn1 : n ≤ 1073741824) (he1 : e ≤ 2592000) (hx0 : 0 ≤ x) (hx1 : x ≤ 4194304) (hy0 : 0 ≤ y) (hy1 : y ≤ 4194304) (B1 : Aside0 (depotbook_Within.f a1 1 1073741824 = some n)) (B2 : Aside0 (depotbook_Within.f a0 (-9) 2592000 = some e)) (B3 : Aside0 (depotbook_Within.f a2 0 4194304 = some x)) (B4 : Aside0 (depotbook_Within.f a3 0 4194304 = some y)) (ho : x = y) (hc : e < 0) :
    Calls Try.prog 5 #[.int .i64 a0, .int .i64 a1, .int .i64 a2, .int .i64 a3] w fun e w' => e = .returned (.bool true) ∧ Below w.heap.size w w' := by
  subst ho
  have B5 : Aside0 (when_Deadline.f e n = some (-1)) := ⟨by
    rw [dead e n he1 hn0 hn1]
    first | (rw [if_pos (by omega)]; done) | (rw [if_neg (by omega), if_pos (by omega)]; done) | (rw [if_neg (by omega), if_neg (by omega)]; done)⟩
  have B6 : Aside0 (when_Live.f (-1) (n + x) = some false) := ⟨by
    rw [live, Option.some_inj]
    rw [decide_eq_false_iff_not]
    omega⟩
  have B7 : Aside0 (when_Live.f (-1) (n + x) = some false) := ⟨by
    rw [live, Option.some_inj]
    rw [decide_eq_false_iff_not]
    omega⟩
  have B8 := Aside0.mk runs
  have he : (e == 0) = false := beq_eq_false_iff_ne.2 (by omega)
  have he3 : decide (0 < e) = false := decide_eq_false (by omega)
  have HB := Aside0.mk (Below.refl w.heap.size w)
  go_enter Try.func5, Try.ntmps5
  go_wp2_with (first | (go_at_call 16; with_reducible refine (depotbook_Within.calls a1 1 1073741824 n _ B1.out).mono ?_; rintro e1 w1 ⟨rfl, hb⟩; have HB1 := Aside0.mk (below_step HB.out hb.below); clear hb HB; have HB := HB1; clear HB1) | (go_at_call 16; with_reducible refine (depotbook_Within.calls a0 (-9) 2592000 e _ B2.out).mono ?_; rintro e1 w1 ⟨rfl, hb⟩; have HB1 := Aside0.mk (below_step HB.out hb.below); clear hb HB; have HB := HB1; clear HB1) | (go_at_call 16; with_reducible refine (depotbook_Within.calls a2 0 4194304 x _ B3.out).mono ?_; rintro e1 w1 ⟨rfl, hb⟩; have HB1 := Aside0.mk (below_step HB.out hb.below); clear hb HB; have HB := HB1; clear HB1) | (go_at_call 16; with_reducible refine (depotbook_Within.calls a3 0 4194304 x _ B4.out).mono ?_; rintro e1 w1 ⟨rfl, hb⟩; have HB1 := Aside0.mk (below_step HB.out hb.below); clear hb HB; have HB := HB1; clear HB1) | (go_at_call 11; with_reducible refine (when_Deadline.calls e n _ _ B5.out).mono ?_; rintro e1 w1 ⟨rfl, hb⟩; have HB1 := Aside0.mk (below_step HB.out hb); clear hb HB; have HB := HB1; clear HB1) | (go_at_call 12; with_reducible refine (when_Live.calls (-1) (n + x) false _ B6.out).mono ?_; rintro e1 w1 ⟨rfl, hb⟩; have HB1 := Aside0.mk (below_step HB.out hb.below); clear hb HB; have HB := HB1; clear HB1) | (go_at_call 12; with_reducible refine (when_Live.calls (-1) (n + x) false _ B7.out).mono ?_; rintro e1 w1 ⟨rfl, hb⟩; have HB1 := Aside0.mk (below_step HB.out hb.below); clear hb HB; have HB := HB1; clear HB1) | (go_at_call 3; with_reducible refine (depotlaw11_WhenRuns.calls true _ B8.out).mono ?_; rintro e1 w1 ⟨rfl, hb⟩; have HB1 := Aside0.mk (below_step HB.out hb); clear hb HB; have HB := HB1; clear HB1))
  go_ret
  exact ⟨rfl, HB.out⟩
set_option maxHeartbeats 1000000 in
theorem walk2tt (a0 a1 a2 a3 n e x y : Int) (w : World) (hn0 : 1 ≤ n) (hn1 : n ≤ 1073741824) (he1 : e ≤ 2592000) (hx0 : 0 ≤ x) (hx1 : x ≤ 4194304) (hy0 : 0 ≤ y) (hy1 : y ≤ 4194304) (B1 : Aside0 (depotbook_Within.f a1 1 1073741824 = some n)) (B2 : Aside0 (depotbook_Within.f a0 (-9) 2592000 = some e)) (B3 : Aside0 (depotbook_Within.f a2 0 4194304 = some x)) (B4 : Aside0 (depotbook_Within.f a3 0 4194304 = some y)) (ho : x = y) (hc : 0 < e ∧ x < e ∧ x < e) :
    Calls Try.prog 5 #[.int .i64 a0, .int .i64 a1, .int .i64 a2, .int .i64 a3] w fun e w' => e = .returned (.bool true) ∧ Below w.heap.size w w' := by
  subst ho
  have B5 : Aside0 (when_Deadline.f e n = some (e + n)) := ⟨by
    rw [dead e n he1 hn0 hn1]
    first | (rw [if_pos (by omega)]; done) | (rw [if_neg (by omega), if_pos (by omega)]; done) | (rw [if_neg (by omega), if_neg (by omega)]; done)⟩
  have B6 : Aside0 (when_Live.f (e + n) (n + x) = some true) := ⟨by
    rw [live, Option.some_inj]
    rw [decide_eq_true_eq]
    omega⟩
  have B7 : Aside0 (when_Live.f (e + n) (n + x) = some true) := ⟨by
    rw [live, Option.some_inj]
    rw [decide_eq_true_eq]
    omega⟩
  have B8 := Aside0.mk runs
  have he : (e == 0) = false := beq_eq_false_iff_ne.2 (by omega)
  have he3 : decide (0 < e) = true := decide_eq_true (by omega)
  have he4 : decide (x < e) = true := by rw [decide_eq_true_eq]; omega
  clear hc
  have HB := Aside0.mk (Below.refl w.heap.size w)
  go_enter Try.func5, Try.ntmps5
  go_wp2_with (first | (go_at_call 16; with_reducible refine (depotbook_Within.calls a1 1 1073741824 n _ B1.out).mono ?_; rintro e1 w1 ⟨rfl, hb⟩; have HB1 := Aside0.mk (below_step HB.out hb.below); clear hb HB; have HB := HB1; clear HB1) | (go_at_call 16; with_reducible refine (depotbook_Within.calls a0 (-9) 2592000 e _ B2.out).mono ?_; rintro e1 w1 ⟨rfl, hb⟩; have HB1 := Aside0.mk (below_step HB.out hb.below); clear hb HB; have HB := HB1; clear HB1) | (go_at_call 16; with_reducible refine (depotbook_Within.calls a2 0 4194304 x _ B3.out).mono ?_; rintro e1 w1 ⟨rfl, hb⟩; have HB1 := Aside0.mk (below_step HB.out hb.below); clear hb HB; have HB := HB1; clear HB1) | (go_at_call 16; with_reducible refine (depotbook_Within.calls a3 0 4194304 x _ B4.out).mono ?_; rintro e1 w1 ⟨rfl, hb⟩; have HB1 := Aside0.mk (below_step HB.out hb.below); clear hb HB; have HB := HB1; clear HB1) | (go_at_call 11; with_reducible refine (when_Deadline.calls e n _ _ B5.out).mono ?_; rintro e1 w1 ⟨rfl, hb⟩; have HB1 := Aside0.mk (below_step HB.out hb); clear hb HB; have HB := HB1; clear HB1) | (go_at_call 12; with_reducible refine (when_Live.calls (e + n) (n + x) true _ B6.out).mono ?_; rintro e1 w1 ⟨rfl, hb⟩; have HB1 := Aside0.mk (below_step HB.out hb.below); clear hb HB; have HB := HB1; clear HB1) | (go_at_call 12; with_reducible refine (when_Live.calls (e + n) (n + x) true _ B7.out).mono ?_; rintro e1 w1 ⟨rfl, hb⟩; have HB1 := Aside0.mk (below_step HB.out hb.below); clear hb HB; have HB := HB1; clear HB1) | (go_at_call 3; with_reducible refine (depotlaw11_WhenRuns.calls true _ B8.out).mono ?_; rintro e1 w1 ⟨rfl, hb⟩; have HB1 := Aside0.mk (below_step HB.out hb); clear hb HB; have HB := HB1; clear HB1))
  go_ret
  exact ⟨rfl, HB.out⟩
set_option maxHeartbeats 1000000 in
theorem walk2tf (a0 a1 a2 a3 n e x y : Int) (w : World) (hn0 : 1 ≤ n) (hn1 : n ≤ 1073741824) (he1 : e ≤ 2592000) (hx0 : 0 ≤ x) (hx1 : x ≤ 4194304) (hy0 : 0 ≤ y) (hy1 : y ≤ 4194304) (B1 : Aside0 (depotbook_Within.f a1 1 1073741824 = some n)) (B2 : Aside0 (depotbook_Within.f a0 (-9) 2592000 = some e)) (B3 : Aside0 (depotbook_Within.f a2 0 4194304 = some x)) (B4 : Aside0 (depotbook_Within.f a3 0 4194304 = some y)) (ho : x = y) (hc : 0 < e ∧ x < e ∧ ¬ x < e) :
    Calls Try.prog 5 #[.int .i64 a0, .int .i64 a1, .int .i64 a2, .int .i64 a3] w fun e w' => e = .returned (.bool true) ∧ Below w.heap.size w w' := by
  subst ho
  have B5 : Aside0 (when_Deadline.f e n = some (e + n)) := ⟨by
    rw [dead e n he1 hn0 hn1]
    first | (rw [if_pos (by omega)]; done) | (rw [if_neg (by omega), if_pos (by omega)]; done) | (rw [if_neg (by omega), if_neg (by omega)]; done)⟩
  have B6 : Aside0 (when_Live.f (e + n) (n + x) = some true) := ⟨by
    rw [live, Option.some_inj]
    rw [decide_eq_true_eq]
    omega⟩
  have B7 : Aside0 (when_Live.f (e + n) (n + x) = some false) := ⟨by
    rw [live, Option.some_inj]
    rw [decide_eq_false_iff_not]
    omega⟩
  have B8 := Aside0.mk runs
  have he : (e == 0) = false := beq_eq_false_iff_ne.2 (by omega)
  have he3 : decide (0 < e) = true := decide_eq_true (by omega)
  have he4 : decide (x < e) = true := by rw [decide_eq_true_eq]; omega
  clear hc
  have HB := Aside0.mk (Below.refl w.heap.size w)
  go_enter Try.func5, Try.ntmps5
  go_wp2_with (first | (go_at_call 16; with_reducible refine (depotbook_Within.calls a1 1 1073741824 n _ B1.out).mono ?_; rintro e1 w1 ⟨rfl, hb⟩; have HB1 := Aside0.mk (below_step HB.out hb.below); clear hb HB; have HB := HB1; clear HB1) | (go_at_call 16; with_reducible refine (depotbook_Within.calls a0 (-9) 2592000 e _ B2.out).mono ?_; rintro e1 w1 ⟨rfl, hb⟩; have HB1 := Aside0.mk (below_step HB.out hb.below); clear hb HB; have HB := HB1; clear HB1) | (go_at_call 16; with_reducible refine (depotbook_Within.calls a2 0 4194304 x _ B3.out).mono ?_; rintro e1 w1 ⟨rfl, hb⟩; have HB1 := Aside0.mk (below_step HB.out hb.below); clear hb HB; have HB := HB1; clear HB1) | (go_at_call 16; with_reducible refine (depotbook_Within.calls a3 0 4194304 x _ B4.out).mono ?_; rintro e1 w1 ⟨rfl, hb⟩; have HB1 := Aside0.mk (below_step HB.out hb.below); clear hb HB; have HB := HB1; clear HB1) | (go_at_call 11; with_reducible refine (when_Deadline.calls e n _ _ B5.out).mono ?_; rintro e1 w1 ⟨rfl, hb⟩; have HB1 := Aside0.mk (below_step HB.out hb); clear hb HB; have HB := HB1; clear HB1) | (go_at_call 12; with_reducible refine (when_Live.calls (e + n) (n + x) true _ B6.out).mono ?_; rintro e1 w1 ⟨rfl, hb⟩; have HB1 := Aside0.mk (below_step HB.out hb.below); clear hb HB; have HB := HB1; clear HB1) | (go_at_call 12; with_reducible refine (when_Live.calls (e + n) (n + x) false _ B7.out).mono ?_; rintro e1 w1 ⟨rfl, hb⟩; have HB1 := Aside0.mk (below_step HB.out hb.below); clear hb HB; have HB := HB1; clear HB1) | (go_at_call 3; with_reducible refine (depotlaw11_WhenRuns.calls true _ B8.out).mono ?_; rintro e1 w1 ⟨rfl, hb⟩; have HB1 := Aside0.mk (below_step HB.out hb); clear hb HB; have HB := HB1; clear HB1))
  go_ret
  exact ⟨rfl, HB.out⟩
set_option maxHeartbeats 1000000 in
theorem walk2ff (a0 a1 a2 a3 n e x y : Int) (w : World) (hn0 : 1 ≤ n) (hn1 : n ≤ 1073741824) (he1 : e ≤ 2592000) (hx0 : 0 ≤ x) (hx1 : x ≤ 4194304) (hy0 : 0 ≤ y) (hy1 : y ≤ 4194304) (B1 : Aside0 (depotbook_Within.f a1 1 1073741824 = some n)) (B2 : Aside0 (depotbook_Within.f a0 (-9) 2592000 = some e)) (B3 : Aside0 (depotbook_Within.f a2 0 4194304 = some x)) (B4 : Aside0 (depotbook_Within.f a3 0 4194304 = some y)) (ho : x = y) (hc : 0 < e ∧ ¬ x < e ∧ ¬ x < e) :
    Calls Try.prog 5 #[.int .i64 a0, .int .i64 a1, .int .i64 a2, .int .i64 a3] w fun e w' => e = .returned (.bool true) ∧ Below w.heap.size w w' := by
  subst ho
  have B5 : Aside0 (when_Deadline.f e n = some (e + n)) := ⟨by
    rw [dead e n he1 hn0 hn1]
    first | (rw [if_pos (by omega)]; done) | (rw [if_neg (by omega), if_pos (by omega)]; done) | (rw [if_neg (by omega), if_neg (by omega)]; done)⟩
  have B6 : Aside0 (when_Live.f (e + n) (n + x) = some false) := ⟨by
    rw [live, Option.some_inj]
    rw [decide_eq_false_iff_not]
    omega⟩
  have B7 : Aside0 (when_Live.f (e + n) (n + x) = some false) := ⟨by
    rw [live, Option.some_inj]
    rw [decide_eq_false_iff_not]
    omega⟩
  have B8 := Aside0.mk runs
  have he : (e == 0) = false := beq_eq_false_iff_ne.2 (by omega)
  have he3 : decide (0 < e) = true := decide_eq_true (by omega)
  have he4 : decide (x < e) = false := by rw [decide_eq_false_iff_not]; omega
  clear hc
  have HB := Aside0.mk (Below.refl w.heap.size w)
  go_enter Try.func5, Try.ntmps5
  go_wp2_with (first | (go_at_call 16; with_reducible refine (depotbook_Within.calls a1 1 1073741824 n _ B1.out).mono ?_; rintro e1 w1 ⟨rfl, hb⟩; have HB1 := Aside0.mk (below_step HB.out hb.below); clear hb HB; have HB := HB1; clear HB1) | (go_at_call 16; with_reducible refine (depotbook_Within.calls a0 (-9) 2592000 e _ B2.out).mono ?_; rintro e1 w1 ⟨rfl, hb⟩; have HB1 := Aside0.mk (below_step HB.out hb.below); clear hb HB; have HB := HB1; clear HB1) | (go_at_call 16; with_reducible refine (depotbook_Within.calls a2 0 4194304 x _ B3.out).mono ?_; rintro e1 w1 ⟨rfl, hb⟩; have HB1 := Aside0.mk (below_step HB.out hb.below); clear hb HB; have HB := HB1; clear HB1) | (go_at_call 16; with_reducible refine (depotbook_Within.calls a3 0 4194304 x _ B4.out).mono ?_; rintro e1 w1 ⟨rfl, hb⟩; have HB1 := Aside0.mk (below_step HB.out hb.below); clear hb HB; have HB := HB1; clear HB1) | (go_at_call 11; with_reducible refine (when_Deadline.calls e n _ _ B5.out).mono ?_; rintro e1 w1 ⟨rfl, hb⟩; have HB1 := Aside0.mk (below_step HB.out hb); clear hb HB; have HB := HB1; clear HB1) | (go_at_call 12; with_reducible refine (when_Live.calls (e + n) (n + x) false _ B6.out).mono ?_; rintro e1 w1 ⟨rfl, hb⟩; have HB1 := Aside0.mk (below_step HB.out hb.below); clear hb HB; have HB := HB1; clear HB1) | (go_at_call 12; with_reducible refine (when_Live.calls (e + n) (n + x) false _ B7.out).mono ?_; rintro e1 w1 ⟨rfl, hb⟩; have HB1 := Aside0.mk (below_step HB.out hb.below); clear hb HB; have HB := HB1; clear HB1) | (go_at_call 3; with_reducible refine (depotlaw11_WhenRuns.calls true _ B8.out).mono ?_; rintro e1 w1 ⟨rfl, hb⟩; have HB1 := Aside0.mk (below_step HB.out hb); clear hb HB; have HB := HB1; clear HB1))
  go_ret
  exact ⟨rfl, HB.out⟩
theorem walk (a0 a1 a2 a3 : Int) (w : World) : Calls Try.prog 5 #[.int .i64 a0, .int .i64 a1, .int .i64 a2, .int .i64 a3] w fun e w' => e = .returned (.bool true) ∧ Below w.heap.size w w' := by
  obtain ⟨n, hn, hn0, hn1⟩ := within a1 1 1073741824 1073741824 (by decide) (by decide) (by decide) (by decide) (by decide)
  obtain ⟨e, he, he0, he1⟩ := within a0 (-9) 2592000 2592010 (by decide) (by decide) (by decide) (by decide) (by decide)
  obtain ⟨x, hx, hx0, hx1⟩ := within a2 0 4194304 4194305 (by decide) (by decide) (by decide) (by decide) (by decide)
  obtain ⟨y, hy, hy0, hy1⟩ := within a3 0 4194304 4194305 (by decide) (by decide) (by decide) (by decide) (by decide)
  rcases Int.lt_trichotomy x y with ho | ho | ho
  · by_cases c0 : e = 0
    · exact walk0z a0 a1 a2 a3 n e x y w hn0 hn1 he1 hx0 hx1 hy0 hy1 ⟨hn⟩ ⟨he⟩ ⟨hx⟩ ⟨hy⟩ ho c0
    · by_cases c1 : e < 0
      · exact walk0n a0 a1 a2 a3 n e x y w hn0 hn1 he1 hx0 hx1 hy0 hy1 ⟨hn⟩ ⟨he⟩ ⟨hx⟩ ⟨hy⟩ ho c1
      · by_cases c2 : x < e
        · by_cases c3 : y < e
          · exact walk0tt a0 a1 a2 a3 n e x y w hn0 hn1 he1 hx0 hx1 hy0 hy1 ⟨hn⟩ ⟨he⟩ ⟨hx⟩ ⟨hy⟩ ho ⟨by omega, c2, c3⟩
          · exact walk0tf a0 a1 a2 a3 n e x y w hn0 hn1 he1 hx0 hx1 hy0 hy1 ⟨hn⟩ ⟨he⟩ ⟨hx⟩ ⟨hy⟩ ho ⟨by omega, c2, c3⟩
        · exact walk0ff a0 a1 a2 a3 n e x y w hn0 hn1 he1 hx0 hx1 hy0 hy1 ⟨hn⟩ ⟨he⟩ ⟨hx⟩ ⟨hy⟩ ho ⟨by omega, c2, by omega⟩
  · by_cases c0 : e = 0
    · exact walk2z a0 a1 a2 a3 n e x y w hn0 hn1 he1 hx0 hx1 hy0 hy1 ⟨hn⟩ ⟨he⟩ ⟨hx⟩ ⟨hy⟩ ho c0
    · by_cases c1 : e < 0
      · exact walk2n a0 a1 a2 a3 n e x y w hn0 hn1 he1 hx0 hx1 hy0 hy1 ⟨hn⟩ ⟨he⟩ ⟨hx⟩ ⟨hy⟩ ho c1
      · by_cases c2 : x < e
        · by_cases c3 : x < e
          · exact walk2tt a0 a1 a2 a3 n e x y w hn0 hn1 he1 hx0 hx1 hy0 hy1 ⟨hn⟩ ⟨he⟩ ⟨hx⟩ ⟨hy⟩ ho ⟨by omega, c2, c3⟩
          · exact walk2tf a0 a1 a2 a3 n e x y w hn0 hn1 he1 hx0 hx1 hy0 hy1 ⟨hn⟩ ⟨he⟩ ⟨hx⟩ ⟨hy⟩ ho ⟨by omega, c2, c3⟩
        · exact walk2ff a0 a1 a2 a3 n e x y w hn0 hn1 he1 hx0 hx1 hy0 hy1 ⟨hn⟩ ⟨he⟩ ⟨hx⟩ ⟨hy⟩ ho ⟨by omega, c2, by omega⟩
  · by_cases c0 : e = 0
    · exact walk1z a0 a1 a2 a3 n e x y w hn0 hn1 he1 hx0 hx1 hy0 hy1 ⟨hn⟩ ⟨he⟩ ⟨hx⟩ ⟨hy⟩ ho c0
    · by_cases c1 : e < 0
      · exact walk1n a0 a1 a2 a3 n e x y w hn0 hn1 he1 hx0 hx1 hy0 hy1 ⟨hn⟩ ⟨he⟩ ⟨hx⟩ ⟨hy⟩ ho c1
      · by_cases c2 : y < e
        · by_cases c3 : x < e
          · exact walk1tt a0 a1 a2 a3 n e x y w hn0 hn1 he1 hx0 hx1 hy0 hy1 ⟨hn⟩ ⟨he⟩ ⟨hx⟩ ⟨hy⟩ ho ⟨by omega, c2, c3⟩
          · exact walk1tf a0 a1 a2 a3 n e x y w hn0 hn1 he1 hx0 hx1 hy0 hy1 ⟨hn⟩ ⟨he⟩ ⟨hx⟩ ⟨hy⟩ ho ⟨by omega, c2, c3⟩
        · exact walk1ff a0 a1 a2 a3 n e x y w hn0 hn1 he1 hx0 hx1 hy0 hy1 ⟨hn⟩ ⟨he⟩ ⟨hx⟩ ⟨hy⟩ ho ⟨by omega, c2, by omega⟩
end Go.Proofs.Ytiifekdcikcgpaa.Over
