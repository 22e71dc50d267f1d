/- The document: its Number, digits, Deadline, say. -/
import Derived.Test.YtepklobkppdliaaDoorUAd
import Derived.Test.YtepklobkppdliaaDoorUPModelNextx3
namespace Go.Proofs.YtepklobkppdliaaDoor.Md
open Go.RowKit Go.Proofs.YtepklobkppdliaaDoorW.PrintWords Go.Proofs.YtepklobkppdliaaDoorW.PrintLast Go.Proofs.YtepklobkppdliaaDoorW.PrintMore Go.Proofs.YtepklobkppdliaaDoor.Lib Go.Proofs.YtepklobkppdliaaDoor.Open
open PModelNext
theorem tl_nil (s : ByteArray) : (s.toList = ([] : List UInt8)) ↔ s.size = 0 := by
  rw [ByteArray.toList_eq]
  obtain ⟨⟨l⟩⟩ := s
  show l = [] ↔ l.length = 0
  exact List.length_eq_zero_iff.symm
theorem refNumber_l (s : ByteArray) (hs : s.size ≤ 20) : ∀ (d i : Nat) (n : Int), i + d = s.size → 0 ≤ n → n ≤ 18446744073709551615 →
    depotref9_Number.l0 (d + 1) s 18446744073709551615 n (i : Int) = some (nout (numGo (s.data.toList.drop i) n)) := by
  intro d
  induction d with
  | zero =>
    intro i n hi h0 h1
    unfold depotref9_Number.l0
    rw [if_neg (by omega), List.drop_eq_nil_of_le (by simp; omega)]
    rfl
  | succ d ih =>
    intro i n hi h0 h1
    have hlt : i < s.size := by omega
    have hb := bt_data s i hlt
    have hr := bt_range s (i : Int)
    have hl : i < s.data.toList.length := by simpa using hlt
    have hd : s.data.toList.drop i = s.data.toList[i] :: s.data.toList.drop (i + 1) := List.drop_eq_getElem_cons hl
    rw [hd]
    obtain ⟨b, hbb⟩ : ∃ b, b = bt s (i : Int) := ⟨_, rfl⟩
    unfold depotref9_Number.l0 numGo
    rw [if_pos (by omega), if_pos (by omega), ← hb, ← hbb]
    rw [← hbb] at hr
    by_cases c1 : b < 48
    · rw [if_pos c1, if_pos (.inl c1)]
      rfl
    · rw [if_neg c1]
      by_cases c2 : 57 < b
      · rw [if_pos c2, if_pos (.inr c2)]
        rfl
      · rw [if_neg (show ¬ b > 57 by omega), if_neg (show ¬ (b < 48 ∨ 57 < b) by omega)]
        have w1 : ∀ x : Int, 0 ≤ x → x ≤ 18446744073709551615 → IntKind.u64.wrap x = x := fun x a c => IntWalk.u64_in x (by omega)
        have e0 : IntKind.u64.wrap (IntKind.u64.wrap b - 48) = b - 48 := by rw [w1 b (by omega) (by omega), w1 _ (by omega) (by omega)]
        have e3 : IntKind.u64.wrap (Int.tdiv (IntKind.u64.wrap (18446744073709551615 - (b - 48))) 10) = (18446744073709551615 - (b - 48)) / 10 := by
          rw [w1 (18446744073709551615 - (b - 48)) (by omega) (by omega), Int.tdiv_eq_ediv_of_nonneg (by omega), w1 _ (by omega) (by omega)]
        rw [e0, e3]
        by_cases c3 : (18446744073709551615 - (b - 48)) / 10 < n
        · rw [if_pos c3, if_pos c3]
          rfl
        · rw [if_neg c3, if_neg c3, if_neg (by omega)]
          have e1 : IntKind.u64.wrap (IntKind.u64.wrap (n * 10) + (b - 48)) = 10 * n + (b - 48) := by
            rw [w1 (n * 10) (by omega) (by omega), w1 _ (by omega) (by omega)]
            omega
          have e2 : wrap64 ((i : Int) + 1) = ((i + 1 : Nat) : Int) := by unfold wrap64; omega
          rw [e1, e2]
          exact ih (i + 1) _ (by omega) (by omega) (by omega)
theorem refNumber_f (s : ByteArray) : depotref9_Number.f 22 s 18446744073709551615 = some (nout (numOf s)) := by
  unfold depotref9_Number.f numOf
  by_cases h1 : s.size < 1
  · rw [if_pos ((tl_nil s).2 (by omega)), if_pos (.inl h1)]
    rfl
  · rw [if_neg (fun h => by have := (tl_nil s).1 h; omega)]
    by_cases h2 : 20 < s.size
    · rw [decide_eq_true (by omega), if_pos (.inr h2)]
      rfl
    · rw [decide_eq_false (by omega), if_neg (by omega)]
      show (if false = true then some (0, false) else depotref9_Number.l0 21 s 18446744073709551615 0 0) = _
      rw [if_neg (by decide)]
      have := refNumber_l s (by omega) s.size 0 0 (by omega) (by omega) (by omega)
      exact at_rounds (g := fun k => depotref9_Number.l0 k s 18446744073709551615 0 0) (fun k => (depotref9_Number.mono_l k).2 _ _ _ _) (show s.size + 1 ≤ 21 by omega) this
theorem refNumber_calls (s : ByteArray) (w : World) : Calls Tryd.prog 55 #[.string s, .int .u64 18446744073709551615] w fun e w' => e = .returned (.tuple #[.int .u64 (nout (numOf s)).1, .bool (nout (numOf s)).2]) ∧ Drawn0 w w' :=
  depotref9_Number.calls 22 s _ _ _ w (refNumber_f s)
theorem strOfNums_one (n : Nat) (hn : n < 10) : strOfNums [(48 + (n : Int)) % 256] = ⟨#[UInt8.ofNat (48 + n)]⟩ := by
  have e : ((48 + (n : Int)) % 256).toNat = 48 + n := by omega
  simp [strOfNums, e]
theorem digits_l : ∀ (n : Nat), n < 18446744073709551616 → ∀ (s : ByteArray) (k : Nat), (0 < n ∨ s.size = 0) → s.size + Lib.nDigits n ≤ 100 → Lib.nDigits n + 1 ≤ k → depotref9_digits.l0 k (n : Int) s = some (dec n ++ s) := by
  intro n
  induction n using Nat.strongRecOn with
  | _ n ih =>
    intro hn s k hp hs hk
    obtain ⟨k, rfl⟩ : ∃ j, k = j + 1 := ⟨k - 1, by omega⟩
    have hnd := Lib.nDigits_pos n
    have hw : IntKind.u64.wrap (48 + Int.tmod (n : Int) 10) = 48 + ((n % 10 : Nat) : Int) := by
      rw [Int.tmod_eq_emod_of_nonneg (by omega), IntKind.wrap_u64]
      omega
    have hq : IntKind.u64.wrap (Int.tdiv (n : Int) 10) = ((n / 10 : Nat) : Int) := by
      rw [Int.tdiv_eq_ediv_of_nonneg (by omega), IntKind.wrap_u64]
      omega
    have hc := strOfNums_one (n % 10) (by omega)
    have hz : (strOfNums [(48 + ((n % 10 : Nat) : Int)) % 256]).size = 1 := by rw [hc]; rfl
    have hgo : ((some ([(IntKind.u64.wrap (48 + Int.tmod (n : Int) 10)) % 256] : List Int)).bind fun y => if (strOfNums y).size + s.size ≤ 9223372036854775807 then depotref9_digits.l0 k (IntKind.u64.wrap (Int.tdiv (n : Int) 10)) (strOfNums y ++ s) else none) = some (dec n ++ s) := by
      rw [Option.bind_some, hw, hq, if_pos (by omega), hc]
      by_cases h10 : n < 10
      · have hn0 : n / 10 = 0 := by omega
        have hd : dec n = ⟨#[UInt8.ofNat (48 + n % 10)]⟩ := by
          unfold dec
          rw [Lib.decDigits, dif_pos h10, show n % 10 = n by omega]
        obtain ⟨k, rfl⟩ : ∃ j, k = j + 1 := ⟨k - 1, by omega⟩
        rw [hn0, hd]
        unfold depotref9_digits.l0
        rw [if_neg (by omega), if_neg (fun h => by have h1 := (tl_nil _).1 h; rw [ByteArray.size_append] at h1; have h2 : (⟨#[UInt8.ofNat (48 + n % 10)]⟩ : ByteArray).size = 1 := rfl; omega)]
      · have hb := Lib.nDigits_big h10
        rw [ih (n / 10) (by omega) (by omega) _ k (.inl (by omega)) (by rw [ByteArray.size_append]; have h2 : (⟨#[UInt8.ofNat (48 + n % 10)]⟩ : ByteArray).size = 1 := rfl; omega) (by omega)]
        congr 1
        have hd : dec n = dec (n / 10) ++ ⟨#[UInt8.ofNat (48 + n % 10)]⟩ := by
          unfold dec
          rw [Lib.decDigits, dif_neg h10]
          apply ByteArray.ext
          simp
        rw [hd, ByteArray.append_assoc]
    unfold depotref9_digits.l0
    by_cases h0 : 0 < n
    · rw [if_pos (by omega)]
      exact hgo
    · rw [if_neg (by omega), if_pos ((tl_nil s).2 (by omega))]
      exact hgo
theorem refDigits_calls (n : Nat) (hn : n < 18446744073709551616) (w : World) : Calls Tryd.prog 56 #[.int .u64 (n : Int)] w fun e w' => e = .returned (.string (dec n)) ∧ Below w.heap.size w w' := by
  have hd : Lib.nDigits n ≤ 20 := by
    by_cases h0 : n = 0
    · subst h0
      rw [Lib.nDigits_small (by omega)]
      omega
    · have := Lib.numDigits_eq n (by omega) hn
      split at this <;> omega
  refine depotref9_digits.calls 22 n (dec n) w ?_
  unfold depotref9_digits.f
  have := digits_l n hn ⟨#[]⟩ 22 (.inr rfl) (by have : (⟨#[]⟩ : ByteArray).size = 0 := rfl; omega) (by omega)
  rw [this]
  congr 1
  apply ByteArray.ext
  simp
theorem refDead_calls (x now : Int) (w : World) : Calls Tryd.prog 40 #[.int .i64 x, .int .i64 now] w fun e w' => e = .returned (.int .i64 (dead x now)) ∧ Below w.heap.size w w' := by
  refine Pr.depotref9_Deadline.calls x now _ w ?_
  unfold Pr.depotref9_Deadline.f dead
  by_cases h : x = 0
  · rw [if_pos h, if_pos h]
  · rw [if_neg h, if_neg h]
    by_cases h1 : x < 0
    · rw [if_pos h1, if_pos h1]
    · rw [if_neg h1, if_neg h1]
      by_cases h2 : x ≤ 2592000
      · rw [if_pos h2, if_pos h2]
        congr 1
        unfold tm mn mx wrap64
        repeat' split
        all_goals omega
      · rw [if_neg h2, if_neg h2]
        congr 1
        unfold tm mn
        repeat' split
        all_goals omega
set_option maxHeartbeats 4000000 in
set_option maxRecDepth 100000 in
theorem refSay_calls (k : Int) (w : World) : Calls Tryd.prog 41 #[.int .i64 k] w fun e w' => e = .returned (.agg (ans k 0 ⟨#[]⟩)) ∧ Below w.heap.size w w' := by
  go_enter Tryd.func41, Tryd.ntmps41
  go_wp2
  exact bodyPost_ret (results_cell_row rfl _ _ w.heap.size 32 _ (0, 0) _ rfl (blk_new w _) Tryd.underlying32 rfl (by kernel_rfl)) rfl ⟨rfl, below_alloc (Below.refl _ _) _⟩
end Go.Proofs.YtepklobkppdliaaDoor.Md
