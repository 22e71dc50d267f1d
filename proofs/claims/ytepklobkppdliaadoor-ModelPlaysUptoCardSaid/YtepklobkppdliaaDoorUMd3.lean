/- The model: the number that digits tell. -/
import Derived.Test.YtepklobkppdliaaDoorUAb
import Derived.Test.YtepklobkppdliaaDoorUPr
import Derived.IntWalk
namespace Go.Proofs.YtepklobkppdliaaDoor.Md
open Go.RowKit Go.Proofs.YtepklobkppdliaaDoorW.PrintWords Go.Proofs.YtepklobkppdliaaDoorW.PrintLast Go.Proofs.YtepklobkppdliaaDoorW.PrintMore Go.Proofs.YtepklobkppdliaaDoor.Lib Go.Proofs.YtepklobkppdliaaDoor.Open
/-- A number out of digits. -/
def numGo : List UInt8 → Int → Option Int
  | [], n => some n
  | c :: l, n => if (c.toNat : Int) < 48 ∨ 57 < (c.toNat : Int) then none else if (18446744073709551615 - ((c.toNat : Int) - 48)) / 10 < n then none else numGo l (10 * n + ((c.toNat : Int) - 48))
def numOf (s : ByteArray) : Option Int := if s.size < 1 ∨ 20 < s.size then none else numGo s.data.toList 0
def nout : Option Int → Int × Bool
  | none => (0, false)
  | some n => (n, true)
theorem bt_data (s : ByteArray) (i : Nat) (h : i < s.size) : bt s (i : Int) = ((s.data.toList[i]'(by simpa using h)).toNat : Int) := by
  unfold bt
  rw [dif_pos (show ((i : Int)).toNat < s.size by omega)]
  simp [ByteArray.getElem_eq_getElem_data]
theorem numGo_bd : ∀ (l : List UInt8) (n m : Int), 0 ≤ n → n ≤ 18446744073709551615 → numGo l n = some m → 0 ≤ m ∧ m ≤ 18446744073709551615
  | [], n, m, h0, h1, h => by
    simp only [numGo, Option.some.injEq] at h
    omega
  | c :: l, n, m, h0, h1, h => by
    unfold numGo at h
    split at h
    · cases h
    · split at h
      · cases h
      · exact numGo_bd l _ m (by omega) (by omega) h
theorem numOf_bd {s : ByteArray} {m : Int} (h : numOf s = some m) : 0 ≤ m ∧ m ≤ 18446744073709551615 := by
  unfold numOf at h
  split at h
  · cases h
  · exact numGo_bd _ 0 m (by omega) (by omega) h
theorem number_l (s : ByteArray) (hs : s.size ≤ 20) : ∀ (d i : Nat) (n : Int), i + d = s.size → 0 ≤ n → n ≤ 18446744073709551615 →
    Pr.words_Number.l0 (2 * d + 1) s 18446744073709551615 n (s.size : Int) (i : Int) = some (nout (numGo (s.data.toList.drop i) n)) := by
  intro d
  induction d with
  | zero =>
    intro i n hi h0 h1
    unfold Pr.words_Number.l0
    rw [if_neg (by omega), if_neg (by omega), List.drop_eq_nil_of_le (by simp; omega)]
    rfl
  | succ d ih =>
    intro i n hi h0 h1
    have hlt : i < s.size := by omega
    have hb := bt_data s i hlt
    have hr := bt_range s (i : Int)
    have hl : i < s.data.toList.length := by simpa using hlt
    have hd : s.data.toList.drop i = s.data.toList[i] :: s.data.toList.drop (i + 1) := List.drop_eq_getElem_cons hl
    rw [hd]
    obtain ⟨b, hbb⟩ : ∃ b, b = bt s (i : Int) := ⟨_, rfl⟩
    rw [show 2 * (d + 1) + 1 = (2 * d + 1 + 1) + 1 by omega]
    unfold Pr.words_Number.l0 numGo
    rw [if_pos (by omega), if_pos (by omega), if_pos (by omega), ← hb, ← hbb]
    rw [← hbb] at hr
    by_cases c1 : b < 48
    · rw [if_pos c1, if_pos (.inl c1)]
      unfold Pr.words_Number.j2
      rw [if_pos rfl]
      rfl
    · rw [if_neg c1]
      by_cases c2 : 57 < b
      · rw [if_pos (.inr c2), decide_eq_true c2]
        unfold Pr.words_Number.j2
        rw [if_pos rfl]
        rfl
      · rw [if_neg (by omega), decide_eq_false (by omega)]
        unfold Pr.words_Number.j2
        rw [if_neg (by decide), show (b - 48) % 256 = b - 48 by omega]
        by_cases c3 : (18446744073709551615 - (b - 48)) / 10 < n
        · rw [if_pos c3, if_pos c3]
          rfl
        · rw [if_neg c3, if_neg c3]
          have e1 : IntKind.u64.wrap (IntKind.u64.wrap (10 * n) + (b - 48)) = 10 * n + (b - 48) := by
            have w1 : ∀ x : Int, 0 ≤ x → x ≤ 18446744073709551615 → IntKind.u64.wrap x = x := fun x a c => IntWalk.u64_in x (by omega)
            rw [w1 (10 * n) (by omega) (by omega), w1 _ (by omega) (by omega)]
          have e2 : wrap64 ((i : Int) + 1) = ((i + 1 : Nat) : Int) := by unfold wrap64; omega
          rw [e1, e2]
          exact ih (i + 1) _ (by omega) (by omega) (by omega)
theorem number_f (s : ByteArray) : Pr.words_Number.f 42 s 18446744073709551615 = some (nout (numOf s)) := by
  unfold Pr.words_Number.f numOf
  by_cases h1 : s.size < 1
  · rw [if_pos (by omega), if_pos (.inl h1)]
    rfl
  · rw [if_neg (by omega)]
    by_cases h2 : 20 < s.size
    · rw [decide_eq_true (by omega), if_pos (.inr h2)]
      rfl
    · rw [decide_eq_false (by omega), if_neg (by omega)]
      show (if false = true then some (0, false) else Pr.words_Number.l0 41 s 18446744073709551615 0 (s.size : Int) 0) = _
      rw [if_neg (by decide)]
      have := number_l s (by omega) s.size 0 0 (by omega) (by omega) (by omega)
      exact at_rounds (g := fun k => Pr.words_Number.l0 k s 18446744073709551615 0 (s.size : Int) 0) (fun k => (Pr.words_Number.mono_l k).2.1 _ _ _ _ _) (show 2 * s.size + 1 ≤ 41 by omega) this
theorem number_calls (s : ByteArray) (w : World) : Calls Tryd.prog 54 #[.string s, .int .u64 18446744073709551615] w fun e w' => e = .returned (.tuple #[.int .u64 (nout (numOf s)).1, .bool (nout (numOf s)).2]) ∧ Drawn0 w w' :=
  Pr.words_Number.calls 42 s _ _ _ w (number_f s)
theorem live_calls (d now : Int) (w : World) : Calls Tryd.prog 52 #[.int .i64 d, .int .i64 now] w fun e w' => e = .returned (.bool (live d now)) ∧ Drawn0 w w' := by
  refine Pr.when_Live.calls d now _ w ?_
  unfold Pr.when_Live.f live
  by_cases h : d = 0
  · rw [if_pos h, decide_eq_true (.inl h)]
  · rw [if_neg h]
    by_cases h2 : d > 0
    · rw [if_pos h2]
      congr 1
      rw [decide_eq_decide]
      constructor
      · intro h3
        exact .inr ⟨h2, h3⟩
      · rintro (h3 | h3)
        · exact absurd h3 h
        · exact h3.2
    · rw [if_neg h2, decide_eq_false (by omega)]
end Go.Proofs.YtepklobkppdliaaDoor.Md
