/- The model: what Next leaves has a size. -/
import Derived.Test.YtepklobkppdliaaDoorVMd8
namespace Go.Proofs.YtepklobkppdliaaDoor.Md
open Go.RowKit Go.Proofs.YtepklobkppdliaaDoorW.PrintWords Go.Proofs.YtepklobkppdliaaDoorW.PrintLast Go.Proofs.YtepklobkppdliaaDoorW.PrintMore Go.Proofs.YtepklobkppdliaaDoor.Lib Go.Proofs.YtepklobkppdliaaDoor.Open
theorem dec_size (m : Nat) (h : m < 18446744073709551616) : (dec m).size ≤ 20 := by
  show (Lib.decDigits m).toArray.size ≤ 20
  rw [List.size_toArray, Lib.decDigits_length]
  by_cases h0 : m = 0
  · subst h0
    rw [Lib.nDigits_small (by omega)]
    omega
  · have := Lib.numDigits_eq m (by omega) h
    split at this <;> omega
theorem numTo_lt (r : Rq) (e : Ent) (n : Int) (h : numOf e.val = some n) (hF : Fine r e) : numTo r n < 18446744073709551616 := by
  have hb := numOf_bd h
  have := hF.d0
  unfold numTo
  split
  · have : IntKind.u64.wrap (n + r.delta) < 18446744073709551616 := by rw [IntKind.wrap_u64]; omega
    omega
  · omega
theorem next_fine (r : Rq) (e : Ent) (there : Bool) (now ver : Int) (hF : Fine r e) : (nextOf r e there now ver).2.1.val.size ≤ 140737488355328 ∧ ((nextOf r e there now ver).2.2.1 = true → (nextOf r e there now ver).2.2.2 = false) := by
  have hv := hF.v
  have hd := hF.d
  have hf : (fresh r e now ver).val.size ≤ 140737488355328 := hd
  unfold nextOf
  split
  · exact ⟨hf, fun _ => rfl⟩
  split
  · split
    · exact ⟨hv, fun _ => rfl⟩
    · exact ⟨hf, fun _ => rfl⟩
  split
  · split
    · exact ⟨hf, fun _ => rfl⟩
    · exact ⟨hv, fun _ => rfl⟩
  split
  · split
    · split
      · exact ⟨hv, fun _ => rfl⟩
      · refine ⟨?_, fun _ => rfl⟩
        show (if r.verb = 6 then e.val ++ r.data else r.data ++ e.val).size ≤ _
        split
        · rw [ByteArray.size_append]; omega
        · rw [ByteArray.size_append]; omega
    · exact ⟨hv, fun _ => rfl⟩
  split
  · split
    · split
      · split
        · exact ⟨hf, fun _ => rfl⟩
        · exact ⟨hv, fun _ => rfl⟩
      split
      · exact ⟨hv, fun h => by cases h⟩
      split
      · exact ⟨hv, fun _ => rfl⟩
      · cases h : numOf e.val with
        | none => exact ⟨hv, fun _ => rfl⟩
        | some n => exact ⟨Nat.le_trans (dec_size _ (numTo_lt r e n h hF)) (by omega), fun _ => rfl⟩
    · exact ⟨hv, fun _ => rfl⟩
  · exact ⟨hv, fun _ => rfl⟩
end Go.Proofs.YtepklobkppdliaaDoor.Md
