/- The model: ModelRuns: what is told. -/
import Derived.Test.YtepklobkppdliaaDoorMd13
namespace Go.Proofs.YtepklobkppdliaaDoor.Md
open Go.RowKit Go.Proofs.YtepklobkppdliaaDoorW.PrintWords Go.Proofs.YtepklobkppdliaaDoorW.PrintLast Go.Proofs.YtepklobkppdliaaDoorW.PrintMore Go.Proofs.YtepklobkppdliaaDoor.Lib Go.Proofs.YtepklobkppdliaaDoor.Open
def kA : ByteArray := ⟨#[97]⟩
def eA : ByteArray := ⟨#[]⟩
def t5 : ByteArray := ⟨#[53]⟩
def t15 : ByteArray := ⟨#[49, 53]⟩
def f0 : ByteArray → Option Ent := fun _ => none
def f1 := upd f0 kA (some ⟨kA, 1, 0, t5, 1⟩)
def f2 := upd f1 kA (some ⟨kA, 1, 0, t15, 2⟩)
def f4 := upd f2 kA none
def f5 := upd f4 kA (some ⟨kA, 1, 110, t5, 7⟩)
theorem dec15 : dec 15 = t15 := by
  unfold dec
  rw [show Lib.decDigits 15 = [49, 53] by
    rw [Lib.decDigits, dif_neg (by decide), Lib.decDigits, dif_pos (by decide)]
    rfl]
  rfl
theorem a1 : applyTo f0 { rqOf 3 t5 0 with fl := 1 } kA 0 1 = (say 2, f1) := rfl
theorem num5 : numOf t5 = some 5 := by decide +kernel
theorem n2 : nextOf (rqOf 10 eA 10) ⟨kA, 1, 0, t5, 1⟩ true 0 2 = (⟨8, 15, ⟨#[]⟩⟩, ⟨kA, 1, 0, t15, 2⟩, true, false) := by
  have hn : numTo (rqOf 10 eA 10) 5 = 15 := by decide +kernel
  unfold nextOf
  rw [if_neg (by decide), if_neg (by decide), if_neg (by decide), if_neg (by decide), if_pos (by decide), if_pos rfl, if_neg (by decide), if_neg (by decide), if_neg (by decide)]
  have h5 : numOf (⟨kA, 1, 0, t5, 1⟩ : Ent).val = some 5 := num5
  rw [h5]
  show ((⟨8, (numTo (rqOf 10 eA 10) 5 : Int), ⟨#[]⟩⟩ : An), (⟨kA, 1, 0, dec (numTo (rqOf 10 eA 10) 5), 2⟩ : Ent), true, false) = _
  rw [hn, dec15]
  rfl
theorem l1 : liveOf f1 kA 0 = some ⟨kA, 1, 0, t5, 1⟩ := rfl
theorem a2 : applyTo f1 (rqOf 10 eA 10) kA 0 2 = (⟨8, 15, ⟨#[]⟩⟩, f2) := by
  unfold applyTo
  rw [l1]
  show ((nextOf (rqOf 10 eA 10) ⟨kA, 1, 0, t5, 1⟩ true 0 2).1, if (nextOf (rqOf 10 eA 10) ⟨kA, 1, 0, t5, 1⟩ true 0 2).2.2.1 = true then upd f1 kA (some (nextOf (rqOf 10 eA 10) ⟨kA, 1, 0, t5, 1⟩ true 0 2).2.1) else _) = _
  rw [n2]
  show ((⟨8, 15, ⟨#[]⟩⟩ : An), upd f1 kA (some ⟨kA, 1, 0, t15, 2⟩)) = _
  rfl
theorem g3 : founds f2 [kA] 0 = [⟨kA, 1, 0, t15, 2⟩] := rfl
theorem a4 : applyTo f2 (rqOf 4 eA 0) kA 0 4 = (say 3, f2) := rfl
theorem a5 : applyTo f2 (rqOf 9 eA 0) kA 0 5 = (say 6, f4) := rfl
theorem g6 : founds f4 [kA] 0 = [] := rfl
theorem a7 : applyTo f4 { rqOf 3 t5 0 with fl := 1, exp := 10 } kA 100 7 = (say 2, f5) := rfl
theorem g8 : founds f5 [kA] 109 = [⟨kA, 1, 110, t5, 7⟩] := rfl
theorem g9 : founds f5 [kA] 110 = [] := rfl
end Go.Proofs.YtepklobkppdliaaDoor.Md
