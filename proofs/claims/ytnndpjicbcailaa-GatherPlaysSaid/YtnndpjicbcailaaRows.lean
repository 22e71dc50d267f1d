/-
  No cell of these rows narrows 'for every input' (looked for: loops, veiled, ifaces, maps, wideKeys, modest, calm, conditions, laid).
  DERIVED. THE GIVEN ROWS OF THIS SEAT. 4 by the template 'for every input the law returns true; each argument reads behind the call as it read before'; 0 by the template 'total and deterministic' (their statements: YtnndpjicbcailaaTotals.lean).
  GIVEN WITH THE SEED: the statements are not yours to turn. If you find one false, say at which input.
  Laid BY PROGRAM, IN A SANDBOX (cutbox-rows.mjs): the forced cells as the released guide's own fill.sh prints them over the translation 484be9ac949f30f9… (all of the seat's roots in one cut). By AI agents, Wed Nov 11 2026. No macro, syntax, notation, axiom, sorry.
-/
import Derived.Test.YtnndpjicbcailaaChecked
import GoSem.Claim
import GoSem.ClaimJoined
import GoSem.ClaimMapViews
import Derived.JoinedTies
import Derived.KernelRfl
namespace Go.Proofs.Ytnndpjicbcailaa
/- THE CELL 'sum', in the pinned program and in every row, IS THE sha256 OF THE DUMP (.gsa) THAT YtnndpjicbcailaaProg.lean LOADS. Nothing in Lean hashes anything: it is a label: what it is worth is what the hold of that sum in a sandbox is worth. -/
noncomputable def Try.pinned : Pinned := { name := "ytnndpjicbcailaa", sum := "484be9ac949f30f9a1154191e223b3489d280343aec8a7b67bdc1dd23a3a4519", checked := Try.checked }
namespace Rows
def none {H : Type} : Left H := { results := [], args := [] }

/-- 'depotlaw20.GatherRuns': WHATEVER THE INPUT: true; the input reads as it did. -/
def gatherRunsSpec : ChangeSpec := { name := "gatherRuns", fn := fun _ => fun
  | [] => { results := [.lit (.bool true)], args := [] }
  | _ => none }
def gatherRunsRow : OpenClaim := { program := "ytnndpjicbcailaa", sum := "484be9ac949f30f9a1154191e223b3489d280343aec8a7b67bdc1dd23a3a4519", func := "depot/depotlaw20.GatherRuns", spec := "gatherRuns", apart := false }
def GatherRunsSaid : Prop := gatherRunsRow.holds Try.pinned (OpenSpec.ofChange gatherRunsSpec)

/-- ITS FALSE NEIGHBOUR: 'it returns false'. Refute it at one input. -/
def gatherRunsWrong : ChangeSpec := { name := "gatherRuns", fn := fun _ => fun
  | [] => { results := [.lit (.bool false)], args := [] }
  | _ => none }
def GatherRunsWrongFalsely : Prop := gatherRunsRow.holds Try.pinned (OpenSpec.ofChange gatherRunsWrong)

/-- 'depotlaw20.GatherPlays': WHATEVER THE INPUT: true; the input reads as it did. -/
def gatherPlaysSpec : ChangeSpec := { name := "gatherPlays", fn := fun _ => fun
  | [d1, d2, d3, d4] => { results := [.lit (.bool true)], args := [d1, d2, d3, d4] }
  | _ => none }
def gatherPlaysRow : OpenClaim := { program := "ytnndpjicbcailaa", sum := "484be9ac949f30f9a1154191e223b3489d280343aec8a7b67bdc1dd23a3a4519", func := "depot/depotlaw20.GatherPlays", spec := "gatherPlays", apart := false }
def GatherPlaysSaid : Prop := gatherPlaysRow.holds Try.pinned (OpenSpec.ofChange gatherPlaysSpec)

/-- ITS FALSE NEIGHBOUR: 'it returns false'. Refute it at one input. -/
def gatherPlaysWrong : ChangeSpec := { name := "gatherPlays", fn := fun _ => fun
  | [d1, d2, d3, d4] => { results := [.lit (.bool false)], args := [d1, d2, d3, d4] }
  | _ => none }
def GatherPlaysWrongFalsely : Prop := gatherPlaysRow.holds Try.pinned (OpenSpec.ofChange gatherPlaysWrong)

/-- 'depotlaw20.GatherLate': WHATEVER THE INPUT: true; the input reads as it did. -/
def gatherLateSpec : ChangeSpec := { name := "gatherLate", fn := fun _ => fun
  | [d1, d2, d3, d4, d5] => { results := [.lit (.bool true)], args := [d1, d2, d3, d4, d5] }
  | _ => none }
def gatherLateRow : OpenClaim := { program := "ytnndpjicbcailaa", sum := "484be9ac949f30f9a1154191e223b3489d280343aec8a7b67bdc1dd23a3a4519", func := "depot/depotlaw20.GatherLate", spec := "gatherLate", apart := false }
def GatherLateSaid : Prop := gatherLateRow.holds Try.pinned (OpenSpec.ofChange gatherLateSpec)

/-- ITS FALSE NEIGHBOUR: 'it returns false'. Refute it at one input. -/
def gatherLateWrong : ChangeSpec := { name := "gatherLate", fn := fun _ => fun
  | [d1, d2, d3, d4, d5] => { results := [.lit (.bool false)], args := [d1, d2, d3, d4, d5] }
  | _ => none }
def GatherLateWrongFalsely : Prop := gatherLateRow.holds Try.pinned (OpenSpec.ofChange gatherLateWrong)

/-- 'depotlaw20.GatherAsks': WHATEVER THE INPUT: true; the input reads as it did. -/
def gatherAsksSpec : ChangeSpec := { name := "gatherAsks", fn := fun _ => fun
  | [d1, d2, d3, d4] => { results := [.lit (.bool true)], args := [d1, d2, d3, d4] }
  | _ => none }
def gatherAsksRow : OpenClaim := { program := "ytnndpjicbcailaa", sum := "484be9ac949f30f9a1154191e223b3489d280343aec8a7b67bdc1dd23a3a4519", func := "depot/depotlaw20.GatherAsks", spec := "gatherAsks", apart := false }
def GatherAsksSaid : Prop := gatherAsksRow.holds Try.pinned (OpenSpec.ofChange gatherAsksSpec)

/-- ITS FALSE NEIGHBOUR: 'it returns false'. Refute it at one input. -/
def gatherAsksWrong : ChangeSpec := { name := "gatherAsks", fn := fun _ => fun
  | [d1, d2, d3, d4] => { results := [.lit (.bool false)], args := [d1, d2, d3, d4] }
  | _ => none }
def GatherAsksWrongFalsely : Prop := gatherAsksRow.holds Try.pinned (OpenSpec.ofChange gatherAsksWrong)

/- THE SECOND FORM. 'bulk': how many values and letters a reading holds, each counted each time it is reached (what is shared counts as often as it is met; a slice's spare places count too). A statement '..UptoSaid' is the law's where the arguments, and the package variables that the reading takes, are together of bulk at most 1048576: NARROWER than '..Said'. Prove '..Said' where nothing that the law and all that it calls make is longer than what came in: it says more and counts as full. Else prove '..UptoSaid'. A law counts once. -/
mutual
def uptoBulk {H : Type} : DataW H → Nat
  | .lit (.string bytes) => bytes.length + 1
  | .lit _ => 1
  | .nil => 1
  | .ptr d => uptoBulk d + 1
  | .slice elems spare => uptoBulkAll elems + uptoBulkAll spare + 1
  | .agg parts => uptoBulkAll parts + 1
  | .iface _ d => uptoBulk d + 1
  | .map entries => uptoBulkEntries entries + 1
  | .held _ => 1
def uptoBulkAll {H : Type} : List (DataW H) → Nat
  | [] => 0
  | d :: r => uptoBulk d + uptoBulkAll r
def uptoBulkEntries {H : Type} : List (Lit × DataW H) → Nat
  | [] => 0
  | x :: r => uptoBulkEntry x + uptoBulkEntries r
def uptoBulkEntry {H : Type} : Lit × DataW H → Nat
  | (.string bytes, d) => bytes.length + uptoBulk d + 1
  | (_, d) => uptoBulk d + 1
 end
def uptoSmall : (H : Type) → List (DataW H) → Bool := fun _ ds => decide (uptoBulkAll ds ≤ 1048576)
def OpenSpec.upto (s : _root_.Go.ChangeSpec) : _root_.Go.OpenSpec := { _root_.Go.OpenSpec.ofChange s with cond := some uptoSmall }

/-- 'depotlaw20.GatherRuns', WHERE WHAT IT READS IS OF BULK AT MOST 1048576: true; the input reads as it did. -/
def gatherRunsUptoRow : OpenClaim := { program := "ytnndpjicbcailaa", sum := "484be9ac949f30f9a1154191e223b3489d280343aec8a7b67bdc1dd23a3a4519", func := "depot/depotlaw20.GatherRuns", spec := "gatherRuns", apart := false, narrowed := true }
def GatherRunsUptoSaid : Prop := gatherRunsUptoRow.holds Try.pinned (OpenSpec.upto gatherRunsSpec)

/-- 'depotlaw20.GatherPlays', WHERE WHAT IT READS IS OF BULK AT MOST 1048576: true; the input reads as it did. -/
def gatherPlaysUptoRow : OpenClaim := { program := "ytnndpjicbcailaa", sum := "484be9ac949f30f9a1154191e223b3489d280343aec8a7b67bdc1dd23a3a4519", func := "depot/depotlaw20.GatherPlays", spec := "gatherPlays", apart := false, narrowed := true }
def GatherPlaysUptoSaid : Prop := gatherPlaysUptoRow.holds Try.pinned (OpenSpec.upto gatherPlaysSpec)

/-- 'depotlaw20.GatherLate', WHERE WHAT IT READS IS OF BULK AT MOST 1048576: true; the input reads as it did. -/
def gatherLateUptoRow : OpenClaim := { program := "ytnndpjicbcailaa", sum := "484be9ac949f30f9a1154191e223b3489d280343aec8a7b67bdc1dd23a3a4519", func := "depot/depotlaw20.GatherLate", spec := "gatherLate", apart := false, narrowed := true }
def GatherLateUptoSaid : Prop := gatherLateUptoRow.holds Try.pinned (OpenSpec.upto gatherLateSpec)

/-- 'depotlaw20.GatherAsks', WHERE WHAT IT READS IS OF BULK AT MOST 1048576: true; the input reads as it did. -/
def gatherAsksUptoRow : OpenClaim := { program := "ytnndpjicbcailaa", sum := "484be9ac949f30f9a1154191e223b3489d280343aec8a7b67bdc1dd23a3a4519", func := "depot/depotlaw20.GatherAsks", spec := "gatherAsks", apart := false, narrowed := true }
def GatherAsksUptoSaid : Prop := gatherAsksUptoRow.holds Try.pinned (OpenSpec.upto gatherAsksSpec)

end Rows
end Go.Proofs.Ytnndpjicbcailaa
