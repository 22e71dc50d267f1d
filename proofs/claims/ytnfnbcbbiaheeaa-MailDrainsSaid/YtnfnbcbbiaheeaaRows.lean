/-
  No cell of these rows narrows 'for every input' (looked for: loops, veiled, ifaces, maps, wideKeys, modest, calm, conditions, laid).
  DERIVED. THE GIVEN ROWS OF THIS SEAT. 8 by the template 'for every input the law returns true; each argument reads behind the call as it read before'; 0 by the template 'total and deterministic' (their statements: YtnfnbcbbiaheeaaTotals.lean).
  GIVEN WITH THE SEED: the statements are not yours to turn. If you find one false, say at which input.
  Laid BY PROGRAM, IN A SANDBOX (cutbox-rows.mjs): the forced cells as the released guide's own fill.sh prints them over the translation f6f6b5e7847363c7… (all of the seat's roots in one cut). By AI agents, Wed Nov 11 2026. No macro, syntax, notation, axiom, sorry.
-/
import Derived.Test.YtnfnbcbbiaheeaaChecked
import GoSem.Claim
import GoSem.ClaimJoined
import GoSem.ClaimMapViews
import Derived.JoinedTies
import Derived.KernelRfl
namespace Go.Proofs.Ytnfnbcbbiaheeaa
/- THE CELL 'sum', in the pinned program and in every row, IS THE sha256 OF THE DUMP (.gsa) THAT YtnfnbcbbiaheeaaProg.lean LOADS. Nothing in Lean hashes anything: it is a label: what it is worth is what the hold of that sum in a sandbox is worth. -/
noncomputable def Try.pinned : Pinned := { name := "ytnfnbcbbiaheeaa", sum := "f6f6b5e7847363c7c1c9651c8294cadc03ffb2773a1d6e5030873191a05f801b", checked := Try.checked }
namespace Rows
def none {H : Type} : Left H := { results := [], args := [] }

/-- 'depotlaw18.ViewRuns': WHATEVER THE INPUT: true; the input reads as it did. -/
def viewRunsSpec : ChangeSpec := { name := "viewRuns", fn := fun _ => fun
  | [] => { results := [.lit (.bool true)], args := [] }
  | _ => none }
def viewRunsRow : OpenClaim := { program := "ytnfnbcbbiaheeaa", sum := "f6f6b5e7847363c7c1c9651c8294cadc03ffb2773a1d6e5030873191a05f801b", func := "depot/depotlaw18.ViewRuns", spec := "viewRuns", apart := false }
def ViewRunsSaid : Prop := viewRunsRow.holds Try.pinned (OpenSpec.ofChange viewRunsSpec)

/-- ITS FALSE NEIGHBOUR: 'it returns false'. Refute it at one input. -/
def viewRunsWrong : ChangeSpec := { name := "viewRuns", fn := fun _ => fun
  | [] => { results := [.lit (.bool false)], args := [] }
  | _ => none }
def ViewRunsWrongFalsely : Prop := viewRunsRow.holds Try.pinned (OpenSpec.ofChange viewRunsWrong)

/-- 'depotlaw18.ViewPlays': WHATEVER THE INPUT: true; the input reads as it did. -/
def viewPlaysSpec : ChangeSpec := { name := "viewPlays", fn := fun _ => fun
  | [d1, d2, d3] => { results := [.lit (.bool true)], args := [d1, d2, d3] }
  | _ => none }
def viewPlaysRow : OpenClaim := { program := "ytnfnbcbbiaheeaa", sum := "f6f6b5e7847363c7c1c9651c8294cadc03ffb2773a1d6e5030873191a05f801b", func := "depot/depotlaw18.ViewPlays", spec := "viewPlays", apart := false }
def ViewPlaysSaid : Prop := viewPlaysRow.holds Try.pinned (OpenSpec.ofChange viewPlaysSpec)

/-- ITS FALSE NEIGHBOUR: 'it returns false'. Refute it at one input. -/
def viewPlaysWrong : ChangeSpec := { name := "viewPlays", fn := fun _ => fun
  | [d1, d2, d3] => { results := [.lit (.bool false)], args := [d1, d2, d3] }
  | _ => none }
def ViewPlaysWrongFalsely : Prop := viewPlaysRow.holds Try.pinned (OpenSpec.ofChange viewPlaysWrong)

/-- 'depotlaw18.ViewUp': WHATEVER THE INPUT: true; the input reads as it did. -/
def viewUpSpec : ChangeSpec := { name := "viewUp", fn := fun _ => fun
  | [d1, d2, d3] => { results := [.lit (.bool true)], args := [d1, d2, d3] }
  | _ => none }
def viewUpRow : OpenClaim := { program := "ytnfnbcbbiaheeaa", sum := "f6f6b5e7847363c7c1c9651c8294cadc03ffb2773a1d6e5030873191a05f801b", func := "depot/depotlaw18.ViewUp", spec := "viewUp", apart := false }
def ViewUpSaid : Prop := viewUpRow.holds Try.pinned (OpenSpec.ofChange viewUpSpec)

/-- ITS FALSE NEIGHBOUR: 'it returns false'. Refute it at one input. -/
def viewUpWrong : ChangeSpec := { name := "viewUp", fn := fun _ => fun
  | [d1, d2, d3] => { results := [.lit (.bool false)], args := [d1, d2, d3] }
  | _ => none }
def ViewUpWrongFalsely : Prop := viewUpRow.holds Try.pinned (OpenSpec.ofChange viewUpWrong)

/-- 'depotlaw18.ViewFew': WHATEVER THE INPUT: true; the input reads as it did. -/
def viewFewSpec : ChangeSpec := { name := "viewFew", fn := fun _ => fun
  | [d1, d2, d3] => { results := [.lit (.bool true)], args := [d1, d2, d3] }
  | _ => none }
def viewFewRow : OpenClaim := { program := "ytnfnbcbbiaheeaa", sum := "f6f6b5e7847363c7c1c9651c8294cadc03ffb2773a1d6e5030873191a05f801b", func := "depot/depotlaw18.ViewFew", spec := "viewFew", apart := false }
def ViewFewSaid : Prop := viewFewRow.holds Try.pinned (OpenSpec.ofChange viewFewSpec)

/-- ITS FALSE NEIGHBOUR: 'it returns false'. Refute it at one input. -/
def viewFewWrong : ChangeSpec := { name := "viewFew", fn := fun _ => fun
  | [d1, d2, d3] => { results := [.lit (.bool false)], args := [d1, d2, d3] }
  | _ => none }
def ViewFewWrongFalsely : Prop := viewFewRow.holds Try.pinned (OpenSpec.ofChange viewFewWrong)

/-- 'depotlaw8.MailRuns': WHATEVER THE INPUT: true; the input reads as it did. -/
def mailRunsSpec : ChangeSpec := { name := "mailRuns", fn := fun _ => fun
  | [] => { results := [.lit (.bool true)], args := [] }
  | _ => none }
def mailRunsRow : OpenClaim := { program := "ytnfnbcbbiaheeaa", sum := "f6f6b5e7847363c7c1c9651c8294cadc03ffb2773a1d6e5030873191a05f801b", func := "depot/depotlaw8.MailRuns", spec := "mailRuns", apart := false }
def MailRunsSaid : Prop := mailRunsRow.holds Try.pinned (OpenSpec.ofChange mailRunsSpec)

/-- ITS FALSE NEIGHBOUR: 'it returns false'. Refute it at one input. -/
def mailRunsWrong : ChangeSpec := { name := "mailRuns", fn := fun _ => fun
  | [] => { results := [.lit (.bool false)], args := [] }
  | _ => none }
def MailRunsWrongFalsely : Prop := mailRunsRow.holds Try.pinned (OpenSpec.ofChange mailRunsWrong)

/-- 'depotlaw8.MailPlays': WHATEVER THE INPUT: true; the input reads as it did. -/
def mailPlaysSpec : ChangeSpec := { name := "mailPlays", fn := fun _ => fun
  | [d1, d2] => { results := [.lit (.bool true)], args := [d1, d2] }
  | _ => none }
def mailPlaysRow : OpenClaim := { program := "ytnfnbcbbiaheeaa", sum := "f6f6b5e7847363c7c1c9651c8294cadc03ffb2773a1d6e5030873191a05f801b", func := "depot/depotlaw8.MailPlays", spec := "mailPlays", apart := false }
def MailPlaysSaid : Prop := mailPlaysRow.holds Try.pinned (OpenSpec.ofChange mailPlaysSpec)

/-- ITS FALSE NEIGHBOUR: 'it returns false'. Refute it at one input. -/
def mailPlaysWrong : ChangeSpec := { name := "mailPlays", fn := fun _ => fun
  | [d1, d2] => { results := [.lit (.bool false)], args := [d1, d2] }
  | _ => none }
def MailPlaysWrongFalsely : Prop := mailPlaysRow.holds Try.pinned (OpenSpec.ofChange mailPlaysWrong)

/-- 'depotlaw8.MailDrains': WHATEVER THE INPUT: true; the input reads as it did. -/
def mailDrainsSpec : ChangeSpec := { name := "mailDrains", fn := fun _ => fun
  | [d1, d2] => { results := [.lit (.bool true)], args := [d1, d2] }
  | _ => none }
def mailDrainsRow : OpenClaim := { program := "ytnfnbcbbiaheeaa", sum := "f6f6b5e7847363c7c1c9651c8294cadc03ffb2773a1d6e5030873191a05f801b", func := "depot/depotlaw8.MailDrains", spec := "mailDrains", apart := false }
def MailDrainsSaid : Prop := mailDrainsRow.holds Try.pinned (OpenSpec.ofChange mailDrainsSpec)

/-- ITS FALSE NEIGHBOUR: 'it returns false'. Refute it at one input. -/
def mailDrainsWrong : ChangeSpec := { name := "mailDrains", fn := fun _ => fun
  | [d1, d2] => { results := [.lit (.bool false)], args := [d1, d2] }
  | _ => none }
def MailDrainsWrongFalsely : Prop := mailDrainsRow.holds Try.pinned (OpenSpec.ofChange mailDrainsWrong)

/-- 'depotlaw8.MailFair': WHATEVER THE INPUT: true; the input reads as it did. -/
def mailFairSpec : ChangeSpec := { name := "mailFair", fn := fun _ => fun
  | [d1, d2, d3] => { results := [.lit (.bool true)], args := [d1, d2, d3] }
  | _ => none }
def mailFairRow : OpenClaim := { program := "ytnfnbcbbiaheeaa", sum := "f6f6b5e7847363c7c1c9651c8294cadc03ffb2773a1d6e5030873191a05f801b", func := "depot/depotlaw8.MailFair", spec := "mailFair", apart := false }
def MailFairSaid : Prop := mailFairRow.holds Try.pinned (OpenSpec.ofChange mailFairSpec)

/-- ITS FALSE NEIGHBOUR: 'it returns false'. Refute it at one input. -/
def mailFairWrong : ChangeSpec := { name := "mailFair", fn := fun _ => fun
  | [d1, d2, d3] => { results := [.lit (.bool false)], args := [d1, d2, d3] }
  | _ => none }
def MailFairWrongFalsely : Prop := mailFairRow.holds Try.pinned (OpenSpec.ofChange mailFairWrong)

/- THE SECOND FORM. 'bulk': how many values and letters a reading holds, each counted each time it is reached (what is shared counts as often as it is met; a slice's spare places count too). A statement '..UptoSaid' is the law's where the arguments, and the package variables that the reading takes, are together of bulk at most 1048576: NARROWER than '..Said'. Prove '..Said' where nothing that the law and all that it calls make is longer than what came in: it says more and counts as full. Else prove '..UptoSaid'. A law counts once. -/
mutual
def uptoBulk {H : Type} : DataW H → Nat
  | .lit (.string bytes) => bytes.length + 1
  | .lit _ => 1
  | .nil => 1
  | .ptr d => uptoBulk d + 1
  | .slice elems spare => uptoBulkAll elems + uptoBulkAll spare + 1
  | .agg parts => uptoBulkAll parts + 1
  | .iface _ d => uptoBulk d + 1
  | .map entries => uptoBulkEntries entries + 1
  | .held _ => 1
def uptoBulkAll {H : Type} : List (DataW H) → Nat
  | [] => 0
  | d :: r => uptoBulk d + uptoBulkAll r
def uptoBulkEntries {H : Type} : List (Lit × DataW H) → Nat
  | [] => 0
  | x :: r => uptoBulkEntry x + uptoBulkEntries r
def uptoBulkEntry {H : Type} : Lit × DataW H → Nat
  | (.string bytes, d) => bytes.length + uptoBulk d + 1
  | (_, d) => uptoBulk d + 1
 end
def uptoSmall : (H : Type) → List (DataW H) → Bool := fun _ ds => decide (uptoBulkAll ds ≤ 1048576)
def OpenSpec.upto (s : _root_.Go.ChangeSpec) : _root_.Go.OpenSpec := { _root_.Go.OpenSpec.ofChange s with cond := some uptoSmall }

/-- 'depotlaw18.ViewRuns', WHERE WHAT IT READS IS OF BULK AT MOST 1048576: true; the input reads as it did. -/
def viewRunsUptoRow : OpenClaim := { program := "ytnfnbcbbiaheeaa", sum := "f6f6b5e7847363c7c1c9651c8294cadc03ffb2773a1d6e5030873191a05f801b", func := "depot/depotlaw18.ViewRuns", spec := "viewRuns", apart := false, narrowed := true }
def ViewRunsUptoSaid : Prop := viewRunsUptoRow.holds Try.pinned (OpenSpec.upto viewRunsSpec)

/-- 'depotlaw18.ViewPlays', WHERE WHAT IT READS IS OF BULK AT MOST 1048576: true; the input reads as it did. -/
def viewPlaysUptoRow : OpenClaim := { program := "ytnfnbcbbiaheeaa", sum := "f6f6b5e7847363c7c1c9651c8294cadc03ffb2773a1d6e5030873191a05f801b", func := "depot/depotlaw18.ViewPlays", spec := "viewPlays", apart := false, narrowed := true }
def ViewPlaysUptoSaid : Prop := viewPlaysUptoRow.holds Try.pinned (OpenSpec.upto viewPlaysSpec)

/-- 'depotlaw18.ViewUp', WHERE WHAT IT READS IS OF BULK AT MOST 1048576: true; the input reads as it did. -/
def viewUpUptoRow : OpenClaim := { program := "ytnfnbcbbiaheeaa", sum := "f6f6b5e7847363c7c1c9651c8294cadc03ffb2773a1d6e5030873191a05f801b", func := "depot/depotlaw18.ViewUp", spec := "viewUp", apart := false, narrowed := true }
def ViewUpUptoSaid : Prop := viewUpUptoRow.holds Try.pinned (OpenSpec.upto viewUpSpec)

/-- 'depotlaw18.ViewFew', WHERE WHAT IT READS IS OF BULK AT MOST 1048576: true; the input reads as it did. -/
def viewFewUptoRow : OpenClaim := { program := "ytnfnbcbbiaheeaa", sum := "f6f6b5e7847363c7c1c9651c8294cadc03ffb2773a1d6e5030873191a05f801b", func := "depot/depotlaw18.ViewFew", spec := "viewFew", apart := false, narrowed := true }
def ViewFewUptoSaid : Prop := viewFewUptoRow.holds Try.pinned (OpenSpec.upto viewFewSpec)

/-- 'depotlaw8.MailRuns', WHERE WHAT IT READS IS OF BULK AT MOST 1048576: true; the input reads as it did. -/
def mailRunsUptoRow : OpenClaim := { program := "ytnfnbcbbiaheeaa", sum := "f6f6b5e7847363c7c1c9651c8294cadc03ffb2773a1d6e5030873191a05f801b", func := "depot/depotlaw8.MailRuns", spec := "mailRuns", apart := false, narrowed := true }
def MailRunsUptoSaid : Prop := mailRunsUptoRow.holds Try.pinned (OpenSpec.upto mailRunsSpec)

/-- 'depotlaw8.MailPlays', WHERE WHAT IT READS IS OF BULK AT MOST 1048576: true; the input reads as it did. -/
def mailPlaysUptoRow : OpenClaim := { program := "ytnfnbcbbiaheeaa", sum := "f6f6b5e7847363c7c1c9651c8294cadc03ffb2773a1d6e5030873191a05f801b", func := "depot/depotlaw8.MailPlays", spec := "mailPlays", apart := false, narrowed := true }
def MailPlaysUptoSaid : Prop := mailPlaysUptoRow.holds Try.pinned (OpenSpec.upto mailPlaysSpec)

/-- 'depotlaw8.MailDrains', WHERE WHAT IT READS IS OF BULK AT MOST 1048576: true; the input reads as it did. -/
def mailDrainsUptoRow : OpenClaim := { program := "ytnfnbcbbiaheeaa", sum := "f6f6b5e7847363c7c1c9651c8294cadc03ffb2773a1d6e5030873191a05f801b", func := "depot/depotlaw8.MailDrains", spec := "mailDrains", apart := false, narrowed := true }
def MailDrainsUptoSaid : Prop := mailDrainsUptoRow.holds Try.pinned (OpenSpec.upto mailDrainsSpec)

/-- 'depotlaw8.MailFair', WHERE WHAT IT READS IS OF BULK AT MOST 1048576: true; the input reads as it did. -/
def mailFairUptoRow : OpenClaim := { program := "ytnfnbcbbiaheeaa", sum := "f6f6b5e7847363c7c1c9651c8294cadc03ffb2773a1d6e5030873191a05f801b", func := "depot/depotlaw8.MailFair", spec := "mailFair", apart := false, narrowed := true }
def MailFairUptoSaid : Prop := mailFairUptoRow.holds Try.pinned (OpenSpec.upto mailFairSpec)

end Rows
end Go.Proofs.Ytnfnbcbbiaheeaa
