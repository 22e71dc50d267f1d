/-
  No cell of these rows narrows 'for every input' (looked for: loops, veiled, ifaces, maps, wideKeys, modest, calm, conditions, laid).
  DERIVED. THE GIVEN ROWS OF THIS SEAT. 8 by the template 'for every input the law returns true; each argument reads behind the call as it read before'; 0 by the template 'total and deterministic' (their statements: YtiifekdcikcgpaaTotals.lean).
  GIVEN WITH THE SEED: the statements are not yours to turn. If you find one false, say at which input.
  Laid BY PROGRAM, IN A SANDBOX (cutbox-rows.mjs): the forced cells as the released guide's own fill.sh prints them over the translation c691145e89b987ea… (all of the seat's roots in one cut). By AI agents, Wed Nov 11 2026. No macro, syntax, notation, axiom, sorry.
-/
import Derived.Test.YtiifekdcikcgpaaChecked
import GoSem.Claim
import GoSem.ClaimJoined
import GoSem.ClaimMapViews
import Derived.JoinedTies
import Derived.KernelRfl
namespace Go.Proofs.Ytiifekdcikcgpaa
/- THE CELL 'sum', in the pinned program and in every row, IS THE sha256 OF THE DUMP (.gsa) THAT YtiifekdcikcgpaaProg.lean LOADS. Nothing in Lean hashes anything: it is a label: what it is worth is what the hold of that sum in a sandbox is worth. -/
noncomputable def Try.pinned : Pinned := { name := "ytiifekdcikcgpaa", sum := "c691145e89b987ea8471219dc4caed03e7eba997b953931f40a88842e80404e3", checked := Try.checked }
namespace Rows
def none {H : Type} : Left H := { results := [], args := [] }

/-- 'depotlaw11.WhenRuns': WHATEVER THE INPUT: true; the input reads as it did. -/
def whenRunsSpec : ChangeSpec := { name := "whenRuns", fn := fun _ => fun
  | [] => { results := [.lit (.bool true)], args := [] }
  | _ => none }
def whenRunsRow : OpenClaim := { program := "ytiifekdcikcgpaa", sum := "c691145e89b987ea8471219dc4caed03e7eba997b953931f40a88842e80404e3", func := "depot/depotlaw11.WhenRuns", spec := "whenRuns", apart := false }
def WhenRunsSaid : Prop := whenRunsRow.holds Try.pinned (OpenSpec.ofChange whenRunsSpec)

/-- ITS FALSE NEIGHBOUR: 'it returns false'. Refute it at one input. -/
def whenRunsWrong : ChangeSpec := { name := "whenRuns", fn := fun _ => fun
  | [] => { results := [.lit (.bool false)], args := [] }
  | _ => none }
def WhenRunsWrongFalsely : Prop := whenRunsRow.holds Try.pinned (OpenSpec.ofChange whenRunsWrong)

/-- 'depotlaw11.WhenTells': WHATEVER THE INPUT: true; the input reads as it did. -/
def whenTellsSpec : ChangeSpec := { name := "whenTells", fn := fun _ => fun
  | [d1, d2, d3, d4] => { results := [.lit (.bool true)], args := [d1, d2, d3, d4] }
  | _ => none }
def whenTellsRow : OpenClaim := { program := "ytiifekdcikcgpaa", sum := "c691145e89b987ea8471219dc4caed03e7eba997b953931f40a88842e80404e3", func := "depot/depotlaw11.WhenTells", spec := "whenTells", apart := false }
def WhenTellsSaid : Prop := whenTellsRow.holds Try.pinned (OpenSpec.ofChange whenTellsSpec)

/-- ITS FALSE NEIGHBOUR: 'it returns false'. Refute it at one input. -/
def whenTellsWrong : ChangeSpec := { name := "whenTells", fn := fun _ => fun
  | [d1, d2, d3, d4] => { results := [.lit (.bool false)], args := [d1, d2, d3, d4] }
  | _ => none }
def WhenTellsWrongFalsely : Prop := whenTellsRow.holds Try.pinned (OpenSpec.ofChange whenTellsWrong)

/-- 'depotlaw11.WhenOver': WHATEVER THE INPUT: true; the input reads as it did. -/
def whenOverSpec : ChangeSpec := { name := "whenOver", fn := fun _ => fun
  | [d1, d2, d3, d4] => { results := [.lit (.bool true)], args := [d1, d2, d3, d4] }
  | _ => none }
def whenOverRow : OpenClaim := { program := "ytiifekdcikcgpaa", sum := "c691145e89b987ea8471219dc4caed03e7eba997b953931f40a88842e80404e3", func := "depot/depotlaw11.WhenOver", spec := "whenOver", apart := false }
def WhenOverSaid : Prop := whenOverRow.holds Try.pinned (OpenSpec.ofChange whenOverSpec)

/-- ITS FALSE NEIGHBOUR: 'it returns false'. Refute it at one input. -/
def whenOverWrong : ChangeSpec := { name := "whenOver", fn := fun _ => fun
  | [d1, d2, d3, d4] => { results := [.lit (.bool false)], args := [d1, d2, d3, d4] }
  | _ => none }
def WhenOverWrongFalsely : Prop := whenOverRow.holds Try.pinned (OpenSpec.ofChange whenOverWrong)

/-- 'depotlaw11.WhenLater': WHATEVER THE INPUT: true; the input reads as it did. -/
def whenLaterSpec : ChangeSpec := { name := "whenLater", fn := fun _ => fun
  | [d1, d2, d3] => { results := [.lit (.bool true)], args := [d1, d2, d3] }
  | _ => none }
def whenLaterRow : OpenClaim := { program := "ytiifekdcikcgpaa", sum := "c691145e89b987ea8471219dc4caed03e7eba997b953931f40a88842e80404e3", func := "depot/depotlaw11.WhenLater", spec := "whenLater", apart := false }
def WhenLaterSaid : Prop := whenLaterRow.holds Try.pinned (OpenSpec.ofChange whenLaterSpec)

/-- ITS FALSE NEIGHBOUR: 'it returns false'. Refute it at one input. -/
def whenLaterWrong : ChangeSpec := { name := "whenLater", fn := fun _ => fun
  | [d1, d2, d3] => { results := [.lit (.bool false)], args := [d1, d2, d3] }
  | _ => none }
def WhenLaterWrongFalsely : Prop := whenLaterRow.holds Try.pinned (OpenSpec.ofChange whenLaterWrong)

/-- 'depotlaw10.NetRuns': WHATEVER THE INPUT: true; the input reads as it did. -/
def netRunsSpec : ChangeSpec := { name := "netRuns", fn := fun _ => fun
  | [] => { results := [.lit (.bool true)], args := [] }
  | _ => none }
def netRunsRow : OpenClaim := { program := "ytiifekdcikcgpaa", sum := "c691145e89b987ea8471219dc4caed03e7eba997b953931f40a88842e80404e3", func := "depot/depotlaw10.NetRuns", spec := "netRuns", apart := false }
def NetRunsSaid : Prop := netRunsRow.holds Try.pinned (OpenSpec.ofChange netRunsSpec)

/-- ITS FALSE NEIGHBOUR: 'it returns false'. Refute it at one input. -/
def netRunsWrong : ChangeSpec := { name := "netRuns", fn := fun _ => fun
  | [] => { results := [.lit (.bool false)], args := [] }
  | _ => none }
def NetRunsWrongFalsely : Prop := netRunsRow.holds Try.pinned (OpenSpec.ofChange netRunsWrong)

/-- 'depotlaw10.NetPlays': WHATEVER THE INPUT: true; the input reads as it did. -/
def netPlaysSpec : ChangeSpec := { name := "netPlays", fn := fun _ => fun
  | [d] => { results := [.lit (.bool true)], args := [d] }
  | _ => none }
def netPlaysRow : OpenClaim := { program := "ytiifekdcikcgpaa", sum := "c691145e89b987ea8471219dc4caed03e7eba997b953931f40a88842e80404e3", func := "depot/depotlaw10.NetPlays", spec := "netPlays", apart := false }
def NetPlaysSaid : Prop := netPlaysRow.holds Try.pinned (OpenSpec.ofChange netPlaysSpec)

/-- ITS FALSE NEIGHBOUR: 'it returns false'. Refute it at one input. -/
def netPlaysWrong : ChangeSpec := { name := "netPlays", fn := fun _ => fun
  | [d] => { results := [.lit (.bool false)], args := [d] }
  | _ => none }
def NetPlaysWrongFalsely : Prop := netPlaysRow.holds Try.pinned (OpenSpec.ofChange netPlaysWrong)

/-- 'depotlaw10.NetOnce': WHATEVER THE INPUT: true; the input reads as it did. -/
def netOnceSpec : ChangeSpec := { name := "netOnce", fn := fun _ => fun
  | [d1, d2] => { results := [.lit (.bool true)], args := [d1, d2] }
  | _ => none }
def netOnceRow : OpenClaim := { program := "ytiifekdcikcgpaa", sum := "c691145e89b987ea8471219dc4caed03e7eba997b953931f40a88842e80404e3", func := "depot/depotlaw10.NetOnce", spec := "netOnce", apart := false }
def NetOnceSaid : Prop := netOnceRow.holds Try.pinned (OpenSpec.ofChange netOnceSpec)

/-- ITS FALSE NEIGHBOUR: 'it returns false'. Refute it at one input. -/
def netOnceWrong : ChangeSpec := { name := "netOnce", fn := fun _ => fun
  | [d1, d2] => { results := [.lit (.bool false)], args := [d1, d2] }
  | _ => none }
def NetOnceWrongFalsely : Prop := netOnceRow.holds Try.pinned (OpenSpec.ofChange netOnceWrong)

/-- 'depotlaw10.NetOrder': WHATEVER THE INPUT: true; the input reads as it did. -/
def netOrderSpec : ChangeSpec := { name := "netOrder", fn := fun _ => fun
  | [d1, d2, d3] => { results := [.lit (.bool true)], args := [d1, d2, d3] }
  | _ => none }
def netOrderRow : OpenClaim := { program := "ytiifekdcikcgpaa", sum := "c691145e89b987ea8471219dc4caed03e7eba997b953931f40a88842e80404e3", func := "depot/depotlaw10.NetOrder", spec := "netOrder", apart := false }
def NetOrderSaid : Prop := netOrderRow.holds Try.pinned (OpenSpec.ofChange netOrderSpec)

/-- ITS FALSE NEIGHBOUR: 'it returns false'. Refute it at one input. -/
def netOrderWrong : ChangeSpec := { name := "netOrder", fn := fun _ => fun
  | [d1, d2, d3] => { results := [.lit (.bool false)], args := [d1, d2, d3] }
  | _ => none }
def NetOrderWrongFalsely : Prop := netOrderRow.holds Try.pinned (OpenSpec.ofChange netOrderWrong)

/- THE SECOND FORM. 'bulk': how many values and letters a reading holds, each counted each time it is reached (what is shared counts as often as it is met; a slice's spare places count too). A statement '..UptoSaid' is the law's where the arguments, and the package variables that the reading takes, are together of bulk at most 1048576: NARROWER than '..Said'. Prove '..Said' where nothing that the law and all that it calls make is longer than what came in: it says more and counts as full. Else prove '..UptoSaid'. A law counts once. -/
mutual
def uptoBulk {H : Type} : DataW H → Nat
  | .lit (.string bytes) => bytes.length + 1
  | .lit _ => 1
  | .nil => 1
  | .ptr d => uptoBulk d + 1
  | .slice elems spare => uptoBulkAll elems + uptoBulkAll spare + 1
  | .agg parts => uptoBulkAll parts + 1
  | .iface _ d => uptoBulk d + 1
  | .map entries => uptoBulkEntries entries + 1
  | .held _ => 1
def uptoBulkAll {H : Type} : List (DataW H) → Nat
  | [] => 0
  | d :: r => uptoBulk d + uptoBulkAll r
def uptoBulkEntries {H : Type} : List (Lit × DataW H) → Nat
  | [] => 0
  | x :: r => uptoBulkEntry x + uptoBulkEntries r
def uptoBulkEntry {H : Type} : Lit × DataW H → Nat
  | (.string bytes, d) => bytes.length + uptoBulk d + 1
  | (_, d) => uptoBulk d + 1
 end
def uptoSmall : (H : Type) → List (DataW H) → Bool := fun _ ds => decide (uptoBulkAll ds ≤ 1048576)
def OpenSpec.upto (s : _root_.Go.ChangeSpec) : _root_.Go.OpenSpec := { _root_.Go.OpenSpec.ofChange s with cond := some uptoSmall }

/-- 'depotlaw11.WhenRuns', WHERE WHAT IT READS IS OF BULK AT MOST 1048576: true; the input reads as it did. -/
def whenRunsUptoRow : OpenClaim := { program := "ytiifekdcikcgpaa", sum := "c691145e89b987ea8471219dc4caed03e7eba997b953931f40a88842e80404e3", func := "depot/depotlaw11.WhenRuns", spec := "whenRuns", apart := false, narrowed := true }
def WhenRunsUptoSaid : Prop := whenRunsUptoRow.holds Try.pinned (OpenSpec.upto whenRunsSpec)

/-- 'depotlaw11.WhenTells', WHERE WHAT IT READS IS OF BULK AT MOST 1048576: true; the input reads as it did. -/
def whenTellsUptoRow : OpenClaim := { program := "ytiifekdcikcgpaa", sum := "c691145e89b987ea8471219dc4caed03e7eba997b953931f40a88842e80404e3", func := "depot/depotlaw11.WhenTells", spec := "whenTells", apart := false, narrowed := true }
def WhenTellsUptoSaid : Prop := whenTellsUptoRow.holds Try.pinned (OpenSpec.upto whenTellsSpec)

/-- 'depotlaw11.WhenOver', WHERE WHAT IT READS IS OF BULK AT MOST 1048576: true; the input reads as it did. -/
def whenOverUptoRow : OpenClaim := { program := "ytiifekdcikcgpaa", sum := "c691145e89b987ea8471219dc4caed03e7eba997b953931f40a88842e80404e3", func := "depot/depotlaw11.WhenOver", spec := "whenOver", apart := false, narrowed := true }
def WhenOverUptoSaid : Prop := whenOverUptoRow.holds Try.pinned (OpenSpec.upto whenOverSpec)

/-- 'depotlaw11.WhenLater', WHERE WHAT IT READS IS OF BULK AT MOST 1048576: true; the input reads as it did. -/
def whenLaterUptoRow : OpenClaim := { program := "ytiifekdcikcgpaa", sum := "c691145e89b987ea8471219dc4caed03e7eba997b953931f40a88842e80404e3", func := "depot/depotlaw11.WhenLater", spec := "whenLater", apart := false, narrowed := true }
def WhenLaterUptoSaid : Prop := whenLaterUptoRow.holds Try.pinned (OpenSpec.upto whenLaterSpec)

/-- 'depotlaw10.NetRuns', WHERE WHAT IT READS IS OF BULK AT MOST 1048576: true; the input reads as it did. -/
def netRunsUptoRow : OpenClaim := { program := "ytiifekdcikcgpaa", sum := "c691145e89b987ea8471219dc4caed03e7eba997b953931f40a88842e80404e3", func := "depot/depotlaw10.NetRuns", spec := "netRuns", apart := false, narrowed := true }
def NetRunsUptoSaid : Prop := netRunsUptoRow.holds Try.pinned (OpenSpec.upto netRunsSpec)

/-- 'depotlaw10.NetPlays', WHERE WHAT IT READS IS OF BULK AT MOST 1048576: true; the input reads as it did. -/
def netPlaysUptoRow : OpenClaim := { program := "ytiifekdcikcgpaa", sum := "c691145e89b987ea8471219dc4caed03e7eba997b953931f40a88842e80404e3", func := "depot/depotlaw10.NetPlays", spec := "netPlays", apart := false, narrowed := true }
def NetPlaysUptoSaid : Prop := netPlaysUptoRow.holds Try.pinned (OpenSpec.upto netPlaysSpec)

/-- 'depotlaw10.NetOnce', WHERE WHAT IT READS IS OF BULK AT MOST 1048576: true; the input reads as it did. -/
def netOnceUptoRow : OpenClaim := { program := "ytiifekdcikcgpaa", sum := "c691145e89b987ea8471219dc4caed03e7eba997b953931f40a88842e80404e3", func := "depot/depotlaw10.NetOnce", spec := "netOnce", apart := false, narrowed := true }
def NetOnceUptoSaid : Prop := netOnceUptoRow.holds Try.pinned (OpenSpec.upto netOnceSpec)

/-- 'depotlaw10.NetOrder', WHERE WHAT IT READS IS OF BULK AT MOST 1048576: true; the input reads as it did. -/
def netOrderUptoRow : OpenClaim := { program := "ytiifekdcikcgpaa", sum := "c691145e89b987ea8471219dc4caed03e7eba997b953931f40a88842e80404e3", func := "depot/depotlaw10.NetOrder", spec := "netOrder", apart := false, narrowed := true }
def NetOrderUptoSaid : Prop := netOrderUptoRow.holds Try.pinned (OpenSpec.upto netOrderSpec)

end Rows
end Go.Proofs.Ytiifekdcikcgpaa
