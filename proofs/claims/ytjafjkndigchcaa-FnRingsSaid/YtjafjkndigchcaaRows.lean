/-
  No cell of these rows narrows 'for every input' (looked for: loops, veiled, ifaces, maps, wideKeys, modest, calm, conditions, laid).
  DERIVED. THE GIVEN ROWS OF THIS SEAT. 14 by the template 'for every input the law returns true; each argument reads behind the call as it read before'; 0 by the template 'total and deterministic' (their statements: YtjafjkndigchcaaTotals.lean).
  GIVEN WITH THE SEED: the statements are not yours to turn. If you find one false, say at which input.
  Laid BY PROGRAM, IN A SANDBOX (cutbox-rows.mjs): the forced cells as the released guide's own fill.sh prints them over the translation 7656e69ac956a878… (all of the seat's roots in one cut). By AI agents, Wed Nov 11 2026. No macro, syntax, notation, axiom, sorry.
-/
import Derived.Test.YtjafjkndigchcaaChecked
import GoSem.Claim
import GoSem.ClaimJoined
import GoSem.ClaimMapViews
import Derived.JoinedTies
import Derived.KernelRfl
namespace Go.Proofs.Ytjafjkndigchcaa
/- THE CELL 'sum', in the pinned program and in every row, IS THE sha256 OF THE DUMP (.gsa) THAT YtjafjkndigchcaaProg.lean LOADS. Nothing in Lean hashes anything: it is a label: what it is worth is what the hold of that sum in a sandbox is worth. -/
noncomputable def Try.pinned : Pinned := { name := "ytjafjkndigchcaa", sum := "7656e69ac956a878f647f45a26959d9b6c52d563614565fd5e0d708ad2cb3247", checked := Try.checked }
namespace Rows
def none {H : Type} : Left H := { results := [], args := [] }

/-- 'laws.FnExactValidRing': WHATEVER THE INPUT: true; the input reads as it did. -/
def fnExactValidRingSpec : ChangeSpec := { name := "fnExactValidRing", fn := fun _ => fun
  | [d] => { results := [.lit (.bool true)], args := [d] }
  | _ => none }
def fnExactValidRingRow : OpenClaim := { program := "ytjafjkndigchcaa", sum := "7656e69ac956a878f647f45a26959d9b6c52d563614565fd5e0d708ad2cb3247", func := "loop.example/g01042/laws.FnExactValidRing", spec := "fnExactValidRing", apart := false }
def FnExactValidRingSaid : Prop := fnExactValidRingRow.holds Try.pinned (OpenSpec.ofChange fnExactValidRingSpec)

/-- ITS FALSE NEIGHBOUR: 'it returns false'. Refute it at one input. -/
def fnExactValidRingWrong : ChangeSpec := { name := "fnExactValidRing", fn := fun _ => fun
  | [d] => { results := [.lit (.bool false)], args := [d] }
  | _ => none }
def FnExactValidRingWrongFalsely : Prop := fnExactValidRingRow.holds Try.pinned (OpenSpec.ofChange fnExactValidRingWrong)

/-- 'laws.FnArcs': WHATEVER THE INPUT: true; the input reads as it did. -/
def fnArcsSpec : ChangeSpec := { name := "fnArcs", fn := fun _ => fun
  | [d] => { results := [.lit (.bool true)], args := [d] }
  | _ => none }
def fnArcsRow : OpenClaim := { program := "ytjafjkndigchcaa", sum := "7656e69ac956a878f647f45a26959d9b6c52d563614565fd5e0d708ad2cb3247", func := "loop.example/g01042/laws.FnArcs", spec := "fnArcs", apart := false }
def FnArcsSaid : Prop := fnArcsRow.holds Try.pinned (OpenSpec.ofChange fnArcsSpec)

/-- ITS FALSE NEIGHBOUR: 'it returns false'. Refute it at one input. -/
def fnArcsWrong : ChangeSpec := { name := "fnArcs", fn := fun _ => fun
  | [d] => { results := [.lit (.bool false)], args := [d] }
  | _ => none }
def FnArcsWrongFalsely : Prop := fnArcsRow.holds Try.pinned (OpenSpec.ofChange fnArcsWrong)

/-- 'laws.FnExactFlatBricks': WHATEVER THE INPUT: true; the input reads as it did. -/
def fnExactFlatBricksSpec : ChangeSpec := { name := "fnExactFlatBricks", fn := fun _ => fun
  | [d1, d2, d3, d4] => { results := [.lit (.bool true)], args := [d1, d2, d3, d4] }
  | _ => none }
def fnExactFlatBricksRow : OpenClaim := { program := "ytjafjkndigchcaa", sum := "7656e69ac956a878f647f45a26959d9b6c52d563614565fd5e0d708ad2cb3247", func := "loop.example/g01042/laws.FnExactFlatBricks", spec := "fnExactFlatBricks", apart := false }
def FnExactFlatBricksSaid : Prop := fnExactFlatBricksRow.holds Try.pinned (OpenSpec.ofChange fnExactFlatBricksSpec)

/-- ITS FALSE NEIGHBOUR: 'it returns false'. Refute it at one input. -/
def fnExactFlatBricksWrong : ChangeSpec := { name := "fnExactFlatBricks", fn := fun _ => fun
  | [d1, d2, d3, d4] => { results := [.lit (.bool false)], args := [d1, d2, d3, d4] }
  | _ => none }
def FnExactFlatBricksWrongFalsely : Prop := fnExactFlatBricksRow.holds Try.pinned (OpenSpec.ofChange fnExactFlatBricksWrong)

/-- 'laws.FnExactBricksIn': WHATEVER THE INPUT: true; the input reads as it did. -/
def fnExactBricksInSpec : ChangeSpec := { name := "fnExactBricksIn", fn := fun _ => fun
  | [d] => { results := [.lit (.bool true)], args := [d] }
  | _ => none }
def fnExactBricksInRow : OpenClaim := { program := "ytjafjkndigchcaa", sum := "7656e69ac956a878f647f45a26959d9b6c52d563614565fd5e0d708ad2cb3247", func := "loop.example/g01042/laws.FnExactBricksIn", spec := "fnExactBricksIn", apart := false }
def FnExactBricksInSaid : Prop := fnExactBricksInRow.holds Try.pinned (OpenSpec.ofChange fnExactBricksInSpec)

/-- ITS FALSE NEIGHBOUR: 'it returns false'. Refute it at one input. -/
def fnExactBricksInWrong : ChangeSpec := { name := "fnExactBricksIn", fn := fun _ => fun
  | [d] => { results := [.lit (.bool false)], args := [d] }
  | _ => none }
def FnExactBricksInWrongFalsely : Prop := fnExactBricksInRow.holds Try.pinned (OpenSpec.ofChange fnExactBricksInWrong)

/-- 'laws.FnExactRadiusOf': WHATEVER THE INPUT: true; the input reads as it did. -/
def fnExactRadiusOfSpec : ChangeSpec := { name := "fnExactRadiusOf", fn := fun _ => fun
  | [d1, d2] => { results := [.lit (.bool true)], args := [d1, d2] }
  | _ => none }
def fnExactRadiusOfRow : OpenClaim := { program := "ytjafjkndigchcaa", sum := "7656e69ac956a878f647f45a26959d9b6c52d563614565fd5e0d708ad2cb3247", func := "loop.example/g01042/laws.FnExactRadiusOf", spec := "fnExactRadiusOf", apart := false }
def FnExactRadiusOfSaid : Prop := fnExactRadiusOfRow.holds Try.pinned (OpenSpec.ofChange fnExactRadiusOfSpec)

/-- ITS FALSE NEIGHBOUR: 'it returns false'. Refute it at one input. -/
def fnExactRadiusOfWrong : ChangeSpec := { name := "fnExactRadiusOf", fn := fun _ => fun
  | [d1, d2] => { results := [.lit (.bool false)], args := [d1, d2] }
  | _ => none }
def FnExactRadiusOfWrongFalsely : Prop := fnExactRadiusOfRow.holds Try.pinned (OpenSpec.ofChange fnExactRadiusOfWrong)

/-- 'laws.FnFlats': WHATEVER THE INPUT: true; the input reads as it did. -/
def fnFlatsSpec : ChangeSpec := { name := "fnFlats", fn := fun _ => fun
  | [d] => { results := [.lit (.bool true)], args := [d] }
  | _ => none }
def fnFlatsRow : OpenClaim := { program := "ytjafjkndigchcaa", sum := "7656e69ac956a878f647f45a26959d9b6c52d563614565fd5e0d708ad2cb3247", func := "loop.example/g01042/laws.FnFlats", spec := "fnFlats", apart := false }
def FnFlatsSaid : Prop := fnFlatsRow.holds Try.pinned (OpenSpec.ofChange fnFlatsSpec)

/-- ITS FALSE NEIGHBOUR: 'it returns false'. Refute it at one input. -/
def fnFlatsWrong : ChangeSpec := { name := "fnFlats", fn := fun _ => fun
  | [d] => { results := [.lit (.bool false)], args := [d] }
  | _ => none }
def FnFlatsWrongFalsely : Prop := fnFlatsRow.holds Try.pinned (OpenSpec.ofChange fnFlatsWrong)

/-- 'laws.FnExactArcPoint': WHATEVER THE INPUT: true; the input reads as it did. -/
def fnExactArcPointSpec : ChangeSpec := { name := "fnExactArcPoint", fn := fun _ => fun
  | [d1, d2, d3] => { results := [.lit (.bool true)], args := [d1, d2, d3] }
  | _ => none }
def fnExactArcPointRow : OpenClaim := { program := "ytjafjkndigchcaa", sum := "7656e69ac956a878f647f45a26959d9b6c52d563614565fd5e0d708ad2cb3247", func := "loop.example/g01042/laws.FnExactArcPoint", spec := "fnExactArcPoint", apart := false }
def FnExactArcPointSaid : Prop := fnExactArcPointRow.holds Try.pinned (OpenSpec.ofChange fnExactArcPointSpec)

/-- ITS FALSE NEIGHBOUR: 'it returns false'. Refute it at one input. -/
def fnExactArcPointWrong : ChangeSpec := { name := "fnExactArcPoint", fn := fun _ => fun
  | [d1, d2, d3] => { results := [.lit (.bool false)], args := [d1, d2, d3] }
  | _ => none }
def FnExactArcPointWrongFalsely : Prop := fnExactArcPointRow.holds Try.pinned (OpenSpec.ofChange fnExactArcPointWrong)

/-- 'laws.FnExactLeanOf': WHATEVER THE INPUT: true; the input reads as it did. -/
def fnExactLeanOfSpec : ChangeSpec := { name := "fnExactLeanOf", fn := fun _ => fun
  | [d1, d2, d3] => { results := [.lit (.bool true)], args := [d1, d2, d3] }
  | _ => none }
def fnExactLeanOfRow : OpenClaim := { program := "ytjafjkndigchcaa", sum := "7656e69ac956a878f647f45a26959d9b6c52d563614565fd5e0d708ad2cb3247", func := "loop.example/g01042/laws.FnExactLeanOf", spec := "fnExactLeanOf", apart := false }
def FnExactLeanOfSaid : Prop := fnExactLeanOfRow.holds Try.pinned (OpenSpec.ofChange fnExactLeanOfSpec)

/-- ITS FALSE NEIGHBOUR: 'it returns false'. Refute it at one input. -/
def fnExactLeanOfWrong : ChangeSpec := { name := "fnExactLeanOf", fn := fun _ => fun
  | [d1, d2, d3] => { results := [.lit (.bool false)], args := [d1, d2, d3] }
  | _ => none }
def FnExactLeanOfWrongFalsely : Prop := fnExactLeanOfRow.holds Try.pinned (OpenSpec.ofChange fnExactLeanOfWrong)

/-- 'laws.FnExactInnerLength': WHATEVER THE INPUT: true; the input reads as it did. -/
def fnExactInnerLengthSpec : ChangeSpec := { name := "fnExactInnerLength", fn := fun _ => fun
  | [d] => { results := [.lit (.bool true)], args := [d] }
  | _ => none }
def fnExactInnerLengthRow : OpenClaim := { program := "ytjafjkndigchcaa", sum := "7656e69ac956a878f647f45a26959d9b6c52d563614565fd5e0d708ad2cb3247", func := "loop.example/g01042/laws.FnExactInnerLength", spec := "fnExactInnerLength", apart := false }
def FnExactInnerLengthSaid : Prop := fnExactInnerLengthRow.holds Try.pinned (OpenSpec.ofChange fnExactInnerLengthSpec)

/-- ITS FALSE NEIGHBOUR: 'it returns false'. Refute it at one input. -/
def fnExactInnerLengthWrong : ChangeSpec := { name := "fnExactInnerLength", fn := fun _ => fun
  | [d] => { results := [.lit (.bool false)], args := [d] }
  | _ => none }
def FnExactInnerLengthWrongFalsely : Prop := fnExactInnerLengthRow.holds Try.pinned (OpenSpec.ofChange fnExactInnerLengthWrong)

/-- 'laws.FnExactFlatWidths': WHATEVER THE INPUT: true; the input reads as it did. -/
def fnExactFlatWidthsSpec : ChangeSpec := { name := "fnExactFlatWidths", fn := fun _ => fun
  | [d1, d2, d3, d4] => { results := [.lit (.bool true)], args := [d1, d2, d3, d4] }
  | _ => none }
def fnExactFlatWidthsRow : OpenClaim := { program := "ytjafjkndigchcaa", sum := "7656e69ac956a878f647f45a26959d9b6c52d563614565fd5e0d708ad2cb3247", func := "loop.example/g01042/laws.FnExactFlatWidths", spec := "fnExactFlatWidths", apart := false }
def FnExactFlatWidthsSaid : Prop := fnExactFlatWidthsRow.holds Try.pinned (OpenSpec.ofChange fnExactFlatWidthsSpec)

/-- ITS FALSE NEIGHBOUR: 'it returns false'. Refute it at one input. -/
def fnExactFlatWidthsWrong : ChangeSpec := { name := "fnExactFlatWidths", fn := fun _ => fun
  | [d1, d2, d3, d4] => { results := [.lit (.bool false)], args := [d1, d2, d3, d4] }
  | _ => none }
def FnExactFlatWidthsWrongFalsely : Prop := fnExactFlatWidthsRow.holds Try.pinned (OpenSpec.ofChange fnExactFlatWidthsWrong)

/-- 'laws.FnExactTaperOf': WHATEVER THE INPUT: true; the input reads as it did. -/
def fnExactTaperOfSpec : ChangeSpec := { name := "fnExactTaperOf", fn := fun _ => fun
  | [d] => { results := [.lit (.bool true)], args := [d] }
  | _ => none }
def fnExactTaperOfRow : OpenClaim := { program := "ytjafjkndigchcaa", sum := "7656e69ac956a878f647f45a26959d9b6c52d563614565fd5e0d708ad2cb3247", func := "loop.example/g01042/laws.FnExactTaperOf", spec := "fnExactTaperOf", apart := false }
def FnExactTaperOfSaid : Prop := fnExactTaperOfRow.holds Try.pinned (OpenSpec.ofChange fnExactTaperOfSpec)

/-- ITS FALSE NEIGHBOUR: 'it returns false'. Refute it at one input. -/
def fnExactTaperOfWrong : ChangeSpec := { name := "fnExactTaperOf", fn := fun _ => fun
  | [d] => { results := [.lit (.bool false)], args := [d] }
  | _ => none }
def FnExactTaperOfWrongFalsely : Prop := fnExactTaperOfRow.holds Try.pinned (OpenSpec.ofChange fnExactTaperOfWrong)

/-- 'laws.FnRings': WHATEVER THE INPUT: true; the input reads as it did. -/
def fnRingsSpec : ChangeSpec := { name := "fnRings", fn := fun _ => fun
  | [d] => { results := [.lit (.bool true)], args := [d] }
  | _ => none }
def fnRingsRow : OpenClaim := { program := "ytjafjkndigchcaa", sum := "7656e69ac956a878f647f45a26959d9b6c52d563614565fd5e0d708ad2cb3247", func := "loop.example/g01042/laws.FnRings", spec := "fnRings", apart := false }
def FnRingsSaid : Prop := fnRingsRow.holds Try.pinned (OpenSpec.ofChange fnRingsSpec)

/-- ITS FALSE NEIGHBOUR: 'it returns false'. Refute it at one input. -/
def fnRingsWrong : ChangeSpec := { name := "fnRings", fn := fun _ => fun
  | [d] => { results := [.lit (.bool false)], args := [d] }
  | _ => none }
def FnRingsWrongFalsely : Prop := fnRingsRow.holds Try.pinned (OpenSpec.ofChange fnRingsWrong)

/-- 'laws.FnExactJointsOf': WHATEVER THE INPUT: true; the input reads as it did. -/
def fnExactJointsOfSpec : ChangeSpec := { name := "fnExactJointsOf", fn := fun _ => fun
  | [d] => { results := [.lit (.bool true)], args := [d] }
  | _ => none }
def fnExactJointsOfRow : OpenClaim := { program := "ytjafjkndigchcaa", sum := "7656e69ac956a878f647f45a26959d9b6c52d563614565fd5e0d708ad2cb3247", func := "loop.example/g01042/laws.FnExactJointsOf", spec := "fnExactJointsOf", apart := false }
def FnExactJointsOfSaid : Prop := fnExactJointsOfRow.holds Try.pinned (OpenSpec.ofChange fnExactJointsOfSpec)

/-- ITS FALSE NEIGHBOUR: 'it returns false'. Refute it at one input. -/
def fnExactJointsOfWrong : ChangeSpec := { name := "fnExactJointsOf", fn := fun _ => fun
  | [d] => { results := [.lit (.bool false)], args := [d] }
  | _ => none }
def FnExactJointsOfWrongFalsely : Prop := fnExactJointsOfRow.holds Try.pinned (OpenSpec.ofChange fnExactJointsOfWrong)

/-- 'laws.FnExactMustTaper': WHATEVER THE INPUT: true; the input reads as it did. -/
def fnExactMustTaperSpec : ChangeSpec := { name := "fnExactMustTaper", fn := fun _ => fun
  | [d1, d2] => { results := [.lit (.bool true)], args := [d1, d2] }
  | _ => none }
def fnExactMustTaperRow : OpenClaim := { program := "ytjafjkndigchcaa", sum := "7656e69ac956a878f647f45a26959d9b6c52d563614565fd5e0d708ad2cb3247", func := "loop.example/g01042/laws.FnExactMustTaper", spec := "fnExactMustTaper", apart := false }
def FnExactMustTaperSaid : Prop := fnExactMustTaperRow.holds Try.pinned (OpenSpec.ofChange fnExactMustTaperSpec)

/-- ITS FALSE NEIGHBOUR: 'it returns false'. Refute it at one input. -/
def fnExactMustTaperWrong : ChangeSpec := { name := "fnExactMustTaper", fn := fun _ => fun
  | [d1, d2] => { results := [.lit (.bool false)], args := [d1, d2] }
  | _ => none }
def FnExactMustTaperWrongFalsely : Prop := fnExactMustTaperRow.holds Try.pinned (OpenSpec.ofChange fnExactMustTaperWrong)

/- THE SECOND FORM. 'bulk': how many values and letters a reading holds, each counted each time it is reached (what is shared counts as often as it is met; a slice's spare places count too). A statement '..UptoSaid' is the law's where the arguments, and the package variables that the reading takes, are together of bulk at most 1048576: NARROWER than '..Said'. Prove '..Said' where nothing that the law and all that it calls make is longer than what came in: it says more and counts as full. Else prove '..UptoSaid'. A law counts once. -/
mutual
def uptoBulk {H : Type} : DataW H → Nat
  | .lit (.string bytes) => bytes.length + 1
  | .lit _ => 1
  | .nil => 1
  | .ptr d => uptoBulk d + 1
  | .slice elems spare => uptoBulkAll elems + uptoBulkAll spare + 1
  | .agg parts => uptoBulkAll parts + 1
  | .iface _ d => uptoBulk d + 1
  | .map entries => uptoBulkEntries entries + 1
  | .held _ => 1
def uptoBulkAll {H : Type} : List (DataW H) → Nat
  | [] => 0
  | d :: r => uptoBulk d + uptoBulkAll r
def uptoBulkEntries {H : Type} : List (Lit × DataW H) → Nat
  | [] => 0
  | x :: r => uptoBulkEntry x + uptoBulkEntries r
def uptoBulkEntry {H : Type} : Lit × DataW H → Nat
  | (.string bytes, d) => bytes.length + uptoBulk d + 1
  | (_, d) => uptoBulk d + 1
 end
def uptoSmall : (H : Type) → List (DataW H) → Bool := fun _ ds => decide (uptoBulkAll ds ≤ 1048576)
def OpenSpec.upto (s : _root_.Go.ChangeSpec) : _root_.Go.OpenSpec := { _root_.Go.OpenSpec.ofChange s with cond := some uptoSmall }

/-- 'laws.FnExactValidRing', WHERE WHAT IT READS IS OF BULK AT MOST 1048576: true; the input reads as it did. -/
def fnExactValidRingUptoRow : OpenClaim := { program := "ytjafjkndigchcaa", sum := "7656e69ac956a878f647f45a26959d9b6c52d563614565fd5e0d708ad2cb3247", func := "loop.example/g01042/laws.FnExactValidRing", spec := "fnExactValidRing", apart := false, narrowed := true }
def FnExactValidRingUptoSaid : Prop := fnExactValidRingUptoRow.holds Try.pinned (OpenSpec.upto fnExactValidRingSpec)

/-- 'laws.FnArcs', WHERE WHAT IT READS IS OF BULK AT MOST 1048576: true; the input reads as it did. -/
def fnArcsUptoRow : OpenClaim := { program := "ytjafjkndigchcaa", sum := "7656e69ac956a878f647f45a26959d9b6c52d563614565fd5e0d708ad2cb3247", func := "loop.example/g01042/laws.FnArcs", spec := "fnArcs", apart := false, narrowed := true }
def FnArcsUptoSaid : Prop := fnArcsUptoRow.holds Try.pinned (OpenSpec.upto fnArcsSpec)

/-- 'laws.FnExactFlatBricks', WHERE WHAT IT READS IS OF BULK AT MOST 1048576: true; the input reads as it did. -/
def fnExactFlatBricksUptoRow : OpenClaim := { program := "ytjafjkndigchcaa", sum := "7656e69ac956a878f647f45a26959d9b6c52d563614565fd5e0d708ad2cb3247", func := "loop.example/g01042/laws.FnExactFlatBricks", spec := "fnExactFlatBricks", apart := false, narrowed := true }
def FnExactFlatBricksUptoSaid : Prop := fnExactFlatBricksUptoRow.holds Try.pinned (OpenSpec.upto fnExactFlatBricksSpec)

/-- 'laws.FnExactBricksIn', WHERE WHAT IT READS IS OF BULK AT MOST 1048576: true; the input reads as it did. -/
def fnExactBricksInUptoRow : OpenClaim := { program := "ytjafjkndigchcaa", sum := "7656e69ac956a878f647f45a26959d9b6c52d563614565fd5e0d708ad2cb3247", func := "loop.example/g01042/laws.FnExactBricksIn", spec := "fnExactBricksIn", apart := false, narrowed := true }
def FnExactBricksInUptoSaid : Prop := fnExactBricksInUptoRow.holds Try.pinned (OpenSpec.upto fnExactBricksInSpec)

/-- 'laws.FnExactRadiusOf', WHERE WHAT IT READS IS OF BULK AT MOST 1048576: true; the input reads as it did. -/
def fnExactRadiusOfUptoRow : OpenClaim := { program := "ytjafjkndigchcaa", sum := "7656e69ac956a878f647f45a26959d9b6c52d563614565fd5e0d708ad2cb3247", func := "loop.example/g01042/laws.FnExactRadiusOf", spec := "fnExactRadiusOf", apart := false, narrowed := true }
def FnExactRadiusOfUptoSaid : Prop := fnExactRadiusOfUptoRow.holds Try.pinned (OpenSpec.upto fnExactRadiusOfSpec)

/-- 'laws.FnFlats', WHERE WHAT IT READS IS OF BULK AT MOST 1048576: true; the input reads as it did. -/
def fnFlatsUptoRow : OpenClaim := { program := "ytjafjkndigchcaa", sum := "7656e69ac956a878f647f45a26959d9b6c52d563614565fd5e0d708ad2cb3247", func := "loop.example/g01042/laws.FnFlats", spec := "fnFlats", apart := false, narrowed := true }
def FnFlatsUptoSaid : Prop := fnFlatsUptoRow.holds Try.pinned (OpenSpec.upto fnFlatsSpec)

/-- 'laws.FnExactArcPoint', WHERE WHAT IT READS IS OF BULK AT MOST 1048576: true; the input reads as it did. -/
def fnExactArcPointUptoRow : OpenClaim := { program := "ytjafjkndigchcaa", sum := "7656e69ac956a878f647f45a26959d9b6c52d563614565fd5e0d708ad2cb3247", func := "loop.example/g01042/laws.FnExactArcPoint", spec := "fnExactArcPoint", apart := false, narrowed := true }
def FnExactArcPointUptoSaid : Prop := fnExactArcPointUptoRow.holds Try.pinned (OpenSpec.upto fnExactArcPointSpec)

/-- 'laws.FnExactLeanOf', WHERE WHAT IT READS IS OF BULK AT MOST 1048576: true; the input reads as it did. -/
def fnExactLeanOfUptoRow : OpenClaim := { program := "ytjafjkndigchcaa", sum := "7656e69ac956a878f647f45a26959d9b6c52d563614565fd5e0d708ad2cb3247", func := "loop.example/g01042/laws.FnExactLeanOf", spec := "fnExactLeanOf", apart := false, narrowed := true }
def FnExactLeanOfUptoSaid : Prop := fnExactLeanOfUptoRow.holds Try.pinned (OpenSpec.upto fnExactLeanOfSpec)

/-- 'laws.FnExactInnerLength', WHERE WHAT IT READS IS OF BULK AT MOST 1048576: true; the input reads as it did. -/
def fnExactInnerLengthUptoRow : OpenClaim := { program := "ytjafjkndigchcaa", sum := "7656e69ac956a878f647f45a26959d9b6c52d563614565fd5e0d708ad2cb3247", func := "loop.example/g01042/laws.FnExactInnerLength", spec := "fnExactInnerLength", apart := false, narrowed := true }
def FnExactInnerLengthUptoSaid : Prop := fnExactInnerLengthUptoRow.holds Try.pinned (OpenSpec.upto fnExactInnerLengthSpec)

/-- 'laws.FnExactFlatWidths', WHERE WHAT IT READS IS OF BULK AT MOST 1048576: true; the input reads as it did. -/
def fnExactFlatWidthsUptoRow : OpenClaim := { program := "ytjafjkndigchcaa", sum := "7656e69ac956a878f647f45a26959d9b6c52d563614565fd5e0d708ad2cb3247", func := "loop.example/g01042/laws.FnExactFlatWidths", spec := "fnExactFlatWidths", apart := false, narrowed := true }
def FnExactFlatWidthsUptoSaid : Prop := fnExactFlatWidthsUptoRow.holds Try.pinned (OpenSpec.upto fnExactFlatWidthsSpec)

/-- 'laws.FnExactTaperOf', WHERE WHAT IT READS IS OF BULK AT MOST 1048576: true; the input reads as it did. -/
def fnExactTaperOfUptoRow : OpenClaim := { program := "ytjafjkndigchcaa", sum := "7656e69ac956a878f647f45a26959d9b6c52d563614565fd5e0d708ad2cb3247", func := "loop.example/g01042/laws.FnExactTaperOf", spec := "fnExactTaperOf", apart := false, narrowed := true }
def FnExactTaperOfUptoSaid : Prop := fnExactTaperOfUptoRow.holds Try.pinned (OpenSpec.upto fnExactTaperOfSpec)

/-- 'laws.FnRings', WHERE WHAT IT READS IS OF BULK AT MOST 1048576: true; the input reads as it did. -/
def fnRingsUptoRow : OpenClaim := { program := "ytjafjkndigchcaa", sum := "7656e69ac956a878f647f45a26959d9b6c52d563614565fd5e0d708ad2cb3247", func := "loop.example/g01042/laws.FnRings", spec := "fnRings", apart := false, narrowed := true }
def FnRingsUptoSaid : Prop := fnRingsUptoRow.holds Try.pinned (OpenSpec.upto fnRingsSpec)

/-- 'laws.FnExactJointsOf', WHERE WHAT IT READS IS OF BULK AT MOST 1048576: true; the input reads as it did. -/
def fnExactJointsOfUptoRow : OpenClaim := { program := "ytjafjkndigchcaa", sum := "7656e69ac956a878f647f45a26959d9b6c52d563614565fd5e0d708ad2cb3247", func := "loop.example/g01042/laws.FnExactJointsOf", spec := "fnExactJointsOf", apart := false, narrowed := true }
def FnExactJointsOfUptoSaid : Prop := fnExactJointsOfUptoRow.holds Try.pinned (OpenSpec.upto fnExactJointsOfSpec)

/-- 'laws.FnExactMustTaper', WHERE WHAT IT READS IS OF BULK AT MOST 1048576: true; the input reads as it did. -/
def fnExactMustTaperUptoRow : OpenClaim := { program := "ytjafjkndigchcaa", sum := "7656e69ac956a878f647f45a26959d9b6c52d563614565fd5e0d708ad2cb3247", func := "loop.example/g01042/laws.FnExactMustTaper", spec := "fnExactMustTaper", apart := false, narrowed := true }
def FnExactMustTaperUptoSaid : Prop := fnExactMustTaperUptoRow.holds Try.pinned (OpenSpec.upto fnExactMustTaperSpec)

end Rows
end Go.Proofs.Ytjafjkndigchcaa
