/-
  No cell of these rows narrows 'for every input' (looked for: loops, veiled, ifaces, maps, wideKeys, modest, calm, conditions, laid).
  DERIVED. THE GIVEN ROWS OF THIS SEAT. 14 by the template 'for every input the law returns true; each argument reads behind the call as it read before'; 0 by the template 'total and deterministic' (their statements: YtklhaanapembdaaTotals.lean).
  GIVEN WITH THE SEED: the statements are not yours to turn. If you find one false, say at which input.
  Laid BY PROGRAM, IN A SANDBOX (cutbox-rows.mjs): the forced cells as the released guide's own fill.sh prints them over the translation 7441d1e35254597d… (all of the seat's roots in one cut). By AI agents, Wed Nov 11 2026. No macro, syntax, notation, axiom, sorry.
-/
import Derived.Test.YtklhaanapembdaaChecked
import GoSem.Claim
import GoSem.ClaimJoined
import GoSem.ClaimMapViews
import Derived.JoinedTies
import Derived.KernelRfl
namespace Go.Proofs.Ytklhaanapembdaa
/- THE CELL 'sum', in the pinned program and in every row, IS THE sha256 OF THE DUMP (.gsa) THAT YtklhaanapembdaaProg.lean LOADS. Nothing in Lean hashes anything: it is a label: what it is worth is what the hold of that sum in a sandbox is worth. -/
noncomputable def Try.pinned : Pinned := { name := "ytklhaanapembdaa", sum := "7441d1e35254597de019a551aa4fdea53e592ecfddf626a36188e7407311a836", checked := Try.checked }
namespace Rows
def none {H : Type} : Left H := { results := [], args := [] }

/-- 'laws.FnThrust': WHATEVER THE INPUT: true; the input reads as it did. -/
def fnThrustSpec : ChangeSpec := { name := "fnThrust", fn := fun _ => fun
  | [d1, d2] => { results := [.lit (.bool true)], args := [d1, d2] }
  | _ => none }
def fnThrustRow : OpenClaim := { program := "ytklhaanapembdaa", sum := "7441d1e35254597de019a551aa4fdea53e592ecfddf626a36188e7407311a836", func := "loop.example/g01042/laws.FnThrust", spec := "fnThrust", unfollowed := true, recurses := true, apart := false }
def FnThrustSaid : Prop := fnThrustRow.holds Try.pinned (OpenSpec.ofChange fnThrustSpec)

/-- ITS FALSE NEIGHBOUR: 'it returns false'. Refute it at one input. -/
def fnThrustWrong : ChangeSpec := { name := "fnThrust", fn := fun _ => fun
  | [d1, d2] => { results := [.lit (.bool false)], args := [d1, d2] }
  | _ => none }
def FnThrustWrongFalsely : Prop := fnThrustRow.holds Try.pinned (OpenSpec.ofChange fnThrustWrong)

/-- 'laws.FnTop': WHATEVER THE INPUT: true; the input reads as it did. -/
def fnTopSpec : ChangeSpec := { name := "fnTop", fn := fun _ => fun
  | [d1, d2] => { results := [.lit (.bool true)], args := [d1, d2] }
  | _ => none }
def fnTopRow : OpenClaim := { program := "ytklhaanapembdaa", sum := "7441d1e35254597de019a551aa4fdea53e592ecfddf626a36188e7407311a836", func := "loop.example/g01042/laws.FnTop", spec := "fnTop", inPlace := ["internal/bytealg.IndexByteString"], unfollowed := true, recurses := true, apart := false }
def FnTopSaid : Prop := fnTopRow.holds Try.pinned (OpenSpec.ofChange fnTopSpec)

/-- ITS FALSE NEIGHBOUR: 'it returns false'. Refute it at one input. -/
def fnTopWrong : ChangeSpec := { name := "fnTop", fn := fun _ => fun
  | [d1, d2] => { results := [.lit (.bool false)], args := [d1, d2] }
  | _ => none }
def FnTopWrongFalsely : Prop := fnTopRow.holds Try.pinned (OpenSpec.ofChange fnTopWrong)

/-- 'laws.FnExactValidBlocks': WHATEVER THE INPUT: true; the input reads as it did. -/
def fnExactValidBlocksSpec : ChangeSpec := { name := "fnExactValidBlocks", fn := fun _ => fun
  | [d] => { results := [.lit (.bool true)], args := [d] }
  | _ => none }
def fnExactValidBlocksRow : OpenClaim := { program := "ytklhaanapembdaa", sum := "7441d1e35254597de019a551aa4fdea53e592ecfddf626a36188e7407311a836", func := "loop.example/g01042/laws.FnExactValidBlocks", spec := "fnExactValidBlocks", unfollowed := true, recurses := true, apart := false }
def FnExactValidBlocksSaid : Prop := fnExactValidBlocksRow.holds Try.pinned (OpenSpec.ofChange fnExactValidBlocksSpec)

/-- ITS FALSE NEIGHBOUR: 'it returns false'. Refute it at one input. -/
def fnExactValidBlocksWrong : ChangeSpec := { name := "fnExactValidBlocks", fn := fun _ => fun
  | [d] => { results := [.lit (.bool false)], args := [d] }
  | _ => none }
def FnExactValidBlocksWrongFalsely : Prop := fnExactValidBlocksRow.holds Try.pinned (OpenSpec.ofChange fnExactValidBlocksWrong)

/-- 'laws.FnExactMomentsOf': WHATEVER THE INPUT: true; the input reads as it did. -/
def fnExactMomentsOfSpec : ChangeSpec := { name := "fnExactMomentsOf", fn := fun _ => fun
  | [d] => { results := [.lit (.bool true)], args := [d] }
  | _ => none }
def fnExactMomentsOfRow : OpenClaim := { program := "ytklhaanapembdaa", sum := "7441d1e35254597de019a551aa4fdea53e592ecfddf626a36188e7407311a836", func := "loop.example/g01042/laws.FnExactMomentsOf", spec := "fnExactMomentsOf", unfollowed := true, recurses := true, apart := false }
def FnExactMomentsOfSaid : Prop := fnExactMomentsOfRow.holds Try.pinned (OpenSpec.ofChange fnExactMomentsOfSpec)

/-- ITS FALSE NEIGHBOUR: 'it returns false'. Refute it at one input. -/
def fnExactMomentsOfWrong : ChangeSpec := { name := "fnExactMomentsOf", fn := fun _ => fun
  | [d] => { results := [.lit (.bool false)], args := [d] }
  | _ => none }
def FnExactMomentsOfWrongFalsely : Prop := fnExactMomentsOfRow.holds Try.pinned (OpenSpec.ofChange fnExactMomentsOfWrong)

/-- 'laws.FnExactIsLine': WHATEVER THE INPUT: true; the input reads as it did. -/
def fnExactIsLineSpec : ChangeSpec := { name := "fnExactIsLine", fn := fun _ => fun
  | [d1, d2, d3] => { results := [.lit (.bool true)], args := [d1, d2, d3] }
  | _ => none }
def fnExactIsLineRow : OpenClaim := { program := "ytklhaanapembdaa", sum := "7441d1e35254597de019a551aa4fdea53e592ecfddf626a36188e7407311a836", func := "loop.example/g01042/laws.FnExactIsLine", spec := "fnExactIsLine", unfollowed := true, recurses := true, apart := false }
def FnExactIsLineSaid : Prop := fnExactIsLineRow.holds Try.pinned (OpenSpec.ofChange fnExactIsLineSpec)

/-- ITS FALSE NEIGHBOUR: 'it returns false'. Refute it at one input. -/
def fnExactIsLineWrong : ChangeSpec := { name := "fnExactIsLine", fn := fun _ => fun
  | [d1, d2, d3] => { results := [.lit (.bool false)], args := [d1, d2, d3] }
  | _ => none }
def FnExactIsLineWrongFalsely : Prop := fnExactIsLineRow.holds Try.pinned (OpenSpec.ofChange fnExactIsLineWrong)

/-- 'laws.FnLines': WHATEVER THE INPUT: true; the input reads as it did. -/
def fnLinesSpec : ChangeSpec := { name := "fnLines", fn := fun _ => fun
  | [d1, d2] => { results := [.lit (.bool true)], args := [d1, d2] }
  | _ => none }
def fnLinesRow : OpenClaim := { program := "ytklhaanapembdaa", sum := "7441d1e35254597de019a551aa4fdea53e592ecfddf626a36188e7407311a836", func := "loop.example/g01042/laws.FnLines", spec := "fnLines", unfollowed := true, recurses := true, apart := false }
def FnLinesSaid : Prop := fnLinesRow.holds Try.pinned (OpenSpec.ofChange fnLinesSpec)

/-- ITS FALSE NEIGHBOUR: 'it returns false'. Refute it at one input. -/
def fnLinesWrong : ChangeSpec := { name := "fnLines", fn := fun _ => fun
  | [d1, d2] => { results := [.lit (.bool false)], args := [d1, d2] }
  | _ => none }
def FnLinesWrongFalsely : Prop := fnLinesRow.holds Try.pinned (OpenSpec.ofChange fnLinesWrong)

/-- 'laws.FnExactMirrorBlocks': WHATEVER THE INPUT: true; the input reads as it did. -/
def fnExactMirrorBlocksSpec : ChangeSpec := { name := "fnExactMirrorBlocks", fn := fun _ => fun
  | [d] => { results := [.lit (.bool true)], args := [d] }
  | _ => none }
def fnExactMirrorBlocksRow : OpenClaim := { program := "ytklhaanapembdaa", sum := "7441d1e35254597de019a551aa4fdea53e592ecfddf626a36188e7407311a836", func := "loop.example/g01042/laws.FnExactMirrorBlocks", spec := "fnExactMirrorBlocks", unfollowed := true, recurses := true, apart := false }
def FnExactMirrorBlocksSaid : Prop := fnExactMirrorBlocksRow.holds Try.pinned (OpenSpec.ofChange fnExactMirrorBlocksSpec)

/-- ITS FALSE NEIGHBOUR: 'it returns false'. Refute it at one input. -/
def fnExactMirrorBlocksWrong : ChangeSpec := { name := "fnExactMirrorBlocks", fn := fun _ => fun
  | [d] => { results := [.lit (.bool false)], args := [d] }
  | _ => none }
def FnExactMirrorBlocksWrongFalsely : Prop := fnExactMirrorBlocksRow.holds Try.pinned (OpenSpec.ofChange fnExactMirrorBlocksWrong)

/-- 'laws.FnMirrored': WHATEVER THE INPUT: true; the input reads as it did. -/
def fnMirroredSpec : ChangeSpec := { name := "fnMirrored", fn := fun _ => fun
  | [d] => { results := [.lit (.bool true)], args := [d] }
  | _ => none }
def fnMirroredRow : OpenClaim := { program := "ytklhaanapembdaa", sum := "7441d1e35254597de019a551aa4fdea53e592ecfddf626a36188e7407311a836", func := "loop.example/g01042/laws.FnMirrored", spec := "fnMirrored", unfollowed := true, recurses := true, apart := false }
def FnMirroredSaid : Prop := fnMirroredRow.holds Try.pinned (OpenSpec.ofChange fnMirroredSpec)

/-- ITS FALSE NEIGHBOUR: 'it returns false'. Refute it at one input. -/
def fnMirroredWrong : ChangeSpec := { name := "fnMirrored", fn := fun _ => fun
  | [d] => { results := [.lit (.bool false)], args := [d] }
  | _ => none }
def FnMirroredWrongFalsely : Prop := fnMirroredRow.holds Try.pinned (OpenSpec.ofChange fnMirroredWrong)

/-- 'laws.FnExactProvesFall': WHATEVER THE INPUT: true; the input reads as it did. -/
def fnExactProvesFallSpec : ChangeSpec := { name := "fnExactProvesFall", fn := fun _ => fun
  | [d1, d2, d3] => { results := [.lit (.bool true)], args := [d1, d2, d3] }
  | _ => none }
def fnExactProvesFallRow : OpenClaim := { program := "ytklhaanapembdaa", sum := "7441d1e35254597de019a551aa4fdea53e592ecfddf626a36188e7407311a836", func := "loop.example/g01042/laws.FnExactProvesFall", spec := "fnExactProvesFall", unfollowed := true, recurses := true, apart := false }
def FnExactProvesFallSaid : Prop := fnExactProvesFallRow.holds Try.pinned (OpenSpec.ofChange fnExactProvesFallSpec)

/-- ITS FALSE NEIGHBOUR: 'it returns false'. Refute it at one input. -/
def fnExactProvesFallWrong : ChangeSpec := { name := "fnExactProvesFall", fn := fun _ => fun
  | [d1, d2, d3] => { results := [.lit (.bool false)], args := [d1, d2, d3] }
  | _ => none }
def FnExactProvesFallWrongFalsely : Prop := fnExactProvesFallRow.holds Try.pinned (OpenSpec.ofChange fnExactProvesFallWrong)

/-- 'laws.FnExactCanStand': WHATEVER THE INPUT: true; the input reads as it did. -/
def fnExactCanStandSpec : ChangeSpec := { name := "fnExactCanStand", fn := fun _ => fun
  | [d] => { results := [.lit (.bool true)], args := [d] }
  | _ => none }
def fnExactCanStandRow : OpenClaim := { program := "ytklhaanapembdaa", sum := "7441d1e35254597de019a551aa4fdea53e592ecfddf626a36188e7407311a836", func := "loop.example/g01042/laws.FnExactCanStand", spec := "fnExactCanStand", unfollowed := true, recurses := true, apart := false }
def FnExactCanStandSaid : Prop := fnExactCanStandRow.holds Try.pinned (OpenSpec.ofChange fnExactCanStandSpec)

/-- ITS FALSE NEIGHBOUR: 'it returns false'. Refute it at one input. -/
def fnExactCanStandWrong : ChangeSpec := { name := "fnExactCanStand", fn := fun _ => fun
  | [d] => { results := [.lit (.bool false)], args := [d] }
  | _ => none }
def FnExactCanStandWrongFalsely : Prop := fnExactCanStandRow.holds Try.pinned (OpenSpec.ofChange fnExactCanStandWrong)

/-- 'laws.FnExactCurvatureBounds': WHATEVER THE INPUT: true; the input reads as it did. -/
def fnExactCurvatureBoundsSpec : ChangeSpec := { name := "fnExactCurvatureBounds", fn := fun _ => fun
  | [d] => { results := [.lit (.bool true)], args := [d] }
  | _ => none }
def fnExactCurvatureBoundsRow : OpenClaim := { program := "ytklhaanapembdaa", sum := "7441d1e35254597de019a551aa4fdea53e592ecfddf626a36188e7407311a836", func := "loop.example/g01042/laws.FnExactCurvatureBounds", spec := "fnExactCurvatureBounds", unfollowed := true, recurses := true, apart := false }
def FnExactCurvatureBoundsSaid : Prop := fnExactCurvatureBoundsRow.holds Try.pinned (OpenSpec.ofChange fnExactCurvatureBoundsSpec)

/-- ITS FALSE NEIGHBOUR: 'it returns false'. Refute it at one input. -/
def fnExactCurvatureBoundsWrong : ChangeSpec := { name := "fnExactCurvatureBounds", fn := fun _ => fun
  | [d] => { results := [.lit (.bool false)], args := [d] }
  | _ => none }
def FnExactCurvatureBoundsWrongFalsely : Prop := fnExactCurvatureBoundsRow.holds Try.pinned (OpenSpec.ofChange fnExactCurvatureBoundsWrong)

/-- 'laws.FnExactWhyNot': WHATEVER THE INPUT: true; the input reads as it did. -/
def fnExactWhyNotSpec : ChangeSpec := { name := "fnExactWhyNot", fn := fun _ => fun
  | [d] => { results := [.lit (.bool true)], args := [d] }
  | _ => none }
def fnExactWhyNotRow : OpenClaim := { program := "ytklhaanapembdaa", sum := "7441d1e35254597de019a551aa4fdea53e592ecfddf626a36188e7407311a836", func := "loop.example/g01042/laws.FnExactWhyNot", spec := "fnExactWhyNot", unfollowed := true, recurses := true, apart := false }
def FnExactWhyNotSaid : Prop := fnExactWhyNotRow.holds Try.pinned (OpenSpec.ofChange fnExactWhyNotSpec)

/-- ITS FALSE NEIGHBOUR: 'it returns false'. Refute it at one input. -/
def fnExactWhyNotWrong : ChangeSpec := { name := "fnExactWhyNot", fn := fun _ => fun
  | [d] => { results := [.lit (.bool false)], args := [d] }
  | _ => none }
def FnExactWhyNotWrongFalsely : Prop := fnExactWhyNotRow.holds Try.pinned (OpenSpec.ofChange fnExactWhyNotWrong)

/-- 'laws.FnExactLeastThrust': WHATEVER THE INPUT: true; the input reads as it did. -/
def fnExactLeastThrustSpec : ChangeSpec := { name := "fnExactLeastThrust", fn := fun _ => fun
  | [d] => { results := [.lit (.bool true)], args := [d] }
  | _ => none }
def fnExactLeastThrustRow : OpenClaim := { program := "ytklhaanapembdaa", sum := "7441d1e35254597de019a551aa4fdea53e592ecfddf626a36188e7407311a836", func := "loop.example/g01042/laws.FnExactLeastThrust", spec := "fnExactLeastThrust", unfollowed := true, recurses := true, apart := false }
def FnExactLeastThrustSaid : Prop := fnExactLeastThrustRow.holds Try.pinned (OpenSpec.ofChange fnExactLeastThrustSpec)

/-- ITS FALSE NEIGHBOUR: 'it returns false'. Refute it at one input. -/
def fnExactLeastThrustWrong : ChangeSpec := { name := "fnExactLeastThrust", fn := fun _ => fun
  | [d] => { results := [.lit (.bool false)], args := [d] }
  | _ => none }
def FnExactLeastThrustWrongFalsely : Prop := fnExactLeastThrustRow.holds Try.pinned (OpenSpec.ofChange fnExactLeastThrustWrong)

/-- 'laws.FnExactLineOfThrust': WHATEVER THE INPUT: true; the input reads as it did. -/
def fnExactLineOfThrustSpec : ChangeSpec := { name := "fnExactLineOfThrust", fn := fun _ => fun
  | [d] => { results := [.lit (.bool true)], args := [d] }
  | _ => none }
def fnExactLineOfThrustRow : OpenClaim := { program := "ytklhaanapembdaa", sum := "7441d1e35254597de019a551aa4fdea53e592ecfddf626a36188e7407311a836", func := "loop.example/g01042/laws.FnExactLineOfThrust", spec := "fnExactLineOfThrust", unfollowed := true, recurses := true, apart := false }
def FnExactLineOfThrustSaid : Prop := fnExactLineOfThrustRow.holds Try.pinned (OpenSpec.ofChange fnExactLineOfThrustSpec)

/-- ITS FALSE NEIGHBOUR: 'it returns false'. Refute it at one input. -/
def fnExactLineOfThrustWrong : ChangeSpec := { name := "fnExactLineOfThrust", fn := fun _ => fun
  | [d] => { results := [.lit (.bool false)], args := [d] }
  | _ => none }
def FnExactLineOfThrustWrongFalsely : Prop := fnExactLineOfThrustRow.holds Try.pinned (OpenSpec.ofChange fnExactLineOfThrustWrong)

/- THE SECOND FORM. 'bulk': how many values and letters a reading holds, each counted each time it is reached (what is shared counts as often as it is met; a slice's spare places count too). A statement '..UptoSaid' is the law's where the arguments, and the package variables that the reading takes, are together of bulk at most 1048576: NARROWER than '..Said'. Prove '..Said' where nothing that the law and all that it calls make is longer than what came in: it says more and counts as full. Else prove '..UptoSaid'. A law counts once. -/
mutual
def uptoBulk {H : Type} : DataW H → Nat
  | .lit (.string bytes) => bytes.length + 1
  | .lit _ => 1
  | .nil => 1
  | .ptr d => uptoBulk d + 1
  | .slice elems spare => uptoBulkAll elems + uptoBulkAll spare + 1
  | .agg parts => uptoBulkAll parts + 1
  | .iface _ d => uptoBulk d + 1
  | .map entries => uptoBulkEntries entries + 1
  | .held _ => 1
def uptoBulkAll {H : Type} : List (DataW H) → Nat
  | [] => 0
  | d :: r => uptoBulk d + uptoBulkAll r
def uptoBulkEntries {H : Type} : List (Lit × DataW H) → Nat
  | [] => 0
  | x :: r => uptoBulkEntry x + uptoBulkEntries r
def uptoBulkEntry {H : Type} : Lit × DataW H → Nat
  | (.string bytes, d) => bytes.length + uptoBulk d + 1
  | (_, d) => uptoBulk d + 1
 end
def uptoSmall : (H : Type) → List (DataW H) → Bool := fun _ ds => decide (uptoBulkAll ds ≤ 1048576)
def OpenSpec.upto (s : _root_.Go.ChangeSpec) : _root_.Go.OpenSpec := { _root_.Go.OpenSpec.ofChange s with cond := some uptoSmall }

/-- 'laws.FnThrust', WHERE WHAT IT READS IS OF BULK AT MOST 1048576: true; the input reads as it did. -/
def fnThrustUptoRow : OpenClaim := { program := "ytklhaanapembdaa", sum := "7441d1e35254597de019a551aa4fdea53e592ecfddf626a36188e7407311a836", func := "loop.example/g01042/laws.FnThrust", spec := "fnThrust", unfollowed := true, recurses := true, apart := false, narrowed := true }
def FnThrustUptoSaid : Prop := fnThrustUptoRow.holds Try.pinned (OpenSpec.upto fnThrustSpec)

/-- 'laws.FnTop', WHERE WHAT IT READS IS OF BULK AT MOST 1048576: true; the input reads as it did. -/
def fnTopUptoRow : OpenClaim := { program := "ytklhaanapembdaa", sum := "7441d1e35254597de019a551aa4fdea53e592ecfddf626a36188e7407311a836", func := "loop.example/g01042/laws.FnTop", spec := "fnTop", inPlace := ["internal/bytealg.IndexByteString"], unfollowed := true, recurses := true, apart := false, narrowed := true }
def FnTopUptoSaid : Prop := fnTopUptoRow.holds Try.pinned (OpenSpec.upto fnTopSpec)

/-- 'laws.FnExactValidBlocks', WHERE WHAT IT READS IS OF BULK AT MOST 1048576: true; the input reads as it did. -/
def fnExactValidBlocksUptoRow : OpenClaim := { program := "ytklhaanapembdaa", sum := "7441d1e35254597de019a551aa4fdea53e592ecfddf626a36188e7407311a836", func := "loop.example/g01042/laws.FnExactValidBlocks", spec := "fnExactValidBlocks", unfollowed := true, recurses := true, apart := false, narrowed := true }
def FnExactValidBlocksUptoSaid : Prop := fnExactValidBlocksUptoRow.holds Try.pinned (OpenSpec.upto fnExactValidBlocksSpec)

/-- 'laws.FnExactMomentsOf', WHERE WHAT IT READS IS OF BULK AT MOST 1048576: true; the input reads as it did. -/
def fnExactMomentsOfUptoRow : OpenClaim := { program := "ytklhaanapembdaa", sum := "7441d1e35254597de019a551aa4fdea53e592ecfddf626a36188e7407311a836", func := "loop.example/g01042/laws.FnExactMomentsOf", spec := "fnExactMomentsOf", unfollowed := true, recurses := true, apart := false, narrowed := true }
def FnExactMomentsOfUptoSaid : Prop := fnExactMomentsOfUptoRow.holds Try.pinned (OpenSpec.upto fnExactMomentsOfSpec)

/-- 'laws.FnExactIsLine', WHERE WHAT IT READS IS OF BULK AT MOST 1048576: true; the input reads as it did. -/
def fnExactIsLineUptoRow : OpenClaim := { program := "ytklhaanapembdaa", sum := "7441d1e35254597de019a551aa4fdea53e592ecfddf626a36188e7407311a836", func := "loop.example/g01042/laws.FnExactIsLine", spec := "fnExactIsLine", unfollowed := true, recurses := true, apart := false, narrowed := true }
def FnExactIsLineUptoSaid : Prop := fnExactIsLineUptoRow.holds Try.pinned (OpenSpec.upto fnExactIsLineSpec)

/-- 'laws.FnLines', WHERE WHAT IT READS IS OF BULK AT MOST 1048576: true; the input reads as it did. -/
def fnLinesUptoRow : OpenClaim := { program := "ytklhaanapembdaa", sum := "7441d1e35254597de019a551aa4fdea53e592ecfddf626a36188e7407311a836", func := "loop.example/g01042/laws.FnLines", spec := "fnLines", unfollowed := true, recurses := true, apart := false, narrowed := true }
def FnLinesUptoSaid : Prop := fnLinesUptoRow.holds Try.pinned (OpenSpec.upto fnLinesSpec)

/-- 'laws.FnExactMirrorBlocks', WHERE WHAT IT READS IS OF BULK AT MOST 1048576: true; the input reads as it did. -/
def fnExactMirrorBlocksUptoRow : OpenClaim := { program := "ytklhaanapembdaa", sum := "7441d1e35254597de019a551aa4fdea53e592ecfddf626a36188e7407311a836", func := "loop.example/g01042/laws.FnExactMirrorBlocks", spec := "fnExactMirrorBlocks", unfollowed := true, recurses := true, apart := false, narrowed := true }
def FnExactMirrorBlocksUptoSaid : Prop := fnExactMirrorBlocksUptoRow.holds Try.pinned (OpenSpec.upto fnExactMirrorBlocksSpec)

/-- 'laws.FnMirrored', WHERE WHAT IT READS IS OF BULK AT MOST 1048576: true; the input reads as it did. -/
def fnMirroredUptoRow : OpenClaim := { program := "ytklhaanapembdaa", sum := "7441d1e35254597de019a551aa4fdea53e592ecfddf626a36188e7407311a836", func := "loop.example/g01042/laws.FnMirrored", spec := "fnMirrored", unfollowed := true, recurses := true, apart := false, narrowed := true }
def FnMirroredUptoSaid : Prop := fnMirroredUptoRow.holds Try.pinned (OpenSpec.upto fnMirroredSpec)

/-- 'laws.FnExactProvesFall', WHERE WHAT IT READS IS OF BULK AT MOST 1048576: true; the input reads as it did. -/
def fnExactProvesFallUptoRow : OpenClaim := { program := "ytklhaanapembdaa", sum := "7441d1e35254597de019a551aa4fdea53e592ecfddf626a36188e7407311a836", func := "loop.example/g01042/laws.FnExactProvesFall", spec := "fnExactProvesFall", unfollowed := true, recurses := true, apart := false, narrowed := true }
def FnExactProvesFallUptoSaid : Prop := fnExactProvesFallUptoRow.holds Try.pinned (OpenSpec.upto fnExactProvesFallSpec)

/-- 'laws.FnExactCanStand', WHERE WHAT IT READS IS OF BULK AT MOST 1048576: true; the input reads as it did. -/
def fnExactCanStandUptoRow : OpenClaim := { program := "ytklhaanapembdaa", sum := "7441d1e35254597de019a551aa4fdea53e592ecfddf626a36188e7407311a836", func := "loop.example/g01042/laws.FnExactCanStand", spec := "fnExactCanStand", unfollowed := true, recurses := true, apart := false, narrowed := true }
def FnExactCanStandUptoSaid : Prop := fnExactCanStandUptoRow.holds Try.pinned (OpenSpec.upto fnExactCanStandSpec)

/-- 'laws.FnExactCurvatureBounds', WHERE WHAT IT READS IS OF BULK AT MOST 1048576: true; the input reads as it did. -/
def fnExactCurvatureBoundsUptoRow : OpenClaim := { program := "ytklhaanapembdaa", sum := "7441d1e35254597de019a551aa4fdea53e592ecfddf626a36188e7407311a836", func := "loop.example/g01042/laws.FnExactCurvatureBounds", spec := "fnExactCurvatureBounds", unfollowed := true, recurses := true, apart := false, narrowed := true }
def FnExactCurvatureBoundsUptoSaid : Prop := fnExactCurvatureBoundsUptoRow.holds Try.pinned (OpenSpec.upto fnExactCurvatureBoundsSpec)

/-- 'laws.FnExactWhyNot', WHERE WHAT IT READS IS OF BULK AT MOST 1048576: true; the input reads as it did. -/
def fnExactWhyNotUptoRow : OpenClaim := { program := "ytklhaanapembdaa", sum := "7441d1e35254597de019a551aa4fdea53e592ecfddf626a36188e7407311a836", func := "loop.example/g01042/laws.FnExactWhyNot", spec := "fnExactWhyNot", unfollowed := true, recurses := true, apart := false, narrowed := true }
def FnExactWhyNotUptoSaid : Prop := fnExactWhyNotUptoRow.holds Try.pinned (OpenSpec.upto fnExactWhyNotSpec)

/-- 'laws.FnExactLeastThrust', WHERE WHAT IT READS IS OF BULK AT MOST 1048576: true; the input reads as it did. -/
def fnExactLeastThrustUptoRow : OpenClaim := { program := "ytklhaanapembdaa", sum := "7441d1e35254597de019a551aa4fdea53e592ecfddf626a36188e7407311a836", func := "loop.example/g01042/laws.FnExactLeastThrust", spec := "fnExactLeastThrust", unfollowed := true, recurses := true, apart := false, narrowed := true }
def FnExactLeastThrustUptoSaid : Prop := fnExactLeastThrustUptoRow.holds Try.pinned (OpenSpec.upto fnExactLeastThrustSpec)

/-- 'laws.FnExactLineOfThrust', WHERE WHAT IT READS IS OF BULK AT MOST 1048576: true; the input reads as it did. -/
def fnExactLineOfThrustUptoRow : OpenClaim := { program := "ytklhaanapembdaa", sum := "7441d1e35254597de019a551aa4fdea53e592ecfddf626a36188e7407311a836", func := "loop.example/g01042/laws.FnExactLineOfThrust", spec := "fnExactLineOfThrust", unfollowed := true, recurses := true, apart := false, narrowed := true }
def FnExactLineOfThrustUptoSaid : Prop := fnExactLineOfThrustUptoRow.holds Try.pinned (OpenSpec.upto fnExactLineOfThrustSpec)

end Rows
end Go.Proofs.Ytklhaanapembdaa
