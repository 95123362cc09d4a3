/-
  No cell of these rows narrows 'for every input' (looked for: loops, veiled, ifaces, maps, wideKeys, modest, calm, conditions, laid).
  DERIVED. THE GIVEN ROWS OF THIS SEAT. 7 by the template 'for every input the law returns true; each argument reads behind the call as it read before'; 0 by the template 'total and deterministic' (their statements: YtgpcehokdfehjaaTotals.lean).
  GIVEN WITH THE SEED: the statements are not yours to turn. If you find one false, say at which input.
  Laid BY PROGRAM, IN A SANDBOX (cutbox-rows.mjs): the forced cells as the released guide's own fill.sh prints them over the translation 08970083c05a1cee… (all of the seat's roots in one cut). By AI agents, Wed Nov 11 2026. No macro, syntax, notation, axiom, sorry.
-/
import Derived.Test.YtgpcehokdfehjaaChecked
import GoSem.Claim
import GoSem.ClaimJoined
import GoSem.ClaimMapViews
import Derived.JoinedTies
import Derived.KernelRfl
namespace Go.Proofs.Ytgpcehokdfehjaa
/- THE CELL 'sum', in the pinned program and in every row, IS THE sha256 OF THE DUMP (.gsa) THAT YtgpcehokdfehjaaProg.lean LOADS. Nothing in Lean hashes anything: it is a label: what it is worth is what the hold of that sum in a sandbox is worth. -/
noncomputable def Try.pinned : Pinned := { name := "ytgpcehokdfehjaa", sum := "08970083c05a1ceec3189c6bca146ba521cfdc2e347fed3e110a5b01428fb0be", checked := Try.checked }
namespace Rows
def none {H : Type} : Left H := { results := [], args := [] }

/-- 'laws.FnExactCoursesFor': WHATEVER THE INPUT: true; the input reads as it did. -/
def fnExactCoursesForSpec : ChangeSpec := { name := "fnExactCoursesFor", fn := fun _ => fun
  | [d1, d2, d3, d4] => { results := [.lit (.bool true)], args := [d1, d2, d3, d4] }
  | _ => none }
def fnExactCoursesForRow : OpenClaim := { program := "ytgpcehokdfehjaa", sum := "08970083c05a1ceec3189c6bca146ba521cfdc2e347fed3e110a5b01428fb0be", func := "loop.example/g01042/laws.FnExactCoursesFor", spec := "fnExactCoursesFor", apart := false }
def FnExactCoursesForSaid : Prop := fnExactCoursesForRow.holds Try.pinned (OpenSpec.ofChange fnExactCoursesForSpec)

/-- ITS FALSE NEIGHBOUR: 'it returns false'. Refute it at one input. -/
def fnExactCoursesForWrong : ChangeSpec := { name := "fnExactCoursesFor", fn := fun _ => fun
  | [d1, d2, d3, d4] => { results := [.lit (.bool false)], args := [d1, d2, d3, d4] }
  | _ => none }
def FnExactCoursesForWrongFalsely : Prop := fnExactCoursesForRow.holds Try.pinned (OpenSpec.ofChange fnExactCoursesForWrong)

/-- 'laws.FnExactBedOf': WHATEVER THE INPUT: true; the input reads as it did. -/
def fnExactBedOfSpec : ChangeSpec := { name := "fnExactBedOf", fn := fun _ => fun
  | [d1, d2, d3] => { results := [.lit (.bool true)], args := [d1, d2, d3] }
  | _ => none }
def fnExactBedOfRow : OpenClaim := { program := "ytgpcehokdfehjaa", sum := "08970083c05a1ceec3189c6bca146ba521cfdc2e347fed3e110a5b01428fb0be", func := "loop.example/g01042/laws.FnExactBedOf", spec := "fnExactBedOf", apart := false }
def FnExactBedOfSaid : Prop := fnExactBedOfRow.holds Try.pinned (OpenSpec.ofChange fnExactBedOfSpec)

/-- ITS FALSE NEIGHBOUR: 'it returns false'. Refute it at one input. -/
def fnExactBedOfWrong : ChangeSpec := { name := "fnExactBedOf", fn := fun _ => fun
  | [d1, d2, d3] => { results := [.lit (.bool false)], args := [d1, d2, d3] }
  | _ => none }
def FnExactBedOfWrongFalsely : Prop := fnExactBedOfRow.holds Try.pinned (OpenSpec.ofChange fnExactBedOfWrong)

/-- 'laws.FnExactJointsEvenly': WHATEVER THE INPUT: true; the input reads as it did. -/
def fnExactJointsEvenlySpec : ChangeSpec := { name := "fnExactJointsEvenly", fn := fun _ => fun
  | [d1, d2, d3] => { results := [.lit (.bool true)], args := [d1, d2, d3] }
  | _ => none }
def fnExactJointsEvenlyRow : OpenClaim := { program := "ytgpcehokdfehjaa", sum := "08970083c05a1ceec3189c6bca146ba521cfdc2e347fed3e110a5b01428fb0be", func := "loop.example/g01042/laws.FnExactJointsEvenly", spec := "fnExactJointsEvenly", apart := false }
def FnExactJointsEvenlySaid : Prop := fnExactJointsEvenlyRow.holds Try.pinned (OpenSpec.ofChange fnExactJointsEvenlySpec)

/-- ITS FALSE NEIGHBOUR: 'it returns false'. Refute it at one input. -/
def fnExactJointsEvenlyWrong : ChangeSpec := { name := "fnExactJointsEvenly", fn := fun _ => fun
  | [d1, d2, d3] => { results := [.lit (.bool false)], args := [d1, d2, d3] }
  | _ => none }
def FnExactJointsEvenlyWrongFalsely : Prop := fnExactJointsEvenlyRow.holds Try.pinned (OpenSpec.ofChange fnExactJointsEvenlyWrong)

/-- 'laws.FnExactStepsBetween': WHATEVER THE INPUT: true; the input reads as it did. -/
def fnExactStepsBetweenSpec : ChangeSpec := { name := "fnExactStepsBetween", fn := fun _ => fun
  | [d1, d2, d3] => { results := [.lit (.bool true)], args := [d1, d2, d3] }
  | _ => none }
def fnExactStepsBetweenRow : OpenClaim := { program := "ytgpcehokdfehjaa", sum := "08970083c05a1ceec3189c6bca146ba521cfdc2e347fed3e110a5b01428fb0be", func := "loop.example/g01042/laws.FnExactStepsBetween", spec := "fnExactStepsBetween", unfollowed := true, recurses := true, apart := false }
def FnExactStepsBetweenSaid : Prop := fnExactStepsBetweenRow.holds Try.pinned (OpenSpec.ofChange fnExactStepsBetweenSpec)

/-- ITS FALSE NEIGHBOUR: 'it returns false'. Refute it at one input. -/
def fnExactStepsBetweenWrong : ChangeSpec := { name := "fnExactStepsBetween", fn := fun _ => fun
  | [d1, d2, d3] => { results := [.lit (.bool false)], args := [d1, d2, d3] }
  | _ => none }
def FnExactStepsBetweenWrongFalsely : Prop := fnExactStepsBetweenRow.holds Try.pinned (OpenSpec.ofChange fnExactStepsBetweenWrong)

/-- 'laws.FnExactLevelsOff': WHATEVER THE INPUT: true; the input reads as it did. -/
def fnExactLevelsOffSpec : ChangeSpec := { name := "fnExactLevelsOff", fn := fun _ => fun
  | [d1, d2, d3] => { results := [.lit (.bool true)], args := [d1, d2, d3] }
  | _ => none }
def fnExactLevelsOffRow : OpenClaim := { program := "ytgpcehokdfehjaa", sum := "08970083c05a1ceec3189c6bca146ba521cfdc2e347fed3e110a5b01428fb0be", func := "loop.example/g01042/laws.FnExactLevelsOff", spec := "fnExactLevelsOff", unfollowed := true, recurses := true, apart := false }
def FnExactLevelsOffSaid : Prop := fnExactLevelsOffRow.holds Try.pinned (OpenSpec.ofChange fnExactLevelsOffSpec)

/-- ITS FALSE NEIGHBOUR: 'it returns false'. Refute it at one input. -/
def fnExactLevelsOffWrong : ChangeSpec := { name := "fnExactLevelsOff", fn := fun _ => fun
  | [d1, d2, d3] => { results := [.lit (.bool false)], args := [d1, d2, d3] }
  | _ => none }
def FnExactLevelsOffWrongFalsely : Prop := fnExactLevelsOffRow.holds Try.pinned (OpenSpec.ofChange fnExactLevelsOffWrong)

/-- 'laws.FnExactBestGauge': WHATEVER THE INPUT: true; the input reads as it did. -/
def fnExactBestGaugeSpec : ChangeSpec := { name := "fnExactBestGauge", fn := fun _ => fun
  | [d1, d2, d3, d4, d5] => { results := [.lit (.bool true)], args := [d1, d2, d3, d4, d5] }
  | _ => none }
def fnExactBestGaugeRow : OpenClaim := { program := "ytgpcehokdfehjaa", sum := "08970083c05a1ceec3189c6bca146ba521cfdc2e347fed3e110a5b01428fb0be", func := "loop.example/g01042/laws.FnExactBestGauge", spec := "fnExactBestGauge", unfollowed := true, recurses := true, apart := false }
def FnExactBestGaugeSaid : Prop := fnExactBestGaugeRow.holds Try.pinned (OpenSpec.ofChange fnExactBestGaugeSpec)

/-- ITS FALSE NEIGHBOUR: 'it returns false'. Refute it at one input. -/
def fnExactBestGaugeWrong : ChangeSpec := { name := "fnExactBestGauge", fn := fun _ => fun
  | [d1, d2, d3, d4, d5] => { results := [.lit (.bool false)], args := [d1, d2, d3, d4, d5] }
  | _ => none }
def FnExactBestGaugeWrongFalsely : Prop := fnExactBestGaugeRow.holds Try.pinned (OpenSpec.ofChange fnExactBestGaugeWrong)

/-- 'laws.FnGauges': WHATEVER THE INPUT: true; the input reads as it did. -/
def fnGaugesSpec : ChangeSpec := { name := "fnGauges", fn := fun _ => fun
  | [d] => { results := [.lit (.bool true)], args := [d] }
  | _ => none }
def fnGaugesRow : OpenClaim := { program := "ytgpcehokdfehjaa", sum := "08970083c05a1ceec3189c6bca146ba521cfdc2e347fed3e110a5b01428fb0be", func := "loop.example/g01042/laws.FnGauges", spec := "fnGauges", unfollowed := true, recurses := true, apart := false }
def FnGaugesSaid : Prop := fnGaugesRow.holds Try.pinned (OpenSpec.ofChange fnGaugesSpec)

/-- ITS FALSE NEIGHBOUR: 'it returns false'. Refute it at one input. -/
def fnGaugesWrong : ChangeSpec := { name := "fnGauges", fn := fun _ => fun
  | [d] => { results := [.lit (.bool false)], args := [d] }
  | _ => none }
def FnGaugesWrongFalsely : Prop := fnGaugesRow.holds Try.pinned (OpenSpec.ofChange fnGaugesWrong)

/- THE SECOND FORM. 'bulk': how many values and letters a reading holds, each counted each time it is reached (what is shared counts as often as it is met; a slice's spare places count too). A statement '..UptoSaid' is the law's where the arguments, and the package variables that the reading takes, are together of bulk at most 1048576: NARROWER than '..Said'. Prove '..Said' where nothing that the law and all that it calls make is longer than what came in: it says more and counts as full. Else prove '..UptoSaid'. A law counts once. -/
mutual
def uptoBulk {H : Type} : DataW H → Nat
  | .lit (.string bytes) => bytes.length + 1
  | .lit _ => 1
  | .nil => 1
  | .ptr d => uptoBulk d + 1
  | .slice elems spare => uptoBulkAll elems + uptoBulkAll spare + 1
  | .agg parts => uptoBulkAll parts + 1
  | .iface _ d => uptoBulk d + 1
  | .map entries => uptoBulkEntries entries + 1
  | .held _ => 1
def uptoBulkAll {H : Type} : List (DataW H) → Nat
  | [] => 0
  | d :: r => uptoBulk d + uptoBulkAll r
def uptoBulkEntries {H : Type} : List (Lit × DataW H) → Nat
  | [] => 0
  | x :: r => uptoBulkEntry x + uptoBulkEntries r
def uptoBulkEntry {H : Type} : Lit × DataW H → Nat
  | (.string bytes, d) => bytes.length + uptoBulk d + 1
  | (_, d) => uptoBulk d + 1
 end
def uptoSmall : (H : Type) → List (DataW H) → Bool := fun _ ds => decide (uptoBulkAll ds ≤ 1048576)
def OpenSpec.upto (s : _root_.Go.ChangeSpec) : _root_.Go.OpenSpec := { _root_.Go.OpenSpec.ofChange s with cond := some uptoSmall }

/-- 'laws.FnExactCoursesFor', WHERE WHAT IT READS IS OF BULK AT MOST 1048576: true; the input reads as it did. -/
def fnExactCoursesForUptoRow : OpenClaim := { program := "ytgpcehokdfehjaa", sum := "08970083c05a1ceec3189c6bca146ba521cfdc2e347fed3e110a5b01428fb0be", func := "loop.example/g01042/laws.FnExactCoursesFor", spec := "fnExactCoursesFor", apart := false, narrowed := true }
def FnExactCoursesForUptoSaid : Prop := fnExactCoursesForUptoRow.holds Try.pinned (OpenSpec.upto fnExactCoursesForSpec)

/-- 'laws.FnExactBedOf', WHERE WHAT IT READS IS OF BULK AT MOST 1048576: true; the input reads as it did. -/
def fnExactBedOfUptoRow : OpenClaim := { program := "ytgpcehokdfehjaa", sum := "08970083c05a1ceec3189c6bca146ba521cfdc2e347fed3e110a5b01428fb0be", func := "loop.example/g01042/laws.FnExactBedOf", spec := "fnExactBedOf", apart := false, narrowed := true }
def FnExactBedOfUptoSaid : Prop := fnExactBedOfUptoRow.holds Try.pinned (OpenSpec.upto fnExactBedOfSpec)

/-- 'laws.FnExactJointsEvenly', WHERE WHAT IT READS IS OF BULK AT MOST 1048576: true; the input reads as it did. -/
def fnExactJointsEvenlyUptoRow : OpenClaim := { program := "ytgpcehokdfehjaa", sum := "08970083c05a1ceec3189c6bca146ba521cfdc2e347fed3e110a5b01428fb0be", func := "loop.example/g01042/laws.FnExactJointsEvenly", spec := "fnExactJointsEvenly", apart := false, narrowed := true }
def FnExactJointsEvenlyUptoSaid : Prop := fnExactJointsEvenlyUptoRow.holds Try.pinned (OpenSpec.upto fnExactJointsEvenlySpec)

/-- 'laws.FnExactStepsBetween', WHERE WHAT IT READS IS OF BULK AT MOST 1048576: true; the input reads as it did. -/
def fnExactStepsBetweenUptoRow : OpenClaim := { program := "ytgpcehokdfehjaa", sum := "08970083c05a1ceec3189c6bca146ba521cfdc2e347fed3e110a5b01428fb0be", func := "loop.example/g01042/laws.FnExactStepsBetween", spec := "fnExactStepsBetween", unfollowed := true, recurses := true, apart := false, narrowed := true }
def FnExactStepsBetweenUptoSaid : Prop := fnExactStepsBetweenUptoRow.holds Try.pinned (OpenSpec.upto fnExactStepsBetweenSpec)

/-- 'laws.FnExactLevelsOff', WHERE WHAT IT READS IS OF BULK AT MOST 1048576: true; the input reads as it did. -/
def fnExactLevelsOffUptoRow : OpenClaim := { program := "ytgpcehokdfehjaa", sum := "08970083c05a1ceec3189c6bca146ba521cfdc2e347fed3e110a5b01428fb0be", func := "loop.example/g01042/laws.FnExactLevelsOff", spec := "fnExactLevelsOff", unfollowed := true, recurses := true, apart := false, narrowed := true }
def FnExactLevelsOffUptoSaid : Prop := fnExactLevelsOffUptoRow.holds Try.pinned (OpenSpec.upto fnExactLevelsOffSpec)

/-- 'laws.FnExactBestGauge', WHERE WHAT IT READS IS OF BULK AT MOST 1048576: true; the input reads as it did. -/
def fnExactBestGaugeUptoRow : OpenClaim := { program := "ytgpcehokdfehjaa", sum := "08970083c05a1ceec3189c6bca146ba521cfdc2e347fed3e110a5b01428fb0be", func := "loop.example/g01042/laws.FnExactBestGauge", spec := "fnExactBestGauge", unfollowed := true, recurses := true, apart := false, narrowed := true }
def FnExactBestGaugeUptoSaid : Prop := fnExactBestGaugeUptoRow.holds Try.pinned (OpenSpec.upto fnExactBestGaugeSpec)

/-- 'laws.FnGauges', WHERE WHAT IT READS IS OF BULK AT MOST 1048576: true; the input reads as it did. -/
def fnGaugesUptoRow : OpenClaim := { program := "ytgpcehokdfehjaa", sum := "08970083c05a1ceec3189c6bca146ba521cfdc2e347fed3e110a5b01428fb0be", func := "loop.example/g01042/laws.FnGauges", spec := "fnGauges", unfollowed := true, recurses := true, apart := false, narrowed := true }
def FnGaugesUptoSaid : Prop := fnGaugesUptoRow.holds Try.pinned (OpenSpec.upto fnGaugesSpec)

end Rows
end Go.Proofs.Ytgpcehokdfehjaa
