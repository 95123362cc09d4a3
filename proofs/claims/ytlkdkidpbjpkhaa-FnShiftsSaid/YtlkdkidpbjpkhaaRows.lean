/-
  No cell of these rows narrows 'for every input' (looked for: loops, veiled, ifaces, maps, wideKeys, modest, calm, conditions, laid).
  DERIVED. THE GIVEN ROWS OF THIS SEAT. 13 by the template 'for every input the law returns true; each argument reads behind the call as it read before'; 0 by the template 'total and deterministic' (their statements: YtlkdkidpbjpkhaaTotals.lean).
  GIVEN WITH THE SEED: the statements are not yours to turn. If you find one false, say at which input.
  Laid BY PROGRAM, IN A SANDBOX (cutbox-rows.mjs): the forced cells as the released guide's own fill.sh prints them over the translation 2d132983bfe06e93… (all of the seat's roots in one cut). By AI agents, Wed Nov 11 2026. No macro, syntax, notation, axiom, sorry.
-/
import Derived.Test.YtlkdkidpbjpkhaaChecked
import GoSem.Claim
import GoSem.ClaimJoined
import GoSem.ClaimMapViews
import Derived.JoinedTies
import Derived.KernelRfl
namespace Go.Proofs.Ytlkdkidpbjpkhaa
/- THE CELL 'sum', in the pinned program and in every row, IS THE sha256 OF THE DUMP (.gsa) THAT YtlkdkidpbjpkhaaProg.lean LOADS. Nothing in Lean hashes anything: it is a label: what it is worth is what the hold of that sum in a sandbox is worth. -/
noncomputable def Try.pinned : Pinned := { name := "ytlkdkidpbjpkhaa", sum := "2d132983bfe06e930adc37bb4509b6b72d99fa4a941de1860391301a59c2546c", checked := Try.checked }
namespace Rows
def none {H : Type} : Left H := { results := [], args := [] }

/-- 'laws.FnExactSamePattern': WHATEVER THE INPUT: true; the input reads as it did. -/
def fnExactSamePatternSpec : ChangeSpec := { name := "fnExactSamePattern", fn := fun _ => fun
  | [d1, d2] => { results := [.lit (.bool true)], args := [d1, d2] }
  | _ => none }
def fnExactSamePatternRow : OpenClaim := { program := "ytlkdkidpbjpkhaa", sum := "2d132983bfe06e930adc37bb4509b6b72d99fa4a941de1860391301a59c2546c", func := "loop.example/g01042/laws.FnExactSamePattern", spec := "fnExactSamePattern", apart := false }
def FnExactSamePatternSaid : Prop := fnExactSamePatternRow.holds Try.pinned (OpenSpec.ofChange fnExactSamePatternSpec)

/-- ITS FALSE NEIGHBOUR: 'it returns false'. Refute it at one input. -/
def fnExactSamePatternWrong : ChangeSpec := { name := "fnExactSamePattern", fn := fun _ => fun
  | [d1, d2] => { results := [.lit (.bool false)], args := [d1, d2] }
  | _ => none }
def FnExactSamePatternWrongFalsely : Prop := fnExactSamePatternRow.holds Try.pinned (OpenSpec.ofChange fnExactSamePatternWrong)

/-- 'laws.FnExactValidPattern': WHATEVER THE INPUT: true; the input reads as it did. -/
def fnExactValidPatternSpec : ChangeSpec := { name := "fnExactValidPattern", fn := fun _ => fun
  | [d] => { results := [.lit (.bool true)], args := [d] }
  | _ => none }
def fnExactValidPatternRow : OpenClaim := { program := "ytlkdkidpbjpkhaa", sum := "2d132983bfe06e930adc37bb4509b6b72d99fa4a941de1860391301a59c2546c", func := "loop.example/g01042/laws.FnExactValidPattern", spec := "fnExactValidPattern", inPlace := ["internal/bytealg.IndexByteString"], unfollowed := true, recurses := true, apart := false }
def FnExactValidPatternSaid : Prop := fnExactValidPatternRow.holds Try.pinned (OpenSpec.ofChange fnExactValidPatternSpec)

/-- ITS FALSE NEIGHBOUR: 'it returns false'. Refute it at one input. -/
def fnExactValidPatternWrong : ChangeSpec := { name := "fnExactValidPattern", fn := fun _ => fun
  | [d] => { results := [.lit (.bool false)], args := [d] }
  | _ => none }
def FnExactValidPatternWrongFalsely : Prop := fnExactValidPatternRow.holds Try.pinned (OpenSpec.ofChange fnExactValidPatternWrong)

/-- 'laws.FnExactDarkDiagonals': WHATEVER THE INPUT: true; the input reads as it did. -/
def fnExactDarkDiagonalsSpec : ChangeSpec := { name := "fnExactDarkDiagonals", fn := fun _ => fun
  | [d] => { results := [.lit (.bool true)], args := [d] }
  | _ => none }
def fnExactDarkDiagonalsRow : OpenClaim := { program := "ytlkdkidpbjpkhaa", sum := "2d132983bfe06e930adc37bb4509b6b72d99fa4a941de1860391301a59c2546c", func := "loop.example/g01042/laws.FnExactDarkDiagonals", spec := "fnExactDarkDiagonals", inPlace := ["internal/bytealg.IndexByteString"], unfollowed := true, recurses := true, apart := false }
def FnExactDarkDiagonalsSaid : Prop := fnExactDarkDiagonalsRow.holds Try.pinned (OpenSpec.ofChange fnExactDarkDiagonalsSpec)

/-- ITS FALSE NEIGHBOUR: 'it returns false'. Refute it at one input. -/
def fnExactDarkDiagonalsWrong : ChangeSpec := { name := "fnExactDarkDiagonals", fn := fun _ => fun
  | [d] => { results := [.lit (.bool false)], args := [d] }
  | _ => none }
def FnExactDarkDiagonalsWrongFalsely : Prop := fnExactDarkDiagonalsRow.holds Try.pinned (OpenSpec.ofChange fnExactDarkDiagonalsWrong)

/-- 'laws.FnExactShiftsKept': WHATEVER THE INPUT: true; the input reads as it did. -/
def fnExactShiftsKeptSpec : ChangeSpec := { name := "fnExactShiftsKept", fn := fun _ => fun
  | [d] => { results := [.lit (.bool true)], args := [d] }
  | _ => none }
def fnExactShiftsKeptRow : OpenClaim := { program := "ytlkdkidpbjpkhaa", sum := "2d132983bfe06e930adc37bb4509b6b72d99fa4a941de1860391301a59c2546c", func := "loop.example/g01042/laws.FnExactShiftsKept", spec := "fnExactShiftsKept", inPlace := ["internal/bytealg.IndexByteString"], unfollowed := true, recurses := true, apart := false }
def FnExactShiftsKeptSaid : Prop := fnExactShiftsKeptRow.holds Try.pinned (OpenSpec.ofChange fnExactShiftsKeptSpec)

/-- ITS FALSE NEIGHBOUR: 'it returns false'. Refute it at one input. -/
def fnExactShiftsKeptWrong : ChangeSpec := { name := "fnExactShiftsKept", fn := fun _ => fun
  | [d] => { results := [.lit (.bool false)], args := [d] }
  | _ => none }
def FnExactShiftsKeptWrongFalsely : Prop := fnExactShiftsKeptRow.holds Try.pinned (OpenSpec.ofChange fnExactShiftsKeptWrong)

/-- 'laws.FnExactShiftPattern': WHATEVER THE INPUT: true; the input reads as it did. -/
def fnExactShiftPatternSpec : ChangeSpec := { name := "fnExactShiftPattern", fn := fun _ => fun
  | [d1, d2, d3] => { results := [.lit (.bool true)], args := [d1, d2, d3] }
  | _ => none }
def fnExactShiftPatternRow : OpenClaim := { program := "ytlkdkidpbjpkhaa", sum := "2d132983bfe06e930adc37bb4509b6b72d99fa4a941de1860391301a59c2546c", func := "loop.example/g01042/laws.FnExactShiftPattern", spec := "fnExactShiftPattern", inPlace := ["internal/bytealg.IndexByteString"], unfollowed := true, recurses := true, apart := false }
def FnExactShiftPatternSaid : Prop := fnExactShiftPatternRow.holds Try.pinned (OpenSpec.ofChange fnExactShiftPatternSpec)

/-- ITS FALSE NEIGHBOUR: 'it returns false'. Refute it at one input. -/
def fnExactShiftPatternWrong : ChangeSpec := { name := "fnExactShiftPattern", fn := fun _ => fun
  | [d1, d2, d3] => { results := [.lit (.bool false)], args := [d1, d2, d3] }
  | _ => none }
def FnExactShiftPatternWrongFalsely : Prop := fnExactShiftPatternRow.holds Try.pinned (OpenSpec.ofChange fnExactShiftPatternWrong)

/-- 'laws.FnExactFindShift': WHATEVER THE INPUT: true; the input reads as it did. -/
def fnExactFindShiftSpec : ChangeSpec := { name := "fnExactFindShift", fn := fun _ => fun
  | [d1, d2] => { results := [.lit (.bool true)], args := [d1, d2] }
  | _ => none }
def fnExactFindShiftRow : OpenClaim := { program := "ytlkdkidpbjpkhaa", sum := "2d132983bfe06e930adc37bb4509b6b72d99fa4a941de1860391301a59c2546c", func := "loop.example/g01042/laws.FnExactFindShift", spec := "fnExactFindShift", inPlace := ["internal/bytealg.IndexByteString"], unfollowed := true, recurses := true, apart := false }
def FnExactFindShiftSaid : Prop := fnExactFindShiftRow.holds Try.pinned (OpenSpec.ofChange fnExactFindShiftSpec)

/-- ITS FALSE NEIGHBOUR: 'it returns false'. Refute it at one input. -/
def fnExactFindShiftWrong : ChangeSpec := { name := "fnExactFindShift", fn := fun _ => fun
  | [d1, d2] => { results := [.lit (.bool false)], args := [d1, d2] }
  | _ => none }
def FnExactFindShiftWrongFalsely : Prop := fnExactFindShiftRow.holds Try.pinned (OpenSpec.ofChange fnExactFindShiftWrong)

/-- 'laws.FnExactTurnPattern': WHATEVER THE INPUT: true; the input reads as it did. -/
def fnExactTurnPatternSpec : ChangeSpec := { name := "fnExactTurnPattern", fn := fun _ => fun
  | [d1, d2] => { results := [.lit (.bool true)], args := [d1, d2] }
  | _ => none }
def fnExactTurnPatternRow : OpenClaim := { program := "ytlkdkidpbjpkhaa", sum := "2d132983bfe06e930adc37bb4509b6b72d99fa4a941de1860391301a59c2546c", func := "loop.example/g01042/laws.FnExactTurnPattern", spec := "fnExactTurnPattern", inPlace := ["internal/bytealg.IndexByteString"], unfollowed := true, recurses := true, apart := false }
def FnExactTurnPatternSaid : Prop := fnExactTurnPatternRow.holds Try.pinned (OpenSpec.ofChange fnExactTurnPatternSpec)

/-- ITS FALSE NEIGHBOUR: 'it returns false'. Refute it at one input. -/
def fnExactTurnPatternWrong : ChangeSpec := { name := "fnExactTurnPattern", fn := fun _ => fun
  | [d1, d2] => { results := [.lit (.bool false)], args := [d1, d2] }
  | _ => none }
def FnExactTurnPatternWrongFalsely : Prop := fnExactTurnPatternRow.holds Try.pinned (OpenSpec.ofChange fnExactTurnPatternWrong)

/-- 'laws.FnExactLeastTile': WHATEVER THE INPUT: true; the input reads as it did. -/
def fnExactLeastTileSpec : ChangeSpec := { name := "fnExactLeastTile", fn := fun _ => fun
  | [d] => { results := [.lit (.bool true)], args := [d] }
  | _ => none }
def fnExactLeastTileRow : OpenClaim := { program := "ytlkdkidpbjpkhaa", sum := "2d132983bfe06e930adc37bb4509b6b72d99fa4a941de1860391301a59c2546c", func := "loop.example/g01042/laws.FnExactLeastTile", spec := "fnExactLeastTile", inPlace := ["internal/bytealg.IndexByteString"], unfollowed := true, recurses := true, apart := false }
def FnExactLeastTileSaid : Prop := fnExactLeastTileRow.holds Try.pinned (OpenSpec.ofChange fnExactLeastTileSpec)

/-- ITS FALSE NEIGHBOUR: 'it returns false'. Refute it at one input. -/
def fnExactLeastTileWrong : ChangeSpec := { name := "fnExactLeastTile", fn := fun _ => fun
  | [d] => { results := [.lit (.bool false)], args := [d] }
  | _ => none }
def FnExactLeastTileWrongFalsely : Prop := fnExactLeastTileRow.holds Try.pinned (OpenSpec.ofChange fnExactLeastTileWrong)

/-- 'laws.FnExactKeepsTurn': WHATEVER THE INPUT: true; the input reads as it did. -/
def fnExactKeepsTurnSpec : ChangeSpec := { name := "fnExactKeepsTurn", fn := fun _ => fun
  | [d1, d2] => { results := [.lit (.bool true)], args := [d1, d2] }
  | _ => none }
def fnExactKeepsTurnRow : OpenClaim := { program := "ytlkdkidpbjpkhaa", sum := "2d132983bfe06e930adc37bb4509b6b72d99fa4a941de1860391301a59c2546c", func := "loop.example/g01042/laws.FnExactKeepsTurn", spec := "fnExactKeepsTurn", inPlace := ["internal/bytealg.IndexByteString"], unfollowed := true, recurses := true, apart := false }
def FnExactKeepsTurnSaid : Prop := fnExactKeepsTurnRow.holds Try.pinned (OpenSpec.ofChange fnExactKeepsTurnSpec)

/-- ITS FALSE NEIGHBOUR: 'it returns false'. Refute it at one input. -/
def fnExactKeepsTurnWrong : ChangeSpec := { name := "fnExactKeepsTurn", fn := fun _ => fun
  | [d1, d2] => { results := [.lit (.bool false)], args := [d1, d2] }
  | _ => none }
def FnExactKeepsTurnWrongFalsely : Prop := fnExactKeepsTurnRow.holds Try.pinned (OpenSpec.ofChange fnExactKeepsTurnWrong)

/-- 'laws.FnExactDarkIn': WHATEVER THE INPUT: true; the input reads as it did. -/
def fnExactDarkInSpec : ChangeSpec := { name := "fnExactDarkIn", fn := fun _ => fun
  | [d] => { results := [.lit (.bool true)], args := [d] }
  | _ => none }
def fnExactDarkInRow : OpenClaim := { program := "ytlkdkidpbjpkhaa", sum := "2d132983bfe06e930adc37bb4509b6b72d99fa4a941de1860391301a59c2546c", func := "loop.example/g01042/laws.FnExactDarkIn", spec := "fnExactDarkIn", inPlace := ["internal/bytealg.IndexByteString", "internal/bytealg.CountString", "internal/bytealg.IndexString"], unfollowed := true, recurses := true, named := ["internal/bytealg.MaxLen"], apart := false }
def FnExactDarkInSaid : Prop := fnExactDarkInRow.holds Try.pinned (OpenSpec.ofChange fnExactDarkInSpec)

/-- ITS FALSE NEIGHBOUR: 'it returns false'. Refute it at one input. -/
def fnExactDarkInWrong : ChangeSpec := { name := "fnExactDarkIn", fn := fun _ => fun
  | [d] => { results := [.lit (.bool false)], args := [d] }
  | _ => none }
def FnExactDarkInWrongFalsely : Prop := fnExactDarkInRow.holds Try.pinned (OpenSpec.ofChange fnExactDarkInWrong)

/-- 'laws.FnShifts': WHATEVER THE INPUT: true; the input reads as it did. -/
def fnShiftsSpec : ChangeSpec := { name := "fnShifts", fn := fun _ => fun
  | [d1, d2] => { results := [.lit (.bool true)], args := [d1, d2] }
  | _ => none }
def fnShiftsRow : OpenClaim := { program := "ytlkdkidpbjpkhaa", sum := "2d132983bfe06e930adc37bb4509b6b72d99fa4a941de1860391301a59c2546c", func := "loop.example/g01042/laws.FnShifts", spec := "fnShifts", inPlace := ["internal/bytealg.IndexByteString"], unfollowed := true, recurses := true, apart := false }
def FnShiftsSaid : Prop := fnShiftsRow.holds Try.pinned (OpenSpec.ofChange fnShiftsSpec)

/-- ITS FALSE NEIGHBOUR: 'it returns false'. Refute it at one input. -/
def fnShiftsWrong : ChangeSpec := { name := "fnShifts", fn := fun _ => fun
  | [d1, d2] => { results := [.lit (.bool false)], args := [d1, d2] }
  | _ => none }
def FnShiftsWrongFalsely : Prop := fnShiftsRow.holds Try.pinned (OpenSpec.ofChange fnShiftsWrong)

/-- 'laws.FnExactRepeatTile': WHATEVER THE INPUT: true; the input reads as it did. -/
def fnExactRepeatTileSpec : ChangeSpec := { name := "fnExactRepeatTile", fn := fun _ => fun
  | [d1, d2, d3] => { results := [.lit (.bool true)], args := [d1, d2, d3] }
  | _ => none }
def fnExactRepeatTileRow : OpenClaim := { program := "ytlkdkidpbjpkhaa", sum := "2d132983bfe06e930adc37bb4509b6b72d99fa4a941de1860391301a59c2546c", func := "loop.example/g01042/laws.FnExactRepeatTile", spec := "fnExactRepeatTile", inPlace := ["internal/bytealg.IndexByteString", "internal/abi.NoEscape", "internal/bytealg.MakeNoZero"], unfollowed := true, recurses := true, apart := false }
def FnExactRepeatTileSaid : Prop := fnExactRepeatTileRow.holds Try.pinned (OpenSpec.ofChange fnExactRepeatTileSpec)

/-- ITS FALSE NEIGHBOUR: 'it returns false'. Refute it at one input. -/
def fnExactRepeatTileWrong : ChangeSpec := { name := "fnExactRepeatTile", fn := fun _ => fun
  | [d1, d2, d3] => { results := [.lit (.bool false)], args := [d1, d2, d3] }
  | _ => none }
def FnExactRepeatTileWrongFalsely : Prop := fnExactRepeatTileRow.holds Try.pinned (OpenSpec.ofChange fnExactRepeatTileWrong)

/-- 'laws.FnPatternTurns': WHATEVER THE INPUT: true; the input reads as it did. -/
def fnPatternTurnsSpec : ChangeSpec := { name := "fnPatternTurns", fn := fun _ => fun
  | [d] => { results := [.lit (.bool true)], args := [d] }
  | _ => none }
def fnPatternTurnsRow : OpenClaim := { program := "ytlkdkidpbjpkhaa", sum := "2d132983bfe06e930adc37bb4509b6b72d99fa4a941de1860391301a59c2546c", func := "loop.example/g01042/laws.FnPatternTurns", spec := "fnPatternTurns", inPlace := ["internal/bytealg.IndexByteString", "internal/bytealg.CountString", "internal/bytealg.IndexString"], unfollowed := true, recurses := true, named := ["internal/bytealg.MaxLen"], apart := false }
def FnPatternTurnsSaid : Prop := fnPatternTurnsRow.holds Try.pinned (OpenSpec.ofChange fnPatternTurnsSpec)

/-- ITS FALSE NEIGHBOUR: 'it returns false'. Refute it at one input. -/
def fnPatternTurnsWrong : ChangeSpec := { name := "fnPatternTurns", fn := fun _ => fun
  | [d] => { results := [.lit (.bool false)], args := [d] }
  | _ => none }
def FnPatternTurnsWrongFalsely : Prop := fnPatternTurnsRow.holds Try.pinned (OpenSpec.ofChange fnPatternTurnsWrong)

/- THE SECOND FORM. 'bulk': how many values and letters a reading holds, each counted each time it is reached (what is shared counts as often as it is met; a slice's spare places count too). A statement '..UptoSaid' is the law's where the arguments, and the package variables that the reading takes, are together of bulk at most 1048576: NARROWER than '..Said'. Prove '..Said' where nothing that the law and all that it calls make is longer than what came in: it says more and counts as full. Else prove '..UptoSaid'. A law counts once. -/
mutual
def uptoBulk {H : Type} : DataW H → Nat
  | .lit (.string bytes) => bytes.length + 1
  | .lit _ => 1
  | .nil => 1
  | .ptr d => uptoBulk d + 1
  | .slice elems spare => uptoBulkAll elems + uptoBulkAll spare + 1
  | .agg parts => uptoBulkAll parts + 1
  | .iface _ d => uptoBulk d + 1
  | .map entries => uptoBulkEntries entries + 1
  | .held _ => 1
def uptoBulkAll {H : Type} : List (DataW H) → Nat
  | [] => 0
  | d :: r => uptoBulk d + uptoBulkAll r
def uptoBulkEntries {H : Type} : List (Lit × DataW H) → Nat
  | [] => 0
  | x :: r => uptoBulkEntry x + uptoBulkEntries r
def uptoBulkEntry {H : Type} : Lit × DataW H → Nat
  | (.string bytes, d) => bytes.length + uptoBulk d + 1
  | (_, d) => uptoBulk d + 1
 end
def uptoSmall : (H : Type) → List (DataW H) → Bool := fun _ ds => decide (uptoBulkAll ds ≤ 1048576)
def OpenSpec.upto (s : _root_.Go.ChangeSpec) : _root_.Go.OpenSpec := { _root_.Go.OpenSpec.ofChange s with cond := some uptoSmall }

/-- 'laws.FnExactSamePattern', WHERE WHAT IT READS IS OF BULK AT MOST 1048576: true; the input reads as it did. -/
def fnExactSamePatternUptoRow : OpenClaim := { program := "ytlkdkidpbjpkhaa", sum := "2d132983bfe06e930adc37bb4509b6b72d99fa4a941de1860391301a59c2546c", func := "loop.example/g01042/laws.FnExactSamePattern", spec := "fnExactSamePattern", apart := false, narrowed := true }
def FnExactSamePatternUptoSaid : Prop := fnExactSamePatternUptoRow.holds Try.pinned (OpenSpec.upto fnExactSamePatternSpec)

/-- 'laws.FnExactValidPattern', WHERE WHAT IT READS IS OF BULK AT MOST 1048576: true; the input reads as it did. -/
def fnExactValidPatternUptoRow : OpenClaim := { program := "ytlkdkidpbjpkhaa", sum := "2d132983bfe06e930adc37bb4509b6b72d99fa4a941de1860391301a59c2546c", func := "loop.example/g01042/laws.FnExactValidPattern", spec := "fnExactValidPattern", inPlace := ["internal/bytealg.IndexByteString"], unfollowed := true, recurses := true, apart := false, narrowed := true }
def FnExactValidPatternUptoSaid : Prop := fnExactValidPatternUptoRow.holds Try.pinned (OpenSpec.upto fnExactValidPatternSpec)

/-- 'laws.FnExactDarkDiagonals', WHERE WHAT IT READS IS OF BULK AT MOST 1048576: true; the input reads as it did. -/
def fnExactDarkDiagonalsUptoRow : OpenClaim := { program := "ytlkdkidpbjpkhaa", sum := "2d132983bfe06e930adc37bb4509b6b72d99fa4a941de1860391301a59c2546c", func := "loop.example/g01042/laws.FnExactDarkDiagonals", spec := "fnExactDarkDiagonals", inPlace := ["internal/bytealg.IndexByteString"], unfollowed := true, recurses := true, apart := false, narrowed := true }
def FnExactDarkDiagonalsUptoSaid : Prop := fnExactDarkDiagonalsUptoRow.holds Try.pinned (OpenSpec.upto fnExactDarkDiagonalsSpec)

/-- 'laws.FnExactShiftsKept', WHERE WHAT IT READS IS OF BULK AT MOST 1048576: true; the input reads as it did. -/
def fnExactShiftsKeptUptoRow : OpenClaim := { program := "ytlkdkidpbjpkhaa", sum := "2d132983bfe06e930adc37bb4509b6b72d99fa4a941de1860391301a59c2546c", func := "loop.example/g01042/laws.FnExactShiftsKept", spec := "fnExactShiftsKept", inPlace := ["internal/bytealg.IndexByteString"], unfollowed := true, recurses := true, apart := false, narrowed := true }
def FnExactShiftsKeptUptoSaid : Prop := fnExactShiftsKeptUptoRow.holds Try.pinned (OpenSpec.upto fnExactShiftsKeptSpec)

/-- 'laws.FnExactShiftPattern', WHERE WHAT IT READS IS OF BULK AT MOST 1048576: true; the input reads as it did. -/
def fnExactShiftPatternUptoRow : OpenClaim := { program := "ytlkdkidpbjpkhaa", sum := "2d132983bfe06e930adc37bb4509b6b72d99fa4a941de1860391301a59c2546c", func := "loop.example/g01042/laws.FnExactShiftPattern", spec := "fnExactShiftPattern", inPlace := ["internal/bytealg.IndexByteString"], unfollowed := true, recurses := true, apart := false, narrowed := true }
def FnExactShiftPatternUptoSaid : Prop := fnExactShiftPatternUptoRow.holds Try.pinned (OpenSpec.upto fnExactShiftPatternSpec)

/-- 'laws.FnExactFindShift', WHERE WHAT IT READS IS OF BULK AT MOST 1048576: true; the input reads as it did. -/
def fnExactFindShiftUptoRow : OpenClaim := { program := "ytlkdkidpbjpkhaa", sum := "2d132983bfe06e930adc37bb4509b6b72d99fa4a941de1860391301a59c2546c", func := "loop.example/g01042/laws.FnExactFindShift", spec := "fnExactFindShift", inPlace := ["internal/bytealg.IndexByteString"], unfollowed := true, recurses := true, apart := false, narrowed := true }
def FnExactFindShiftUptoSaid : Prop := fnExactFindShiftUptoRow.holds Try.pinned (OpenSpec.upto fnExactFindShiftSpec)

/-- 'laws.FnExactTurnPattern', WHERE WHAT IT READS IS OF BULK AT MOST 1048576: true; the input reads as it did. -/
def fnExactTurnPatternUptoRow : OpenClaim := { program := "ytlkdkidpbjpkhaa", sum := "2d132983bfe06e930adc37bb4509b6b72d99fa4a941de1860391301a59c2546c", func := "loop.example/g01042/laws.FnExactTurnPattern", spec := "fnExactTurnPattern", inPlace := ["internal/bytealg.IndexByteString"], unfollowed := true, recurses := true, apart := false, narrowed := true }
def FnExactTurnPatternUptoSaid : Prop := fnExactTurnPatternUptoRow.holds Try.pinned (OpenSpec.upto fnExactTurnPatternSpec)

/-- 'laws.FnExactLeastTile', WHERE WHAT IT READS IS OF BULK AT MOST 1048576: true; the input reads as it did. -/
def fnExactLeastTileUptoRow : OpenClaim := { program := "ytlkdkidpbjpkhaa", sum := "2d132983bfe06e930adc37bb4509b6b72d99fa4a941de1860391301a59c2546c", func := "loop.example/g01042/laws.FnExactLeastTile", spec := "fnExactLeastTile", inPlace := ["internal/bytealg.IndexByteString"], unfollowed := true, recurses := true, apart := false, narrowed := true }
def FnExactLeastTileUptoSaid : Prop := fnExactLeastTileUptoRow.holds Try.pinned (OpenSpec.upto fnExactLeastTileSpec)

/-- 'laws.FnExactKeepsTurn', WHERE WHAT IT READS IS OF BULK AT MOST 1048576: true; the input reads as it did. -/
def fnExactKeepsTurnUptoRow : OpenClaim := { program := "ytlkdkidpbjpkhaa", sum := "2d132983bfe06e930adc37bb4509b6b72d99fa4a941de1860391301a59c2546c", func := "loop.example/g01042/laws.FnExactKeepsTurn", spec := "fnExactKeepsTurn", inPlace := ["internal/bytealg.IndexByteString"], unfollowed := true, recurses := true, apart := false, narrowed := true }
def FnExactKeepsTurnUptoSaid : Prop := fnExactKeepsTurnUptoRow.holds Try.pinned (OpenSpec.upto fnExactKeepsTurnSpec)

/-- 'laws.FnExactDarkIn', WHERE WHAT IT READS IS OF BULK AT MOST 1048576: true; the input reads as it did. -/
def fnExactDarkInUptoRow : OpenClaim := { program := "ytlkdkidpbjpkhaa", sum := "2d132983bfe06e930adc37bb4509b6b72d99fa4a941de1860391301a59c2546c", func := "loop.example/g01042/laws.FnExactDarkIn", spec := "fnExactDarkIn", inPlace := ["internal/bytealg.IndexByteString", "internal/bytealg.CountString", "internal/bytealg.IndexString"], unfollowed := true, recurses := true, named := ["internal/bytealg.MaxLen"], apart := false, narrowed := true }
def FnExactDarkInUptoSaid : Prop := fnExactDarkInUptoRow.holds Try.pinned (OpenSpec.upto fnExactDarkInSpec)

/-- 'laws.FnShifts', WHERE WHAT IT READS IS OF BULK AT MOST 1048576: true; the input reads as it did. -/
def fnShiftsUptoRow : OpenClaim := { program := "ytlkdkidpbjpkhaa", sum := "2d132983bfe06e930adc37bb4509b6b72d99fa4a941de1860391301a59c2546c", func := "loop.example/g01042/laws.FnShifts", spec := "fnShifts", inPlace := ["internal/bytealg.IndexByteString"], unfollowed := true, recurses := true, apart := false, narrowed := true }
def FnShiftsUptoSaid : Prop := fnShiftsUptoRow.holds Try.pinned (OpenSpec.upto fnShiftsSpec)

/-- 'laws.FnExactRepeatTile', WHERE WHAT IT READS IS OF BULK AT MOST 1048576: true; the input reads as it did. -/
def fnExactRepeatTileUptoRow : OpenClaim := { program := "ytlkdkidpbjpkhaa", sum := "2d132983bfe06e930adc37bb4509b6b72d99fa4a941de1860391301a59c2546c", func := "loop.example/g01042/laws.FnExactRepeatTile", spec := "fnExactRepeatTile", inPlace := ["internal/bytealg.IndexByteString", "internal/abi.NoEscape", "internal/bytealg.MakeNoZero"], unfollowed := true, recurses := true, apart := false, narrowed := true }
def FnExactRepeatTileUptoSaid : Prop := fnExactRepeatTileUptoRow.holds Try.pinned (OpenSpec.upto fnExactRepeatTileSpec)

/-- 'laws.FnPatternTurns', WHERE WHAT IT READS IS OF BULK AT MOST 1048576: true; the input reads as it did. -/
def fnPatternTurnsUptoRow : OpenClaim := { program := "ytlkdkidpbjpkhaa", sum := "2d132983bfe06e930adc37bb4509b6b72d99fa4a941de1860391301a59c2546c", func := "loop.example/g01042/laws.FnPatternTurns", spec := "fnPatternTurns", inPlace := ["internal/bytealg.IndexByteString", "internal/bytealg.CountString", "internal/bytealg.IndexString"], unfollowed := true, recurses := true, named := ["internal/bytealg.MaxLen"], apart := false, narrowed := true }
def FnPatternTurnsUptoSaid : Prop := fnPatternTurnsUptoRow.holds Try.pinned (OpenSpec.upto fnPatternTurnsSpec)

end Rows
end Go.Proofs.Ytlkdkidpbjpkhaa
