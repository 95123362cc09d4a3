/-
  No cell of these rows narrows 'for every input' (looked for: loops, veiled, ifaces, maps, wideKeys, modest, calm, conditions, laid).
  DERIVED. THE GIVEN ROWS OF THIS SEAT. 11 by the template 'for every input the law returns true; each argument reads behind the call as it read before'; 0 by the template 'total and deterministic' (their statements: YtgnalhnbdpigdaaTotals.lean).
  GIVEN WITH THE SEED: the statements are not yours to turn. If you find one false, say at which input.
  Laid BY PROGRAM, IN A SANDBOX (cutbox-rows.mjs): the forced cells as the released guide's own fill.sh prints them over the translation 717d4ef76ce24514… (all of the seat's roots in one cut). By AI agents, Wed Nov 11 2026. No macro, syntax, notation, axiom, sorry.
-/
import Derived.Test.YtgnalhnbdpigdaaChecked
import GoSem.Claim
import GoSem.ClaimJoined
import GoSem.ClaimMapViews
import Derived.JoinedTies
import Derived.KernelRfl
namespace Go.Proofs.Ytgnalhnbdpigdaa
/- THE CELL 'sum', in the pinned program and in every row, IS THE sha256 OF THE DUMP (.gsa) THAT YtgnalhnbdpigdaaProg.lean LOADS. Nothing in Lean hashes anything: it is a label: what it is worth is what the hold of that sum in a sandbox is worth. -/
noncomputable def Try.pinned : Pinned := { name := "ytgnalhnbdpigdaa", sum := "717d4ef76ce2451484ffff23e3737f1cddbcae621157567695b67146c12e5d1c", checked := Try.checked }
namespace Rows
def none {H : Type} : Left H := { results := [], args := [] }

/-- 'laws.FnExactWithWaste': WHATEVER THE INPUT: true; the input reads as it did. -/
def fnExactWithWasteSpec : ChangeSpec := { name := "fnExactWithWaste", fn := fun _ => fun
  | [d1, d2] => { results := [.lit (.bool true)], args := [d1, d2] }
  | _ => none }
def fnExactWithWasteRow : OpenClaim := { program := "ytgnalhnbdpigdaa", sum := "717d4ef76ce2451484ffff23e3737f1cddbcae621157567695b67146c12e5d1c", func := "loop.example/g01042/laws.FnExactWithWaste", spec := "fnExactWithWaste", apart := false }
def FnExactWithWasteSaid : Prop := fnExactWithWasteRow.holds Try.pinned (OpenSpec.ofChange fnExactWithWasteSpec)

/-- ITS FALSE NEIGHBOUR: 'it returns false'. Refute it at one input. -/
def fnExactWithWasteWrong : ChangeSpec := { name := "fnExactWithWaste", fn := fun _ => fun
  | [d1, d2] => { results := [.lit (.bool false)], args := [d1, d2] }
  | _ => none }
def FnExactWithWasteWrongFalsely : Prop := fnExactWithWasteRow.holds Try.pinned (OpenSpec.ofChange fnExactWithWasteWrong)

/-- 'laws.FnExactPacksFor': WHATEVER THE INPUT: true; the input reads as it did. -/
def fnExactPacksForSpec : ChangeSpec := { name := "fnExactPacksFor", fn := fun _ => fun
  | [d1, d2] => { results := [.lit (.bool true)], args := [d1, d2] }
  | _ => none }
def fnExactPacksForRow : OpenClaim := { program := "ytgnalhnbdpigdaa", sum := "717d4ef76ce2451484ffff23e3737f1cddbcae621157567695b67146c12e5d1c", func := "loop.example/g01042/laws.FnExactPacksFor", spec := "fnExactPacksFor", apart := false }
def FnExactPacksForSaid : Prop := fnExactPacksForRow.holds Try.pinned (OpenSpec.ofChange fnExactPacksForSpec)

/-- ITS FALSE NEIGHBOUR: 'it returns false'. Refute it at one input. -/
def fnExactPacksForWrong : ChangeSpec := { name := "fnExactPacksFor", fn := fun _ => fun
  | [d1, d2] => { results := [.lit (.bool false)], args := [d1, d2] }
  | _ => none }
def FnExactPacksForWrongFalsely : Prop := fnExactPacksForRow.holds Try.pinned (OpenSpec.ofChange fnExactPacksForWrong)

/-- 'laws.FnExactBagsFor': WHATEVER THE INPUT: true; the input reads as it did. -/
def fnExactBagsForSpec : ChangeSpec := { name := "fnExactBagsFor", fn := fun _ => fun
  | [d1, d2] => { results := [.lit (.bool true)], args := [d1, d2] }
  | _ => none }
def fnExactBagsForRow : OpenClaim := { program := "ytgnalhnbdpigdaa", sum := "717d4ef76ce2451484ffff23e3737f1cddbcae621157567695b67146c12e5d1c", func := "loop.example/g01042/laws.FnExactBagsFor", spec := "fnExactBagsFor", apart := false }
def FnExactBagsForSaid : Prop := fnExactBagsForRow.holds Try.pinned (OpenSpec.ofChange fnExactBagsForSpec)

/-- ITS FALSE NEIGHBOUR: 'it returns false'. Refute it at one input. -/
def fnExactBagsForWrong : ChangeSpec := { name := "fnExactBagsFor", fn := fun _ => fun
  | [d1, d2] => { results := [.lit (.bool false)], args := [d1, d2] }
  | _ => none }
def FnExactBagsForWrongFalsely : Prop := fnExactBagsForRow.holds Try.pinned (OpenSpec.ofChange fnExactBagsForWrong)

/-- 'laws.FnExactBricksOf': WHATEVER THE INPUT: true; the input reads as it did. -/
def fnExactBricksOfSpec : ChangeSpec := { name := "fnExactBricksOf", fn := fun _ => fun
  | [d1, d2] => { results := [.lit (.bool true)], args := [d1, d2] }
  | _ => none }
def fnExactBricksOfRow : OpenClaim := { program := "ytgnalhnbdpigdaa", sum := "717d4ef76ce2451484ffff23e3737f1cddbcae621157567695b67146c12e5d1c", func := "loop.example/g01042/laws.FnExactBricksOf", spec := "fnExactBricksOf", apart := false }
def FnExactBricksOfSaid : Prop := fnExactBricksOfRow.holds Try.pinned (OpenSpec.ofChange fnExactBricksOfSpec)

/-- ITS FALSE NEIGHBOUR: 'it returns false'. Refute it at one input. -/
def fnExactBricksOfWrong : ChangeSpec := { name := "fnExactBricksOf", fn := fun _ => fun
  | [d1, d2] => { results := [.lit (.bool false)], args := [d1, d2] }
  | _ => none }
def FnExactBricksOfWrongFalsely : Prop := fnExactBricksOfRow.holds Try.pinned (OpenSpec.ofChange fnExactBricksOfWrong)

/-- 'laws.FnExactBricksForMetre': WHATEVER THE INPUT: true; the input reads as it did. -/
def fnExactBricksForMetreSpec : ChangeSpec := { name := "fnExactBricksForMetre", fn := fun _ => fun
  | [d] => { results := [.lit (.bool true)], args := [d] }
  | _ => none }
def fnExactBricksForMetreRow : OpenClaim := { program := "ytgnalhnbdpigdaa", sum := "717d4ef76ce2451484ffff23e3737f1cddbcae621157567695b67146c12e5d1c", func := "loop.example/g01042/laws.FnExactBricksForMetre", spec := "fnExactBricksForMetre", apart := false }
def FnExactBricksForMetreSaid : Prop := fnExactBricksForMetreRow.holds Try.pinned (OpenSpec.ofChange fnExactBricksForMetreSpec)

/-- ITS FALSE NEIGHBOUR: 'it returns false'. Refute it at one input. -/
def fnExactBricksForMetreWrong : ChangeSpec := { name := "fnExactBricksForMetre", fn := fun _ => fun
  | [d] => { results := [.lit (.bool false)], args := [d] }
  | _ => none }
def FnExactBricksForMetreWrongFalsely : Prop := fnExactBricksForMetreRow.holds Try.pinned (OpenSpec.ofChange fnExactBricksForMetreWrong)

/-- 'laws.FnExactValidPieces': WHATEVER THE INPUT: true; the input reads as it did. -/
def fnExactValidPiecesSpec : ChangeSpec := { name := "fnExactValidPieces", fn := fun _ => fun
  | [d] => { results := [.lit (.bool true)], args := [d] }
  | _ => none }
def fnExactValidPiecesRow : OpenClaim := { program := "ytgnalhnbdpigdaa", sum := "717d4ef76ce2451484ffff23e3737f1cddbcae621157567695b67146c12e5d1c", func := "loop.example/g01042/laws.FnExactValidPieces", spec := "fnExactValidPieces", unfollowed := true, recurses := true, apart := false }
def FnExactValidPiecesSaid : Prop := fnExactValidPiecesRow.holds Try.pinned (OpenSpec.ofChange fnExactValidPiecesSpec)

/-- ITS FALSE NEIGHBOUR: 'it returns false'. Refute it at one input. -/
def fnExactValidPiecesWrong : ChangeSpec := { name := "fnExactValidPieces", fn := fun _ => fun
  | [d] => { results := [.lit (.bool false)], args := [d] }
  | _ => none }
def FnExactValidPiecesWrongFalsely : Prop := fnExactValidPiecesRow.holds Try.pinned (OpenSpec.ofChange fnExactValidPiecesWrong)

/-- 'laws.FnExactMortarFor': WHATEVER THE INPUT: true; the input reads as it did. -/
def fnExactMortarForSpec : ChangeSpec := { name := "fnExactMortarFor", fn := fun _ => fun
  | [d1, d2] => { results := [.lit (.bool true)], args := [d1, d2] }
  | _ => none }
def fnExactMortarForRow : OpenClaim := { program := "ytgnalhnbdpigdaa", sum := "717d4ef76ce2451484ffff23e3737f1cddbcae621157567695b67146c12e5d1c", func := "loop.example/g01042/laws.FnExactMortarFor", spec := "fnExactMortarFor", apart := false }
def FnExactMortarForSaid : Prop := fnExactMortarForRow.holds Try.pinned (OpenSpec.ofChange fnExactMortarForSpec)

/-- ITS FALSE NEIGHBOUR: 'it returns false'. Refute it at one input. -/
def fnExactMortarForWrong : ChangeSpec := { name := "fnExactMortarFor", fn := fun _ => fun
  | [d1, d2] => { results := [.lit (.bool false)], args := [d1, d2] }
  | _ => none }
def FnExactMortarForWrongFalsely : Prop := fnExactMortarForRow.holds Try.pinned (OpenSpec.ofChange fnExactMortarForWrong)

/-- 'laws.FnExactBricksOfAll': WHATEVER THE INPUT: true; the input reads as it did. -/
def fnExactBricksOfAllSpec : ChangeSpec := { name := "fnExactBricksOfAll", fn := fun _ => fun
  | [d1, d2] => { results := [.lit (.bool true)], args := [d1, d2] }
  | _ => none }
def fnExactBricksOfAllRow : OpenClaim := { program := "ytgnalhnbdpigdaa", sum := "717d4ef76ce2451484ffff23e3737f1cddbcae621157567695b67146c12e5d1c", func := "loop.example/g01042/laws.FnExactBricksOfAll", spec := "fnExactBricksOfAll", unfollowed := true, recurses := true, apart := false }
def FnExactBricksOfAllSaid : Prop := fnExactBricksOfAllRow.holds Try.pinned (OpenSpec.ofChange fnExactBricksOfAllSpec)

/-- ITS FALSE NEIGHBOUR: 'it returns false'. Refute it at one input. -/
def fnExactBricksOfAllWrong : ChangeSpec := { name := "fnExactBricksOfAll", fn := fun _ => fun
  | [d1, d2] => { results := [.lit (.bool false)], args := [d1, d2] }
  | _ => none }
def FnExactBricksOfAllWrongFalsely : Prop := fnExactBricksOfAllRow.holds Try.pinned (OpenSpec.ofChange fnExactBricksOfAllWrong)

/-- 'laws.FnExactCheapestPacks': WHATEVER THE INPUT: true; the input reads as it did. -/
def fnExactCheapestPacksSpec : ChangeSpec := { name := "fnExactCheapestPacks", fn := fun _ => fun
  | [d1, d2, d3] => { results := [.lit (.bool true)], args := [d1, d2, d3] }
  | _ => none }
def fnExactCheapestPacksRow : OpenClaim := { program := "ytgnalhnbdpigdaa", sum := "717d4ef76ce2451484ffff23e3737f1cddbcae621157567695b67146c12e5d1c", func := "loop.example/g01042/laws.FnExactCheapestPacks", spec := "fnExactCheapestPacks", unfollowed := true, recurses := true, apart := false }
def FnExactCheapestPacksSaid : Prop := fnExactCheapestPacksRow.holds Try.pinned (OpenSpec.ofChange fnExactCheapestPacksSpec)

/-- ITS FALSE NEIGHBOUR: 'it returns false'. Refute it at one input. -/
def fnExactCheapestPacksWrong : ChangeSpec := { name := "fnExactCheapestPacks", fn := fun _ => fun
  | [d1, d2, d3] => { results := [.lit (.bool false)], args := [d1, d2, d3] }
  | _ => none }
def FnExactCheapestPacksWrongFalsely : Prop := fnExactCheapestPacksRow.holds Try.pinned (OpenSpec.ofChange fnExactCheapestPacksWrong)

/-- 'laws.FnExactShareBricks': WHATEVER THE INPUT: true; the input reads as it did. -/
def fnExactShareBricksSpec : ChangeSpec := { name := "fnExactShareBricks", fn := fun _ => fun
  | [d1, d2, d3] => { results := [.lit (.bool true)], args := [d1, d2, d3] }
  | _ => none }
def fnExactShareBricksRow : OpenClaim := { program := "ytgnalhnbdpigdaa", sum := "717d4ef76ce2451484ffff23e3737f1cddbcae621157567695b67146c12e5d1c", func := "loop.example/g01042/laws.FnExactShareBricks", spec := "fnExactShareBricks", unfollowed := true, recurses := true, apart := false }
def FnExactShareBricksSaid : Prop := fnExactShareBricksRow.holds Try.pinned (OpenSpec.ofChange fnExactShareBricksSpec)

/-- ITS FALSE NEIGHBOUR: 'it returns false'. Refute it at one input. -/
def fnExactShareBricksWrong : ChangeSpec := { name := "fnExactShareBricks", fn := fun _ => fun
  | [d1, d2, d3] => { results := [.lit (.bool false)], args := [d1, d2, d3] }
  | _ => none }
def FnExactShareBricksWrongFalsely : Prop := fnExactShareBricksRow.holds Try.pinned (OpenSpec.ofChange fnExactShareBricksWrong)

/-- 'laws.FnPacks': WHATEVER THE INPUT: true; the input reads as it did. -/
def fnPacksSpec : ChangeSpec := { name := "fnPacks", fn := fun _ => fun
  | [d] => { results := [.lit (.bool true)], args := [d] }
  | _ => none }
def fnPacksRow : OpenClaim := { program := "ytgnalhnbdpigdaa", sum := "717d4ef76ce2451484ffff23e3737f1cddbcae621157567695b67146c12e5d1c", func := "loop.example/g01042/laws.FnPacks", spec := "fnPacks", unfollowed := true, recurses := true, apart := false }
def FnPacksSaid : Prop := fnPacksRow.holds Try.pinned (OpenSpec.ofChange fnPacksSpec)

/-- ITS FALSE NEIGHBOUR: 'it returns false'. Refute it at one input. -/
def fnPacksWrong : ChangeSpec := { name := "fnPacks", fn := fun _ => fun
  | [d] => { results := [.lit (.bool false)], args := [d] }
  | _ => none }
def FnPacksWrongFalsely : Prop := fnPacksRow.holds Try.pinned (OpenSpec.ofChange fnPacksWrong)

/- THE SECOND FORM. 'bulk': how many values and letters a reading holds, each counted each time it is reached (what is shared counts as often as it is met; a slice's spare places count too). A statement '..UptoSaid' is the law's where the arguments, and the package variables that the reading takes, are together of bulk at most 1048576: NARROWER than '..Said'. Prove '..Said' where nothing that the law and all that it calls make is longer than what came in: it says more and counts as full. Else prove '..UptoSaid'. A law counts once. -/
mutual
def uptoBulk {H : Type} : DataW H → Nat
  | .lit (.string bytes) => bytes.length + 1
  | .lit _ => 1
  | .nil => 1
  | .ptr d => uptoBulk d + 1
  | .slice elems spare => uptoBulkAll elems + uptoBulkAll spare + 1
  | .agg parts => uptoBulkAll parts + 1
  | .iface _ d => uptoBulk d + 1
  | .map entries => uptoBulkEntries entries + 1
  | .held _ => 1
def uptoBulkAll {H : Type} : List (DataW H) → Nat
  | [] => 0
  | d :: r => uptoBulk d + uptoBulkAll r
def uptoBulkEntries {H : Type} : List (Lit × DataW H) → Nat
  | [] => 0
  | x :: r => uptoBulkEntry x + uptoBulkEntries r
def uptoBulkEntry {H : Type} : Lit × DataW H → Nat
  | (.string bytes, d) => bytes.length + uptoBulk d + 1
  | (_, d) => uptoBulk d + 1
 end
def uptoSmall : (H : Type) → List (DataW H) → Bool := fun _ ds => decide (uptoBulkAll ds ≤ 1048576)
def OpenSpec.upto (s : _root_.Go.ChangeSpec) : _root_.Go.OpenSpec := { _root_.Go.OpenSpec.ofChange s with cond := some uptoSmall }

/-- 'laws.FnExactWithWaste', WHERE WHAT IT READS IS OF BULK AT MOST 1048576: true; the input reads as it did. -/
def fnExactWithWasteUptoRow : OpenClaim := { program := "ytgnalhnbdpigdaa", sum := "717d4ef76ce2451484ffff23e3737f1cddbcae621157567695b67146c12e5d1c", func := "loop.example/g01042/laws.FnExactWithWaste", spec := "fnExactWithWaste", apart := false, narrowed := true }
def FnExactWithWasteUptoSaid : Prop := fnExactWithWasteUptoRow.holds Try.pinned (OpenSpec.upto fnExactWithWasteSpec)

/-- 'laws.FnExactPacksFor', WHERE WHAT IT READS IS OF BULK AT MOST 1048576: true; the input reads as it did. -/
def fnExactPacksForUptoRow : OpenClaim := { program := "ytgnalhnbdpigdaa", sum := "717d4ef76ce2451484ffff23e3737f1cddbcae621157567695b67146c12e5d1c", func := "loop.example/g01042/laws.FnExactPacksFor", spec := "fnExactPacksFor", apart := false, narrowed := true }
def FnExactPacksForUptoSaid : Prop := fnExactPacksForUptoRow.holds Try.pinned (OpenSpec.upto fnExactPacksForSpec)

/-- 'laws.FnExactBagsFor', WHERE WHAT IT READS IS OF BULK AT MOST 1048576: true; the input reads as it did. -/
def fnExactBagsForUptoRow : OpenClaim := { program := "ytgnalhnbdpigdaa", sum := "717d4ef76ce2451484ffff23e3737f1cddbcae621157567695b67146c12e5d1c", func := "loop.example/g01042/laws.FnExactBagsFor", spec := "fnExactBagsFor", apart := false, narrowed := true }
def FnExactBagsForUptoSaid : Prop := fnExactBagsForUptoRow.holds Try.pinned (OpenSpec.upto fnExactBagsForSpec)

/-- 'laws.FnExactBricksOf', WHERE WHAT IT READS IS OF BULK AT MOST 1048576: true; the input reads as it did. -/
def fnExactBricksOfUptoRow : OpenClaim := { program := "ytgnalhnbdpigdaa", sum := "717d4ef76ce2451484ffff23e3737f1cddbcae621157567695b67146c12e5d1c", func := "loop.example/g01042/laws.FnExactBricksOf", spec := "fnExactBricksOf", apart := false, narrowed := true }
def FnExactBricksOfUptoSaid : Prop := fnExactBricksOfUptoRow.holds Try.pinned (OpenSpec.upto fnExactBricksOfSpec)

/-- 'laws.FnExactBricksForMetre', WHERE WHAT IT READS IS OF BULK AT MOST 1048576: true; the input reads as it did. -/
def fnExactBricksForMetreUptoRow : OpenClaim := { program := "ytgnalhnbdpigdaa", sum := "717d4ef76ce2451484ffff23e3737f1cddbcae621157567695b67146c12e5d1c", func := "loop.example/g01042/laws.FnExactBricksForMetre", spec := "fnExactBricksForMetre", apart := false, narrowed := true }
def FnExactBricksForMetreUptoSaid : Prop := fnExactBricksForMetreUptoRow.holds Try.pinned (OpenSpec.upto fnExactBricksForMetreSpec)

/-- 'laws.FnExactValidPieces', WHERE WHAT IT READS IS OF BULK AT MOST 1048576: true; the input reads as it did. -/
def fnExactValidPiecesUptoRow : OpenClaim := { program := "ytgnalhnbdpigdaa", sum := "717d4ef76ce2451484ffff23e3737f1cddbcae621157567695b67146c12e5d1c", func := "loop.example/g01042/laws.FnExactValidPieces", spec := "fnExactValidPieces", unfollowed := true, recurses := true, apart := false, narrowed := true }
def FnExactValidPiecesUptoSaid : Prop := fnExactValidPiecesUptoRow.holds Try.pinned (OpenSpec.upto fnExactValidPiecesSpec)

/-- 'laws.FnExactMortarFor', WHERE WHAT IT READS IS OF BULK AT MOST 1048576: true; the input reads as it did. -/
def fnExactMortarForUptoRow : OpenClaim := { program := "ytgnalhnbdpigdaa", sum := "717d4ef76ce2451484ffff23e3737f1cddbcae621157567695b67146c12e5d1c", func := "loop.example/g01042/laws.FnExactMortarFor", spec := "fnExactMortarFor", apart := false, narrowed := true }
def FnExactMortarForUptoSaid : Prop := fnExactMortarForUptoRow.holds Try.pinned (OpenSpec.upto fnExactMortarForSpec)

/-- 'laws.FnExactBricksOfAll', WHERE WHAT IT READS IS OF BULK AT MOST 1048576: true; the input reads as it did. -/
def fnExactBricksOfAllUptoRow : OpenClaim := { program := "ytgnalhnbdpigdaa", sum := "717d4ef76ce2451484ffff23e3737f1cddbcae621157567695b67146c12e5d1c", func := "loop.example/g01042/laws.FnExactBricksOfAll", spec := "fnExactBricksOfAll", unfollowed := true, recurses := true, apart := false, narrowed := true }
def FnExactBricksOfAllUptoSaid : Prop := fnExactBricksOfAllUptoRow.holds Try.pinned (OpenSpec.upto fnExactBricksOfAllSpec)

/-- 'laws.FnExactCheapestPacks', WHERE WHAT IT READS IS OF BULK AT MOST 1048576: true; the input reads as it did. -/
def fnExactCheapestPacksUptoRow : OpenClaim := { program := "ytgnalhnbdpigdaa", sum := "717d4ef76ce2451484ffff23e3737f1cddbcae621157567695b67146c12e5d1c", func := "loop.example/g01042/laws.FnExactCheapestPacks", spec := "fnExactCheapestPacks", unfollowed := true, recurses := true, apart := false, narrowed := true }
def FnExactCheapestPacksUptoSaid : Prop := fnExactCheapestPacksUptoRow.holds Try.pinned (OpenSpec.upto fnExactCheapestPacksSpec)

/-- 'laws.FnExactShareBricks', WHERE WHAT IT READS IS OF BULK AT MOST 1048576: true; the input reads as it did. -/
def fnExactShareBricksUptoRow : OpenClaim := { program := "ytgnalhnbdpigdaa", sum := "717d4ef76ce2451484ffff23e3737f1cddbcae621157567695b67146c12e5d1c", func := "loop.example/g01042/laws.FnExactShareBricks", spec := "fnExactShareBricks", unfollowed := true, recurses := true, apart := false, narrowed := true }
def FnExactShareBricksUptoSaid : Prop := fnExactShareBricksUptoRow.holds Try.pinned (OpenSpec.upto fnExactShareBricksSpec)

/-- 'laws.FnPacks', WHERE WHAT IT READS IS OF BULK AT MOST 1048576: true; the input reads as it did. -/
def fnPacksUptoRow : OpenClaim := { program := "ytgnalhnbdpigdaa", sum := "717d4ef76ce2451484ffff23e3737f1cddbcae621157567695b67146c12e5d1c", func := "loop.example/g01042/laws.FnPacks", spec := "fnPacks", unfollowed := true, recurses := true, apart := false, narrowed := true }
def FnPacksUptoSaid : Prop := fnPacksUptoRow.holds Try.pinned (OpenSpec.upto fnPacksSpec)

end Rows
end Go.Proofs.Ytgnalhnbdpigdaa
