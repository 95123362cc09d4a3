/-
  DERIVED. GIVEN WITH THE SEED: THE CARDS: each row of YtgnalhnbdpigdaaDoorRows.lean that lists a variable, with what it lists TIED to the program's text (the seventh form; the later family's looks); each row that meets fmt, with fmt's text TOLD by the authors' own Lean function (tested against real Go, not proved from fmt's source: count such statements apart). THE CARD IS WHAT COUNTS. Prove the row's statement (the work); the ties are given (YtgnalhnbdpigdaaDoorTie.lean); close each card by the builder's one call (the guide's Derived/Test/ToyasCard.lean, 'card_holds'). Laid BY PROGRAM, IN A SANDBOX (cutbox-door.mjs). By AI agents, Wed Nov 11 2026. No macro, syntax, notation, axiom, sorry.
-/
import Derived.Test.YtgnalhnbdpigdaaDoorRows
import GoSem.ClaimSeven
namespace Go.Proofs.YtgnalhnbdpigdaaDoor
namespace Rows

/-- THE TIED CARD OF 'laws.FnExactPieceText'. -/
def fnExactPieceTextCard : Claim7 := { stood := { row := fnExactPieceTextRow, standIns := [], harness := (true, "c9ddf004dab8e82d1d880456e90d4d7a08b5798c9e20bdc78f5f65987a0e161b"), looks := false }, kinds := [], alts := [], laidByText := true, laidKinds := [.data, .data, .data], laidTests := true, laidLooks := .later }
def FnExactPieceTextCardSaid : Prop := Claim7.holds Tryd.pinned (.plain (OpenSpec.ofChange fnExactPieceTextSpec)) fnExactPieceTextCard

/-- THE TIED CARD OF 'laws.FnPieceCounts'. -/
def fnPieceCountsCard : Claim7 := { stood := { row := fnPieceCountsRow, standIns := [], harness := (true, "c9ddf004dab8e82d1d880456e90d4d7a08b5798c9e20bdc78f5f65987a0e161b"), looks := false }, kinds := [], alts := [], laidByText := true, laidKinds := [.data, .data, .data], laidTests := true, laidLooks := .later }
def FnPieceCountsCardSaid : Prop := Claim7.holds Tryd.pinned (.plain (OpenSpec.ofChange fnPieceCountsSpec)) fnPieceCountsCard

/-- THE SECOND FORM's CARD OF 'laws.FnExactPieceText'. -/
def fnExactPieceTextUptoCard : Claim7 := { stood := { row := fnExactPieceTextUptoRow, standIns := [], harness := (true, "c9ddf004dab8e82d1d880456e90d4d7a08b5798c9e20bdc78f5f65987a0e161b"), looks := false }, kinds := [], alts := [], laidByText := true, laidKinds := [.data, .data, .data], laidTests := true, laidLooks := .later }
def FnExactPieceTextUptoCardSaid : Prop := Claim7.holds Tryd.pinned (.plain (OpenSpec.upto fnExactPieceTextSpec)) fnExactPieceTextUptoCard

/-- THE SECOND FORM's CARD OF 'laws.FnPieceCounts'. -/
def fnPieceCountsUptoCard : Claim7 := { stood := { row := fnPieceCountsUptoRow, standIns := [], harness := (true, "c9ddf004dab8e82d1d880456e90d4d7a08b5798c9e20bdc78f5f65987a0e161b"), looks := false }, kinds := [], alts := [], laidByText := true, laidKinds := [.data, .data, .data], laidTests := true, laidLooks := .later }
def FnPieceCountsUptoCardSaid : Prop := Claim7.holds Tryd.pinned (.plain (OpenSpec.upto fnPieceCountsSpec)) fnPieceCountsUptoCard
end Rows
end Go.Proofs.YtgnalhnbdpigdaaDoor
