/-
  DERIVED. GIVEN WITH THE SEED: THE CARDS: each row of YtgpcehokdfehjaaDoorRows.lean that lists a variable, with what it lists TIED to the program's text (the seventh form; the later family's looks); each row that meets fmt, with fmt's text TOLD by the authors' own Lean function (tested against real Go, not proved from fmt's source: count such statements apart). THE CARD IS WHAT COUNTS. Prove the row's statement (the work); the ties are given (YtgpcehokdfehjaaDoorTie.lean); close each card by the builder's one call (the guide's Derived/Test/ToyasCard.lean, 'card_holds'). Laid BY PROGRAM, IN A SANDBOX (cutbox-door.mjs). By AI agents, Wed Nov 11 2026. No macro, syntax, notation, axiom, sorry.
-/
import Derived.Test.YtgpcehokdfehjaaDoorRows
import GoSem.ClaimSeven
namespace Go.Proofs.YtgpcehokdfehjaaDoor
namespace Rows

/-- THE TIED CARD OF 'laws.FnExactRodText'. -/
def fnExactRodTextCard : Claim7 := { stood := { row := fnExactRodTextRow, standIns := [], harness := (true, "763999a8eb2e35b117c389f40deea75fa61857c77605b09156492de2395a362d"), looks := false }, kinds := [], alts := [], laidByText := true, laidKinds := [.data, .data, .data], laidTests := true, laidLooks := .later }
def FnExactRodTextCardSaid : Prop := Claim7.holds Tryd.pinned (.plain (OpenSpec.ofChange fnExactRodTextSpec)) fnExactRodTextCard

/-- THE TIED CARD OF 'laws.FnRods'. -/
def fnRodsCard : Claim7 := { stood := { row := fnRodsRow, standIns := [], harness := (true, "763999a8eb2e35b117c389f40deea75fa61857c77605b09156492de2395a362d"), looks := false }, kinds := [], alts := [], laidByText := true, laidKinds := [.data, .data, .data], laidTests := true, laidLooks := .later }
def FnRodsCardSaid : Prop := Claim7.holds Tryd.pinned (.plain (OpenSpec.ofChange fnRodsSpec)) fnRodsCard

/-- THE SECOND FORM's CARD OF 'laws.FnExactRodText'. -/
def fnExactRodTextUptoCard : Claim7 := { stood := { row := fnExactRodTextUptoRow, standIns := [], harness := (true, "763999a8eb2e35b117c389f40deea75fa61857c77605b09156492de2395a362d"), looks := false }, kinds := [], alts := [], laidByText := true, laidKinds := [.data, .data, .data], laidTests := true, laidLooks := .later }
def FnExactRodTextUptoCardSaid : Prop := Claim7.holds Tryd.pinned (.plain (OpenSpec.upto fnExactRodTextSpec)) fnExactRodTextUptoCard

/-- THE SECOND FORM's CARD OF 'laws.FnRods'. -/
def fnRodsUptoCard : Claim7 := { stood := { row := fnRodsUptoRow, standIns := [], harness := (true, "763999a8eb2e35b117c389f40deea75fa61857c77605b09156492de2395a362d"), looks := false }, kinds := [], alts := [], laidByText := true, laidKinds := [.data, .data, .data], laidTests := true, laidLooks := .later }
def FnRodsUptoCardSaid : Prop := Claim7.holds Tryd.pinned (.plain (OpenSpec.upto fnRodsSpec)) fnRodsUptoCard
end Rows
end Go.Proofs.YtgpcehokdfehjaaDoor
