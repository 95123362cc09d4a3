/- The codes of what wants an arch that stands, and a fraction that lies in memory; no function of the program is named. -/
import Derived.Test.YtklhaanapembdaaCanP
namespace Go.Proofs.Ytklhaanapembdaa
open Go.RowKit
theorem csC_cases (ls lo hi : List Int) : (canV ls lo hi = true ∧ csC ls lo hi = 0) ∨ (canV ls lo hi = false ∧ (csC ls lo hi = 1 ∨ csC ls lo hi = 10)) := by
  cases g : blkB ls lo hi
  · exact .inr ⟨canV_bad g, .inl (cs_bad g)⟩
  · cases g2 : standB (bfind ls lo hi)
    · exact .inr ⟨(canV_eq g).trans g2, .inr (cs_cracked g g2)⟩
    · exact .inl ⟨(canV_eq g).trans g2, cs_ok g g2⟩
/-- A fraction's block, and its cells. -/
def FrAt (w : World) (g : Nat) (n d : Int) : Prop := w.heap[g]? = some (.cells #[.int .i64 n, .int .i64 d] 31 (0, 0))
theorem FrAt.cells {w : World} {g : Nat} {n d : Int} (h : FrAt w g n d) : w.cell? ⟨g, 0, none⟩ = some (.int .i64 n) ∧ w.cell? ⟨g, 1, none⟩ = some (.int .i64 d) ∧ (∀ i, w.frozen? ⟨g, i, none⟩ = false) := by
  refine ⟨?_, ?_, fun i => frozenOf h i⟩
  · rw [cellOf h]; rfl
  · rw [cellOf h]; rfl
end Go.Proofs.Ytklhaanapembdaa
