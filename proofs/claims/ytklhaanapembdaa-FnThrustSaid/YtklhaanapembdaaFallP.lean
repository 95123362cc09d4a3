/- The plain law of ProvesFall: four joints of a condition, and what two conditions prove; no function of the program is named. -/
import Derived.Test.YtklhaanapembdaaCanP
namespace Go.Proofs.Ytklhaanapembdaa

/-- Four joints of a condition, from 0 to n. -/
def fourB (z : List Int) (n : Int) : Bool := decide (z.length = 4) && (insB z 0 n && (decide (z.getD 1 0 < z.getD 0 0) && decide (z.getD 2 0 < z.getD 3 0)))
theorem fourB_t {z : List Int} {n : Int} (h : fourB z n = true) : z.length = 4 ∧ insB z 0 n = true ∧ z.getD 1 0 < z.getD 0 0 ∧ z.getD 2 0 < z.getD 3 0 := by
  simpa [fourB, and_assoc] using h
/-- The condition of four joints of a list. -/
def cndZ (ls lo hi z : List Int) : Cnd := cnd ls lo hi (z.getD 0 0).toNat (z.getD 1 0).toNat (z.getD 2 0).toNat (z.getD 3 0).toNat
theorem four_rng {ls lo hi z : List Int} (h : fourB z ((lo.length : Int) - 1) = true) :
    ∃ j k p q : Nat, z = [(j : Int), (k : Int), (p : Int), (q : Int)] ∧ k < j ∧ j < lo.length ∧ p < q ∧ q < lo.length ∧ cndZ ls lo hi z = cnd ls lo hi j k p q := by
  obtain ⟨h1, h2, h3, h4⟩ := fourB_t h
  have b := fun i hi => insB_t h2 i hi
  have b0 := b 0 (by omega)
  have b1 := b 1 (by omega)
  have b2 := b 2 (by omega)
  have b3 := b 3 (by omega)
  match z, h1 with
  | [x0, x1, x2, x3], _ =>
    simp only [List.getD_cons_zero, List.getD_cons_succ] at *
    refine ⟨x0.toNat, x1.toNat, x2.toNat, x3.toNat, ?_, by omega, by omega, by omega, by omega, ?_⟩
    · rw [show ((x0.toNat : Nat) : Int) = x0 by omega, show ((x1.toNat : Nat) : Int) = x1 by omega, show ((x2.toNat : Nat) : Int) = x2 by omega, show ((x3.toNat : Nat) : Int) = x3 by omega]
    · simp [cndZ]
/-- The code of ProvesFall. -/
def pfOk (ls lo hi zl zh : List Int) : Bool := blkB ls lo hi && ((decide (zl.length = 0) || fourB zl ((lo.length : Int) - 1)) && fourB zh ((lo.length : Int) - 1))
def pfC (ls lo hi zl zh : List Int) : Int := if blkB ls lo hi = true then (if pfOk ls lo hi zl zh = true then 0 else 2) else 1
/-- Whether y alone, or x with y, forbid every line. -/
def pfY (zl : List Int) (x y : Cnd) : Bool :=
  if 0 < y.b then false else if y.b = 0 then decide (0 < y.a) else if 0 ≤ y.a then true else if zl.length = 0 then false else decide (0 < x.b) && lessC y.a y.b x.a x.b
def pfV (ls lo hi zl zh : List Int) : Bool := pfOk ls lo hi zl zh && pfY zl (cndZ ls lo hi zl) (cndZ ls lo hi zh)
theorem pf_bad {ls lo hi zl zh : List Int} (h : blkB ls lo hi = false) : pfC ls lo hi zl zh = 1 ∧ pfV ls lo hi zl zh = false := by simp [pfC, pfV, pfOk, h]
theorem pf_low {ls lo hi zl zh : List Int} (h : blkB ls lo hi = true) (h1 : zl.length ≠ 0) (h2 : fourB zl ((lo.length : Int) - 1) = false) : pfC ls lo hi zl zh = 2 ∧ pfV ls lo hi zl zh = false := by simp [pfC, pfV, pfOk, h, h1, h2]
theorem pf_high {ls lo hi zl zh : List Int} (h : blkB ls lo hi = true) (h2 : fourB zh ((lo.length : Int) - 1) = false) : pfC ls lo hi zl zh = 2 ∧ pfV ls lo hi zl zh = false := by simp [pfC, pfV, pfOk, h, h2]
theorem pf_ok {ls lo hi zl zh : List Int} (h : blkB ls lo hi = true) (h1 : zl.length = 0 ∨ fourB zl ((lo.length : Int) - 1) = true) (h2 : fourB zh ((lo.length : Int) - 1) = true) : pfC ls lo hi zl zh = 0 ∧ pfV ls lo hi zl zh = pfY zl (cndZ ls lo hi zl) (cndZ ls lo hi zh) := by
  have : pfOk ls lo hi zl zh = true := by rcases h1 with h1 | h1 <;> simp [pfOk, h, h1, h2]
  simp [pfC, pfV, h, this]
end Go.Proofs.Ytklhaanapembdaa
