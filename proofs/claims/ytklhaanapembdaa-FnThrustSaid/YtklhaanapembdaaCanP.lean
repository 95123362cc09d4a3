/- Plain functions: what CanStand, CurvatureBounds, LeastThrust and WhyNot answer; no program in sight. -/
import Derived.Test.YtklhaanapembdaaStandP
namespace Go.Proofs.Ytklhaanapembdaa
def canV (ls lo hi : List Int) : Bool := blkB ls lo hi && standB (bfind ls lo hi)
/-- The code of what wants an arch that stands. -/
def csC (ls lo hi : List Int) : Int := if blkB ls lo hi = true then (if standB (bfind ls lo hi) = true then 0 else 10) else 1
/-- The bounds of the curvature. -/
def loN (S : Bnds) : Int := if S.hl = true ∧ 0 < S.low.a then lwN S.low.a S.low.b else 0
def loD (S : Bnds) : Int := if S.hl = true ∧ 0 < S.low.a then lwD S.low.a S.low.b else 1
def sN (S : Bnds) : Int := lwN (-S.high.a) (-S.high.b)
def sD (S : Bnds) : Int := lwD (-S.high.a) (-S.high.b)
def cvLN (ls lo hi : List Int) : Int := if canV ls lo hi = true then loN (bfind ls lo hi) else 0
def cvLD (ls lo hi : List Int) : Int := if canV ls lo hi = true then loD (bfind ls lo hi) else 0
def cvHN (ls lo hi : List Int) : Int := if canV ls lo hi = true then sN (bfind ls lo hi) else 0
def cvHD (ls lo hi : List Int) : Int := if canV ls lo hi = true then sD (bfind ls lo hi) else 0
/-- The least thrust. -/
def ltN (ls lo hi : List Int) : Int := if canV ls lo hi = true then lwN (sD (bfind ls lo hi)) (2 * sN (bfind ls lo hi)) else 0
def ltD (ls lo hi : List Int) : Int := if canV ls lo hi = true then lwD (sD (bfind ls lo hi)) (2 * sN (bfind ls lo hi)) else 0
theorem canV_t {ls lo hi : List Int} (h : canV ls lo hi = true) : blkB ls lo hi = true ∧ standB (bfind ls lo hi) = true := by simpa [canV] using h
theorem cs_bad {ls lo hi : List Int} (h : blkB ls lo hi = false) : csC ls lo hi = 1 := by simp [csC, h]
theorem cs_cracked {ls lo hi : List Int} (h : blkB ls lo hi = true) (h2 : standB (bfind ls lo hi) = false) : csC ls lo hi = 10 := by simp [csC, h, h2]
theorem cs_ok {ls lo hi : List Int} (h : blkB ls lo hi = true) (h2 : standB (bfind ls lo hi) = true) : csC ls lo hi = 0 := by simp [csC, h, h2]
theorem canV_bad {ls lo hi : List Int} (h : blkB ls lo hi = false) : canV ls lo hi = false := by simp [canV, h]
theorem canV_eq {ls lo hi : List Int} (h : blkB ls lo hi = true) : canV ls lo hi = standB (bfind ls lo hi) := by simp [canV, h]
theorem cv_no {ls lo hi : List Int} (h : canV ls lo hi = false) : cvLN ls lo hi = 0 ∧ cvLD ls lo hi = 0 ∧ cvHN ls lo hi = 0 ∧ cvHD ls lo hi = 0 ∧ ltN ls lo hi = 0 ∧ ltD ls lo hi = 0 := by simp [cvLN, cvLD, cvHN, cvHD, ltN, ltD, h]
theorem cv_yes {ls lo hi : List Int} (h : canV ls lo hi = true) : cvLN ls lo hi = loN (bfind ls lo hi) ∧ cvLD ls lo hi = loD (bfind ls lo hi) ∧ cvHN ls lo hi = sN (bfind ls lo hi) ∧ cvHD ls lo hi = sD (bfind ls lo hi) ∧ ltN ls lo hi = lwN (sD (bfind ls lo hi)) (2 * sN (bfind ls lo hi)) ∧ ltD ls lo hi = lwD (sD (bfind ls lo hi)) (2 * sN (bfind ls lo hi)) := by simp [cvLN, cvLD, cvHN, cvHD, ltN, ltD, h]
/-- An arch that stands has a negative upper condition. -/
theorem stand_neg {S : Bnds} (h : standB S = true) (hh : S.hh = true) : S.high.a < 0 ∧ S.hn = false ∧ (S.hl = true → lessC S.high.a S.high.b S.low.a S.low.b = false) := by
  simp only [standB, Bool.and_eq_true, Bool.not_eq_true', Bool.or_eq_true, decide_eq_true_eq, Bool.and_eq_false_iff] at h
  obtain ⟨⟨h1, h2⟩, h3⟩ := h
  refine ⟨?_, h1, fun hl => ?_⟩
  · rcases h2 with h2 | h2
    · rw [hh] at h2; cases h2
    · exact h2
  · rcases h3 with (h3 | h3) | h3
    · rw [hl] at h3; cases h3
    · rw [hh] at h3; cases h3
    · exact h3
/-- The numbers of the upper bound are small. -/
theorem s_bd {S : Bnds} (hg : goodS S) (hh : S.hh = true) (ha : S.high.a < 0) : 1 ≤ sN S ∧ sN S ≤ 1000000 ∧ 1 ≤ sD S ∧ sD S ≤ 1000000000 := by
  obtain ⟨g1, g2, g3, g4, g5⟩ := hg.2.1 hh
  refine ⟨lwN_pos _ _ (by omega), Int.le_trans (lwN_le _ _ (by omega)) (by omega), lwD_pos _ _ (by omega), Int.le_trans (lwD_le _ _ (by omega)) (by omega)⟩
end Go.Proofs.Ytklhaanapembdaa
