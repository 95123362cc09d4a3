/- The plain law of the counts of bricks: bricks cover the wall, shared bricks have their sum, waste never makes them fewer; no program in sight. -/
import Derived.Test.YtgnalhnbdpigdaaDoorPiecesM
import Derived.Test.YtgnalhnbdpigdaaDoorPiecesS
import Derived.Test.YtgnalhnbdpigdaaDoorPiece
import Derived.Test.YtgnalhnbdpigdaaDoorSix
namespace Go.Proofs.YtgnalhnbdpigdaaDoor
set_option linter.unusedVariables false

theorem shares_get (l h j : Int) (ps : List (Int × Int × Int)) (B : Int) {n i : Nat} (hi : i < n) : (shares l h j ps B n).getD i 0 = shAt l h j ps B i := by
  simp [shares, List.getD_eq_getElem?_getD, hi]
theorem shares_sum (l h j : Int) (ps : List (Int × Int × Int)) (B : Int) (n k : Nat) (hk : k ≤ n) : preQ (shares l h j ps B n) k = B * bsum l h j ps k / bsum l h j ps ps.length := by
  induction k with
  | zero => simp [preQ, bsum]
  | succ k ih =>
    simp only [preQ]
    rw [ih (by omega), shares_get _ _ _ _ _ (by omega)]
    unfold shAt
    omega
theorem bsum_step {l h j : Int} {ps : List (Int × Int × Int)} (h1 : 100 ≤ l) (h2 : l ≤ 500) (h3 : 30 ≤ h) (h4 : h ≤ 150) (h5 : 0 ≤ j) (h6 : j ≤ 20) (hp : allP ps = true) (k : Nat) (hk : k < ps.length) : bsum l h j ps k ≤ bsum l h j ps (k + 1) := by
  have := brk_bd h1 h2 h3 h4 h5 h6 (allP_t hp k hk)
  simp only [bsum]
  omega
theorem bsum_to {l h j : Int} {ps : List (Int × Int × Int)} (h1 : 100 ≤ l) (h2 : l ≤ 500) (h3 : 30 ≤ h) (h4 : h ≤ 150) (h5 : 0 ≤ j) (h6 : j ≤ 20) (hp : allP ps = true) (d : Nat) : ∀ k, k + d = ps.length → bsum l h j ps k ≤ bsum l h j ps ps.length := by
  induction d with
  | zero => intro k hk; have e : k = ps.length := by omega
            rw [e]; exact Int.le_refl _
  | succ d ih => intro k hk; exact Int.le_trans (bsum_step h1 h2 h3 h4 h5 h6 hp k (by omega)) (ih (k + 1) (by omega))
theorem shAt_bd {l h j B : Int} {ps : List (Int × Int × Int)} (h1 : 100 ≤ l) (h2 : l ≤ 500) (h3 : 30 ≤ h) (h4 : h ≤ 150) (h5 : 0 ≤ j) (h6 : j ≤ 20) (hp : allP ps = true) (hB : 0 ≤ B) (hB2 : B ≤ 1000000) (k : Nat) (hk : k < ps.length) : 0 ≤ shAt l h j ps B k ∧ shAt l h j ps B k ≤ 1000000 := by
  have hD := (bsum_bd h1 h2 h3 h4 h5 h6 hp ps.length (Nat.le_refl _)).1
  have hk0 := (bsum_bd h1 h2 h3 h4 h5 h6 hp k (by omega)).1
  have s1 := bsum_step h1 h2 h3 h4 h5 h6 hp k hk
  have s2 := bsum_to h1 h2 h3 h4 h5 h6 hp (ps.length - (k + 1)) (k + 1) (by omega)
  unfold shAt
  generalize bsum l h j ps ps.length = D at *
  generalize bsum l h j ps (k + 1) = y at *
  generalize bsum l h j ps k = x at *
  have hD1 : 0 < D := by omega
  have e1 : B * x / D ≤ B * y / D := Int.ediv_le_ediv hD1 (Int.mul_le_mul_of_nonneg_left s1 hB)
  have e2 : B * y / D ≤ B * D / D := Int.ediv_le_ediv hD1 (Int.mul_le_mul_of_nonneg_left s2 hB)
  have e3 : 0 ≤ B * x / D := Int.ediv_nonneg (Int.mul_nonneg hB (by omega)) (by omega)
  rw [Int.mul_ediv_cancel _ (by omega)] at e2
  omega
/-- Shared bricks have their sum, or are told to be none. -/
theorem share_cases (l d h j : Int) (ps : List (Int × Int × Int)) (B : Int) :
    (shC l d h j ps B = 0 ∧ (shI l d h j ps B).length ≤ 20 ∧ (∀ i, i < (shI l d h j ps B).length → 0 ≤ (shI l d h j ps B).getD i 0 ∧ (shI l d h j ps B).getD i 0 ≤ 1000000000) ∧ preQ (shI l d h j ps B) (shI l d h j ps B).length = B) ∨
    ((shC l d h j ps B = 1 ∨ shC l d h j ps B = 2 ∨ shC l d h j ps B = 3) ∧ shI l d h j ps B = []) := by
  cases g : fmtB l d h j && vpB ps
  · obtain ⟨a, b⟩ := sh_bad (B := B) g
    exact .inr ⟨.inl a, b⟩
  · cases g1 : inB B 0 1000000
    · obtain ⟨a, b⟩ := sh_range g g1
      exact .inr ⟨.inr (.inl a), b⟩
    · by_cases g2 : ps.length = 0
      · obtain ⟨a, b⟩ := sh_none g g1 g2
        exact .inr ⟨.inr (.inr a), b⟩
      · obtain ⟨a, b⟩ := sh_ok g g1 g2
        have g' := g
        rw [Bool.and_eq_true] at g'
        obtain ⟨f1, f2, f3, f4, f5, f6, f7, f8, f9⟩ := fmtB_t g'.1
        obtain ⟨v1, v2⟩ := vpB_t g'.2
        obtain ⟨b1, b2⟩ := inB_t g1
        have hD := (bsum_bd f1 f2 f5 f6 f7 f8 v2 ps.length (Nat.le_refl _)).1
        refine .inl ⟨a, ?_, ?_, ?_⟩
        · rw [b, shares_len]; omega
        · rw [b, shares_len]
          intro i hi
          rw [shares_get _ _ _ _ _ hi]
          have := shAt_bd f1 f2 f5 f6 f7 f8 v2 b1 b2 i hi
          omega
        · rw [b, shares_len, shares_sum _ _ _ _ _ _ _ (Nat.le_refl _)]
          exact Int.mul_ediv_cancel _ (by omega)
/-- Waste never makes bricks fewer. -/
theorem waste_cases (b p : Int) : (∃ m, wasteI b p = (m, 0) ∧ b ≤ m) ∨ wasteI b p = (0, 2) := by
  by_cases h : inB b 0 1000000 = true ∧ inB p 0 1000 = true
  · obtain ⟨h1, h2⟩ := h
    refine .inl ⟨_, wasteI_yes h1 h2, ?_⟩
    obtain ⟨a1, a2⟩ := inB_t h1
    obtain ⟨a3, a4⟩ := inB_t h2
    have := Int.mul_nonneg a1 a3
    rw [Int.mul_add]
    have e : b ≤ (b * 1000) / 1000 := by rw [Int.mul_ediv_cancel _ (by omega)]; exact Int.le_refl _
    exact Int.le_trans e (Int.ediv_le_ediv (by omega) (by omega))
  · exact .inr (wasteI_no (two_f h))
/-- Bricks cover the wall, and one fewer do not. -/
theorem brick_cases (l d h j pl ph pk : Int) :
    (∃ n, bricksI l d h j pl ph pk = (n, 0) ∧ pl * ph * pk ≤ n * ((l + j) * (h + j)) ∧ (n - 1) * ((l + j) * (h + j)) < pl * ph * pk ∧ 1 ≤ n ∧ n ≤ 12000000000 ∧ 3000 ≤ (l + j) * (h + j) ∧ (l + j) * (h + j) ≤ 88400 ∧
      100 ≤ l ∧ l ≤ 500 ∧ 30 ≤ h ∧ h ≤ 150 ∧ 0 ≤ j ∧ j ≤ 20 ∧ 1 ≤ pl * ph ∧ pl * ph ≤ 2000000000 ∧ 1 ≤ pl * ph * pk ∧ pl * ph * pk ≤ 12000000000 ∧ 0 ≤ n * ((l + j) * (h + j)) ∧ n * ((l + j) * (h + j)) ≤ 2000000000000000 ∧ 0 ≤ (n - 1) * ((l + j) * (h + j))) ∨ bricksI l d h j pl ph pk = (0, 1) := by
  by_cases g : fmtB l d h j = true ∧ pieceB pl ph pk = true
  · obtain ⟨g1, g2⟩ := g
    obtain ⟨f1, f2, f3, f4, f5, f6, f7, f8, f9⟩ := fmtB_t g1
    obtain ⟨p1, p2, p3, p4, p5, p6⟩ := pieceB_t g2
    obtain ⟨m1, m2⟩ := face_bd f1 f2 f5 f6 f7 f8
    obtain ⟨⟨v1, v2⟩, v3, v4⟩ := vol_bd p1 p2 p3 p4 p5 p6
    have hb := brk_bd (p := (pl, ph, pk)) f1 f2 f5 f6 f7 f8 g2
    obtain ⟨r1, r2, r3, r4⟩ := rupI_bd (n := pl * ph * pk) (d := (l + j) * (h + j)) (by omega) (by omega)
    simp only [brk, bricksN] at hb
    refine .inl ⟨_, bricksI_yes g1 g2, ?_⟩
    unfold bricksN
    generalize rupI (pl * ph * pk) ((l + j) * (h + j)) = n at *
    generalize (l + j) * (h + j) = F at *
    have q1 : n * F ≤ 12000000000 * 88400 := Int.mul_le_mul hb.2 m2 (by omega) (by omega)
    have q2 : 0 ≤ (n - 1) * F := Int.mul_nonneg (by omega) (by omega)
    exact ⟨r3, r4 hb.1, hb.1, hb.2, m1, m2, f1, f2, f5, f6, f7, f8, v1, v2, v3, v4, by omega, by omega, q2⟩
  · refine .inr (bricksI_no ?_)
    rcases two_f g with g | g
    · exact .inl g
    · exact .inr g
end Go.Proofs.YtgnalhnbdpigdaaDoor
