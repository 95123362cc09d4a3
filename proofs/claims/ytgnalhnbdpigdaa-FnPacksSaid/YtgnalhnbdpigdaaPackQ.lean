/- The plain law of packs: the cheapest packs have enough bricks, and packs of one size are no cheaper; bags hold the mortar; no program in sight. -/
import Derived.Test.YtgnalhnbdpigdaaPackA
import Derived.Test.YtgnalhnbdpigdaaPieceB
namespace Go.Proofs.Ytgnalhnbdpigdaa
set_option linter.unusedVariables false

/-- The sum of the products of the first k. -/
def pks (m T : List Int) : Nat → Int
  | 0 => 0
  | i + 1 => pks m T i + m.getD i 0 * T.getD i 0
theorem getD_set_self {m : List Int} {l : Nat} (h : l < m.length) (v : Int) : (m.set l v).getD l 0 = v := by
  rw [List.getD_eq_getElem?_getD, List.getElem?_set_self h]; rfl
theorem getD_set_ne {m : List Int} {l i : Nat} (h : l ≠ i) (v : Int) : (m.set l v).getD i 0 = m.getD i 0 := by
  rw [List.getD_eq_getElem?_getD, List.getElem?_set_ne h, ← List.getD_eq_getElem?_getD]
theorem pks_set (m T : List Int) {l : Nat} (hl : l < m.length) (n : Nat) : pks (m.set l (m.getD l 0 + 1)) T n = pks m T n + (if l < n then T.getD l 0 else 0) := by
  induction n with
  | zero => simp [pks]
  | succ n ih =>
    simp only [pks]
    rw [ih]
    by_cases e : l = n
    · subst e
      rw [getD_set_self hl, if_neg (by omega), if_pos (by omega), Int.add_mul]
      omega
    · rw [getD_set_ne e]
      by_cases h : l < n
      · rw [if_pos h, if_pos (by omega)]; omega
      · rw [if_neg h, if_neg (by omega)]; omega
theorem pks_zero (T : List Int) (j n : Nat) : pks (List.replicate j 0) T n = 0 := by
  induction n with
  | zero => rfl
  | succ n ih =>
    simp only [pks]
    have : (List.replicate j (0 : Int)).getD n 0 = 0 := by
      rw [List.getD_eq_getElem?_getD, List.getElem?_replicate]; split <;> rfl
    rw [ih, this]; omega
/-- What the packs cost, and how many bricks they hold. -/
theorem pkN_sums {S P : List Int} {n : Nat} (hn : 0 < n) (hS : ∀ i, i < n → 1 ≤ S.getD i 0) : ∀ (f k : Nat) (out : List Int), k ≤ f → out.length = n →
    pks (pkN S P n f k out) P n = pks out P n + pkV S P n k ∧ pks out S n + (k : Int) ≤ pks (pkN S P n f k out) S n ∧ ∀ i, out.getD i 0 ≤ (pkN S P n f k out).getD i 0 ∧ (pkN S P n f k out).getD i 0 ≤ out.getD i 0 + (f : Int) := by
  intro f
  induction f with
  | zero =>
    intro k out hk hl
    obtain rfl : k = 0 := by omega
    rw [pkN_zero, pkV_zero]
    exact ⟨by omega, by omega, fun i => ⟨Int.le_refl _, by omega⟩⟩
  | succ f ih =>
    intro k out hk hl
    cases k with
    | zero =>
      rw [pkN_zero, pkV_zero]
      exact ⟨by omega, by omega, fun i => ⟨Int.le_refl _, by omega⟩⟩
    | succ k =>
      have hL := pkL_lt (S := S) (P := P) hn (k + 1)
      have hs := hS _ hL
      rw [pkN_next _ _ _ _ _ _ (by omega)]
      have hv : pkV S P n (k + 1) = P.getD (pkL S P n (k + 1)) 0 + pkV S P n (((k + 1 : Nat) : Int) - S.getD (pkL S P n (k + 1)) 0).toNat := by
        rw [pkV_next hS, ← (pkM_last (pkW S P n (k + 1)) n hn).2.1]
        rfl
      generalize pkL S P n (k + 1) = l at *
      obtain ⟨a, b, c⟩ := ih (((k + 1 : Nat) : Int) - S.getD l 0).toNat (out.set l (out.getD l 0 + 1)) (by omega) (by simpa using hl)
      rw [pks_set _ _ (by omega), if_pos hL] at a b
      refine ⟨by omega, by omega, fun i => ?_⟩
      obtain ⟨c1, c2⟩ := c i
      by_cases e : l = i
      · subst e
        rw [getD_set_self (by omega)] at c1 c2
        omega
      · rw [getD_set_ne e] at c1 c2
        omega
theorem pkM_le (o : Nat → Int) (n i : Nat) (h : i < n) : (pkM o n).1 ≤ o i := by
  induction n with
  | zero => omega
  | succ n ih =>
    simp only [pkM]
    by_cases e : i = n
    · subst e
      split
      · exact Int.le_refl _
      · omega
    · have := ih (by omega)
      split
      · show o n ≤ o i
        have : n = 0 ∨ o n ≤ (pkM o n).1 := by assumption
        omega
      · exact this
theorem rupI_step {k s : Int} (hs : 1 ≤ s) (h : s < k) : rupI k s = rupI (k - s) s + 1 := by
  unfold rupI
  rw [show k + s - 1 = (k - s + s - 1) + 1 * s by omega, Int.add_mul_ediv_right _ _ (by omega)]
theorem rupI_one {k s : Int} (h1 : 1 ≤ k) (h : k ≤ s) : rupI k s = 1 := by
  unfold rupI
  rw [show k + s - 1 = (k - 1) + 1 * s by omega, Int.add_mul_ediv_right _ _ (by omega), Int.ediv_eq_zero_of_lt (by omega) (by omega)]
  rfl
/-- Packs of one size are no cheaper. -/
theorem pkV_le {S P : List Int} {n : Nat} (hS : ∀ i, i < n → 1 ≤ S.getD i 0) {i : Nat} (hi : i < n) (k : Nat) : pkV S P n k ≤ rupI (k : Int) (S.getD i 0) * P.getD i 0 := by
  have hs := hS i hi
  induction k using Nat.strongRecOn with
  | ind k ih =>
    cases k with
    | zero =>
      have : rupI ((0 : Nat) : Int) (S.getD i 0) = 0 := by unfold rupI; exact Int.ediv_eq_zero_of_lt (by omega) (by omega)
      rw [pkV_zero, this]; omega
    | succ k =>
      rw [pkV_next hS]
      have h1 := pkM_le (pkW S P n (k + 1)) n i hi
      unfold pkW at h1
      by_cases hk : S.getD i 0 < ((k + 1 : Nat) : Int)
      · have h2 := ih (((k + 1 : Nat) : Int) - S.getD i 0).toNat (by omega)
        rw [rupI_step hs hk, Int.add_mul]
        rw [show (((((k + 1 : Nat) : Int) - S.getD i 0).toNat : Nat) : Int) = ((k + 1 : Nat) : Int) - S.getD i 0 by omega] at h2
        unfold pkW
        omega
      · rw [rupI_one (by omega) (by omega)]
        rw [show (((k + 1 : Nat) : Int) - S.getD i 0).toNat = 0 by omega, pkV_zero] at h1
        unfold pkW
        omega
theorem packs_law {S P : List Int} {B : Int} (h : pkOk S P B = true) :
    pkC S P B = 0 ∧ (pkI S P B).length = S.length ∧ (∀ i, 0 ≤ (pkI S P B).getD i 0 ∧ (pkI S P B).getD i 0 ≤ 3000) ∧ B ≤ pks (pkI S P B) S S.length ∧ ∀ i, i < S.length → pks (pkI S P B) P S.length ≤ rupI B (S.getD i 0) * P.getD i 0 := by
  obtain ⟨h1, h2, h3, h4, h5, h6, h7, h8⟩ := pkOk_t h
  obtain ⟨e1, e2⟩ := pk_yes h
  have hS : ∀ i, i < S.length → 1 ≤ S.getD i 0 := fun i hi => (insB_t h4 i hi).1
  obtain ⟨a, b, c⟩ := pkN_sums (S := S) (P := P) h1 hS B.toNat B.toNat (List.replicate S.length 0) (Nat.le_refl _) (by simp)
  rw [e1]
  rw [pks_zero] at a b
  refine ⟨e2, by rw [pkN_len]; simp, fun i => ?_, by omega, fun i hi => ?_⟩
  · obtain ⟨c1, c2⟩ := c i
    have hz : (List.replicate S.length (0 : Int)).getD i 0 = 0 := by
      rw [List.getD_eq_getElem?_getD, List.getElem?_replicate]; split <;> rfl
    rw [hz] at c1 c2
    omega
  · have := pkV_le (P := P) hS hi B.toNat
    rw [show ((B.toNat : Nat) : Int) = B by omega] at this
    omega
/-- The sums are small on the way. -/
theorem pks_bd {m T : List Int} {A C : Int} (hA : 0 ≤ A) (hC : 0 ≤ C) {n : Nat} (h1 : ∀ i, 0 ≤ m.getD i 0 ∧ m.getD i 0 ≤ A) (h2 : ∀ i, i < n → 0 ≤ T.getD i 0 ∧ T.getD i 0 ≤ C) : ∀ k, k ≤ n → 0 ≤ pks m T k ∧ pks m T k ≤ (A * C) * (k : Int) := by
  intro k
  induction k with
  | zero => intro _; simp [pks]
  | succ k ih =>
    intro hk
    have a := ih (by omega)
    have b := mul_bd (h1 k).1 (h1 k).2 (h2 k (by omega)).1 (h2 k (by omega)).2
    simp only [pks]
    rw [Int.natCast_add, Int.mul_add]
    omega
/-- What CheapestPacks tells, with what a walk wants to know of it. -/
structure PkTold (S P M : List Int) (B : Int) (n n' : Nat) : Prop where
  len : M.length = n
  len' : n' = n
  n5 : n ≤ 5
  b : 0 ≤ B ∧ B ≤ 3000
  m : ∀ i, 0 ≤ M.getD i 0 ∧ M.getD i 0 ≤ 3000
  s : ∀ i, i < n → 1 ≤ S.getD i 0 ∧ S.getD i 0 ≤ 1000
  p : ∀ i, i < n → 1 ≤ P.getD i 0 ∧ P.getD i 0 ≤ 100000
  sum : ∀ k, k ≤ n → 0 ≤ pks M S k ∧ pks M S k ≤ 15000000
  cost : ∀ k, k ≤ n → 0 ≤ pks M P k ∧ pks M P k ≤ 1500000000
  enough : B ≤ pks M S n
  single : ∀ i, i < n → ∃ k l : Int, packsI B (S.getD i 0) = (k, l, 0) ∧ 0 ≤ k ∧ k ≤ 3000 ∧ pks M P n ≤ k * P.getD i 0
theorem pk_told {S P : List Int} {B : Int} {n n' : Nat} (hS : S.length = n) (hP : P.length = n') : (pkC S P B = 0 ∧ PkTold S P (pkI S P B) B n n') ∨ pkC S P B = 2 := by
  cases h : pkOk S P B
  · exact .inr (pk_no h).2
  · obtain ⟨h1, h2, h3, h4, h5, h6, h7, h8⟩ := pkOk_t h
    obtain ⟨a, b, c, d, e⟩ := packs_law h
    have s : ∀ i, i < n → 1 ≤ S.getD i 0 ∧ S.getD i 0 ≤ 1000 := fun i hi => insB_t h4 i (by omega)
    have p : ∀ i, i < n → 1 ≤ P.getD i 0 ∧ P.getD i 0 ≤ 100000 := fun i hi => insB_t h5 i (by omega)
    refine .inl ⟨a, by omega, by omega, by omega, ⟨h6, h7⟩, c, s, p, fun k hk => ?_, fun k hk => ?_, by rw [← hS]; exact d, fun i hi => ?_⟩
    · have := pks_bd (m := pkI S P B) (T := S) (A := 3000) (C := 1000) (n := n) (by omega) (by omega) c (fun i hi => by have := s i hi; omega) k hk
      omega
    · have := pks_bd (m := pkI S P B) (T := P) (A := 3000) (C := 100000) (n := n) (by omega) (by omega) c (fun i hi => by have := p i hi; omega) k hk
      omega
    · have hs := s i hi
      refine ⟨rupI B (S.getD i 0), _, packsI_yes (inB_mk ⟨h6, by omega⟩) (inB_mk hs), (rupI_bd h6 hs.1).1, ?_, ?_⟩
      · have := (rupI_bd h6 hs.1).2.1; omega
      · rw [← hS]; exact e i (by omega)
/-- What PacksFor tells. -/
theorem packs_cases (b p : Int) : (∃ k l : Int, packsI b p = (k, l, 0) ∧ k * p = b + l ∧ 0 ≤ l ∧ l < p ∧ 0 ≤ k ∧ k ≤ 1000000 ∧ 1 ≤ p ∧ p ≤ 1000 ∧ 0 ≤ b ∧ b ≤ 1000000) ∨ packsI b p = (0, 0, 2) := by
  cases h1 : inB b 0 1000000
  · exact .inr (packsI_no (.inl h1))
  · cases h2 : inB p 1 1000
    · exact .inr (packsI_no (.inr ⟨h1, h2⟩))
    · obtain ⟨b1, b2⟩ := inB_t h1
      obtain ⟨b3, b4⟩ := inB_t h2
      obtain ⟨r1, r2, r3, r4⟩ := rupI_bd b1 b3
      refine .inl ⟨rupI b p, rupI b p * p - b, packsI_yes h1 h2, by omega, by omega, ?_, r1, by omega, b3, b4, b1, b2⟩
      by_cases h : 1 ≤ rupI b p
      · have := r4 h
        rw [Int.sub_mul] at this
        omega
      · have : rupI b p = 0 := by omega
        rw [this]; omega
/-- What BagsFor tells. -/
theorem bags_cases (n d e : Int) : (∃ k : Int, bagsI n d e = (k, 0) ∧ n ≤ k * e * d ∧ k * e * d ≤ 2000000000000 ∧ 0 ≤ k ∧ k * e ≤ 2000000000000 ∧ 1 ≤ d ∧ d ≤ 1000000 ∧ 1 ≤ e ∧ e ≤ 1000 ∧ 0 ≤ n ∧ n ≤ 1000000000000 ∧ (k = 0 ∨ (0 < k ∧ (k - 1) * e * d < n ∧ 0 ≤ (k - 1) * e * d ∧ 0 ≤ (k - 1) * e ∧ (k - 1) * e ≤ 2000000000000))) ∨ bagsI n d e = (0, 2) := by
  by_cases h : bagB n d e = true
  · left
    have hh := h
    simp only [bagB, Bool.and_eq_true] at hh
    obtain ⟨⟨h1, h2⟩, h3⟩ := hh
    obtain ⟨b1, b2⟩ := inB_t h1
    obtain ⟨b3, b4⟩ := inB_t h2
    obtain ⟨b5, b6⟩ := inB_t h3
    have m3 : 1 * 1 ≤ d * e := Int.mul_le_mul b3 b5 (by omega) (by omega)
    have m2 := mul_bd (a := d) (b := e) (A := 1000000) (B := 1000) (by omega) b4 (by omega) b6
    obtain ⟨r1, r2, r3, r4⟩ := rupI_bd (d := d * e) b1 (by omega)
    have e1 : ∀ k : Int, k * e * d = k * (d * e) := fun k => by rw [Int.mul_assoc, Int.mul_comm e d]
    have e2 : ∀ k : Int, 0 ≤ k → k * e ≤ k * e * d := fun k hk => by
      have := Int.mul_le_mul_of_nonneg_left b3 (Int.mul_nonneg hk (show 0 ≤ e by omega))
      omega
    refine ⟨rupI n (d * e), bagsI_yes h, by rw [e1]; exact r3, ?_, r1, ?_, b3, b4, b5, b6, b1, b2, ?_⟩
    · rw [e1]
      by_cases hk : 1 ≤ rupI n (d * e)
      · have := r4 hk; rw [Int.sub_mul] at this; omega
      · have : rupI n (d * e) = 0 := by omega
        rw [this]; omega
    · refine Int.le_trans (e2 _ r1) ?_
      rw [e1]
      by_cases hk : 1 ≤ rupI n (d * e)
      · have := r4 hk; rw [Int.sub_mul] at this; omega
      · have : rupI n (d * e) = 0 := by omega
        rw [this]; omega
    · by_cases hk : 1 ≤ rupI n (d * e)
      · right
        have := r4 hk
        have f1 := e2 (rupI n (d * e) - 1) (by omega)
        have f2 := Int.mul_nonneg (show 0 ≤ rupI n (d * e) - 1 by omega) (show 0 ≤ e by omega)
        rw [e1] at f1
        refine ⟨by omega, by rw [e1]; exact this, by rw [e1]; exact Int.mul_nonneg (by omega) (by omega), f2, by omega⟩
      · left; omega
  · exact .inr (bagsI_no h)
end Go.Proofs.Ytgnalhnbdpigdaa
