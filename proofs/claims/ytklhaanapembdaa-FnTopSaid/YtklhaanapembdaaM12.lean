/- The plain law of the line with the greatest curvature: it lies within the arch, and its bends are those of the loads; no program in sight; condition: valid blocks of an arch that stands. -/
import Derived.Test.YtklhaanapembdaaM11

namespace Go.Proofs.Ytklhaanapembdaa

/-- Sharper bounds of a condition's numbers. -/
theorem cnd_sharp {ls lo hi : List Int} (hv : blkB ls lo hi = true) {c : Cnd} (h : c ∈ qAll ls lo hi (ls.length + 1) (ls.length + 1)) : -40000 ≤ c.a ∧ c.a ≤ 40000 ∧ -3800000 ≤ c.b ∧ c.b ≤ 3800000 := by
  simp only [qAll, qJ, qK, qP, List.mem_flatMap, List.mem_map, List.mem_range] at h
  obtain ⟨j, hj, k, hk, p, hp, d, hd, rfl⟩ := h
  obtain ⟨v1, v2, v3, v4, v5, v6, v7, v8⟩ := blkB_t hv
  obtain ⟨q, hq⟩ : ∃ q, p + 1 + d = q := ⟨_, rfl⟩
  rw [hq]
  obtain ⟨x1, x2⟩ := v6 j (by omega)
  obtain ⟨x3, x4⟩ := v6 p (by omega)
  obtain ⟨x5, x6⟩ := v7 k (by omega)
  obtain ⟨x7, x8⟩ := v7 q (by omega)
  obtain ⟨y1, y2⟩ := momAt_bd (ls := ls) (k := q) (by omega) v3 (by omega)
  obtain ⟨y3, y4⟩ := momAt_bd (ls := ls) (k := p) (by omega) v3 (by omega)
  obtain ⟨y5, y6⟩ := momAt_bd (ls := ls) (k := j) (by omega) v3 (by omega)
  obtain ⟨y7, y8⟩ := momAt_bd (ls := ls) (k := k) (by omega) v3 (by omega)
  have p1 := prod_bd (x := lo.getD j 0 - hi.getD k 0) (y := (q : Int) - p) (A := 2000) (B := 10) (by omega) (by omega) (by omega) (by omega) (by omega)
  have p3 := prod_bd (x := hi.getD q 0 - lo.getD p 0) (y := (j : Int) - k) (A := 2000) (B := 10) (by omega) (by omega) (by omega) (by omega) (by omega)
  have p5 := prod_bd (x := momAt ls q - momAt ls p) (y := (j : Int) - k) (A := 190000) (B := 10) (by omega) (by omega) (by omega) (by omega) (by omega)
  have p7 := prod_bd (x := momAt ls j - momAt ls k) (y := (q : Int) - p) (A := 190000) (B := 10) (by omega) (by omega) (by omega) (by omega) (by omega)
  simp only [cnd, cA, cB]
  omega
/-- The numbers of an arch's upper bound. -/
theorem s_sharp {ls lo hi : List Int} (hv : blkB ls lo hi = true) (hs : standB (bfind ls lo hi) = true) :
    1 ≤ sN (bfind ls lo hi) ∧ sN (bfind ls lo hi) ≤ 40000 ∧ 1 ≤ sD (bfind ls lo hi) ∧ sD (bfind ls lo hi) ≤ 3800000 := by
  have hh := bfind_hh hv
  obtain ⟨ha, _, _⟩ := stand_neg hs hh
  obtain ⟨hm, hb, _⟩ := (best_find ls lo hi).high hh
  have hl : lo.length = ls.length + 1 := (blkB_t hv).2.2.2.1
  rw [hl] at hm
  obtain ⟨b1, b2, b3, b4⟩ := cnd_sharp hv hm
  refine ⟨lwN_pos _ _ (by omega), Int.le_trans (lwN_le _ _ (by omega)) (by omega), lwD_pos _ _ (by omega), Int.le_trans (lwD_le _ _ (by omega)) (by omega)⟩
/-- All conditions of four joints hold. -/
theorem stand_cnd {ls lo hi : List Int} (hv : blkB ls lo hi = true) (hs : standB (bfind ls lo hi) = true) {j k p q : Nat} (hj : j < lo.length) (hk : k < j) (hq : q < lo.length) (hp : p < q) :
    cA lo hi j k p q * sD (bfind ls lo hi) ≤ sN (bfind ls lo hi) * cB (momAt ls) j k p q := by
  have h := (stand_all (best_find ls lo hi) hs (bfind_hh hv)).2.2.2.2 (cnd ls lo hi j k p q) (by
    simp only [qAll, qJ, qK, qP, List.mem_flatMap, List.mem_map, List.mem_range]
    exact ⟨j, hj, k, hk, p, by omega, q - p - 1, by omega, by rw [show p + 1 + (q - p - 1) = q by omega]⟩)
  exact h
/-- What the slope says of all pairs of joints. -/
theorem slope_le {ls lo hi : List Int} {sn sd : Int} (hsd : 1 ≤ sd) {n : Nat} (hn : 2 ≤ n) :
    1 ≤ (slA (slO ls lo hi sn sd) n).2 ∧ (∃ j k, k < j ∧ j < n ∧ (slA (slO ls lo hi sn sd) n).1 * slD sd j k = slN ls lo hi sn sd j k * (slA (slO ls lo hi sn sd) n).2 ∧ (slA (slO ls lo hi sn sd) n).2 ≤ slD sd j k ∧ slA (slO ls lo hi sn sd) n = slO ls lo hi sn sd j k) ∧
    ∀ j k, k < j → j < n → slN ls lo hi sn sd j k * (slA (slO ls lo hi sn sd) n).2 ≤ (slA (slO ls lo hi sn sd) n).1 * slD sd j k := by
  have hD : ∀ j k : Nat, k < j → 0 < slD sd j k := fun j k h => Int.mul_pos (by omega) (by omega)
  have hf : ∀ j k, k < j → j < n → 1 ≤ (slO ls lo hi sn sd j k).2 := fun j k h _ => lwD_pos _ _ (hD j k h)
  rcases slA_max (n := n) hf n (Nat.le_refl _) with ⟨_, h⟩ | ⟨h1, ⟨j, k, hp, he⟩, h3⟩
  · exact absurd ⟨by omega, by omega⟩ (h 1 0)
  · refine ⟨h1, ⟨j, k, hp.1, hp.2, ?_, ?_, he⟩, fun a b hab ha => ?_⟩
    · rw [he]; exact lw_cross _ _
    · rw [he]; exact lwD_le _ _ (hD j k hp.1)
    · have h4 := h3 a b ⟨hab, ha⟩
      have hg := gcd_ge (slN ls lo hi sn sd a b) (slD sd a b) (hD a b hab)
      have e1 := lwN_mul (slN ls lo hi sn sd a b) (slD sd a b)
      have e2 := lwD_mul (slN ls lo hi sn sd a b) (slD sd a b)
      have e3 : (slO ls lo hi sn sd a b).1 = lwN (slN ls lo hi sn sd a b) (slD sd a b) := rfl
      have e4 : (slO ls lo hi sn sd a b).2 = lwD (slN ls lo hi sn sd a b) (slD sd a b) := rfl
      rw [e3, e4] at h4
      generalize slA (slO ls lo hi sn sd) n = s at *
      have h5 := Int.mul_le_mul_of_nonneg_right h4 (show 0 ≤ (Int.gcd (slN ls lo hi sn sd a b) (slD sd a b) : Int) by omega)
      generalize (Int.gcd (slN ls lo hi sn sd a b) (slD sd a b) : Int) = t at *
      generalize lwN (slN ls lo hi sn sd a b) (slD sd a b) = N at *
      generalize lwD (slN ls lo hi sn sd a b) (slD sd a b) = D at *
      have g1 : N * s.2 * t = N * t * s.2 := by simp only [Int.mul_comm, Int.mul_left_comm]
      have g2 : s.1 * D * t = s.1 * (D * t) := Int.mul_assoc _ _ _
      rw [g1, g2, e1, e2] at h5
      exact h5
theorem leV_ge (ls lo : List Int) (d A B : Int) (n k : Nat) (hk : k < n) : neV ls lo d A B k ≤ leV ls lo d A B n := by
  induction n with
  | zero => omega
  | succ n ih =>
    simp only [leV]
    by_cases e : k = n
    · subst e; split <;> rename_i h
      · exact Int.le_refl _
      · omega
    · have hn := ih (by omega)
      split <;> rename_i h
      · rcases h with h | h
        · omega
        · omega
      · exact hn
theorem leV_is (ls lo : List Int) (d A B : Int) (n : Nat) (hn : 0 < n) : ∃ k, k < n ∧ leV ls lo d A B n = neV ls lo d A B k := by
  induction n with
  | zero => omega
  | succ n ih =>
    simp only [leV]
    by_cases h : n = 0 ∨ leV ls lo d A B n < neV ls lo d A B n
    · rw [if_pos h]; exact ⟨n, by omega, rfl⟩
    · rw [if_neg h]
      obtain ⟨k, hk, he⟩ := ih (by omega)
      exact ⟨k, by omega, he⟩
end Go.Proofs.Ytklhaanapembdaa
/- The plain law of the line with the greatest curvature: its heights lie within the arch, and its bends are those of the loads; no program in sight; condition: valid blocks of an arch that stands. -/
namespace Go.Proofs.Ytklhaanapembdaa

theorem cnd_sl (ls lo hi : List Int) (sn sd : Int) (j k i q : Nat) : cA lo hi j k i q * sd - sn * cB (momAt ls) j k i q = slN ls lo hi sn sd j k * ((q : Int) - i) + slN ls lo hi sn sd i q * ((j : Int) - k) := by
  unfold cA cB slN
  generalize lo.getD j 0 = a
  generalize hi.getD k 0 = b
  generalize hi.getD q 0 = c
  generalize lo.getD i 0 = d
  generalize momAt ls j = m1
  generalize momAt ls k = m2
  generalize momAt ls q = m3
  generalize momAt ls i = m4
  generalize (j : Int) = J
  generalize (k : Int) = K
  generalize (i : Int) = I
  generalize (q : Int) = R
  grind
/-- No two joints want more than the slope gives. -/
theorem all_le {ls lo hi : List Int} (hv : blkB ls lo hi = true) (hs : standB (bfind ls lo hi) = true) {i k : Nat} (hi' : i < lo.length) (hk : k < lo.length) :
    slN ls lo hi (sN (bfind ls lo hi)) (sD (bfind ls lo hi)) i k * (slA (slO ls lo hi (sN (bfind ls lo hi)) (sD (bfind ls lo hi))) lo.length).2 ≤ (slA (slO ls lo hi (sN (bfind ls lo hi)) (sD (bfind ls lo hi))) lo.length).1 * slD (sD (bfind ls lo hi)) i k := by
  obtain ⟨v1, v2, v3, v4, v5, v6, v7, v8⟩ := blkB_t hv
  obtain ⟨n1, n2, d1, d2⟩ := s_sharp hv hs
  obtain ⟨h1, ⟨j0, k0, hkj, hj0, he, _, _⟩, h3⟩ := slope_le (ls := ls) (lo := lo) (hi := hi) (sn := sN (bfind ls lo hi)) d1 (n := lo.length) (by omega)
  have hst := fun {p q : Nat} (hq : q < lo.length) (hp : p < q) => stand_cnd hv hs hj0 hkj hq hp
  have hid := cnd_sl ls lo hi (sN (bfind ls lo hi)) (sD (bfind ls lo hi)) j0 k0 i k
  generalize sN (bfind ls lo hi) = sn at *
  generalize sD (bfind ls lo hi) = sd at *
  generalize slA (slO ls lo hi sn sd) lo.length = s at *
  rcases Nat.lt_trichotomy i k with h | h | h
  · have h4 := hst hk h
    have h5 : slN ls lo hi sn sd j0 k0 * ((k : Int) - i) + slN ls lo hi sn sd i k * ((j0 : Int) - k0) ≤ 0 := by omega
    have hp : 0 < (j0 : Int) - k0 := by omega
    refine Int.le_of_mul_le_mul_right ?_ (show 0 < slD sd j0 k0 from Int.mul_pos (by omega) hp)
    have e1 : s.1 * slD sd i k * slD sd j0 k0 = s.1 * slD sd j0 k0 * slD sd i k := Int.mul_right_comm _ _ _
    rw [e1, he]
    unfold slD
    have hc : 0 ≤ s.2 * sd := Int.mul_nonneg (by omega) (by omega)
    have h6 := Int.mul_le_mul_of_nonneg_left h5 hc
    generalize slN ls lo hi sn sd j0 k0 = X at *
    generalize slN ls lo hi sn sd i k = Y at *
    generalize (j0 : Int) = J at *
    generalize (k0 : Int) = K at *
    generalize (i : Int) = I at *
    generalize (k : Int) = R at *
    generalize s.2 = D at *
    have e2 : X * D * (sd * (I - R)) - Y * D * (sd * (J - K)) = -(D * sd * (X * (R - I) + Y * (J - K))) := by grind
    rw [Int.mul_zero] at h6
    omega
  · subst h
    have hx := v8 i (by omega)
    have e1 : slD sd i i = 0 := by unfold slD; rw [Int.sub_self, Int.mul_zero]
    have e2 : slN ls lo hi sn sd i i ≤ 0 := by
      unfold slN
      rw [Int.sub_self, Int.mul_zero, Int.add_zero]
      exact Int.mul_nonpos_of_nonpos_of_nonneg (by omega) (by omega)
    rw [e1, Int.mul_zero]
    exact Int.mul_nonpos_of_nonpos_of_nonneg e2 (by omega)
  · exact h3 i k h hi'
/-- The heights, over the reference's denominator, lie within the arch. -/
theorem ouV_fit {ls lo hi : List Int} (hv : blkB ls lo hi = true) (hs : standB (bfind ls lo hi) = true) {sn sd cN cD : Int} (hsn : sn = sN (bfind ls lo hi)) (hsd : sd = sD (bfind ls lo hi)) (hc : (cN, cD) = slA (slO ls lo hi sn sd) lo.length) {k : Nat} (hk : k < lo.length) :
    lo.getD k 0 * (sd * cD) ≤ ouV ls lo (sd * cD) (cN * sd) (sn * cD) lo.length k ∧ ouV ls lo (sd * cD) (cN * sd) (sn * cD) lo.length k ≤ hi.getD k 0 * (sd * cD) := by
  have hge := leV_ge ls lo (sd * cD) (cN * sd) (sn * cD) lo.length k hk
  obtain ⟨i, hi', he⟩ := leV_is ls lo (sd * cD) (cN * sd) (sn * cD) lo.length (by omega)
  have hall := all_le hv hs hi' hk
  rw [← hsn, ← hsd, ← hc] at hall
  simp only at hall
  unfold ouV
  constructor
  · unfold neV at hge; omega
  · rw [he]
    unfold neV owV
    unfold slN slD at hall
    generalize lo.getD i 0 = a at *
    generalize hi.getD k 0 = b at *
    generalize momAt ls i = m1 at *
    generalize momAt ls k = m2 at *
    generalize (i : Int) = I at *
    generalize (k : Int) = K at *
    have e : b * (sd * cD) - (cN * sd * K - sn * cD * m2 + (a * (sd * cD) - (cN * sd * I - sn * cD * m1))) = cN * (sd * (I - K)) - ((a - b) * sd + sn * (m1 - m2)) * cD := by grind
    omega
/-- The bend of the heights. -/
theorem ouV_bend (ls lo : List Int) (d A B : Int) (n k : Nat) : ouV ls lo d A B n (k + 2) - 2 * ouV ls lo d A B n (k + 1) + ouV ls lo d A B n k = -(B * (ls.getD k 0 + ls.getD (k + 1) 0)) := by
  have h := momAt_bend ls k
  unfold ouV owV
  have e2 : ((k + 2 : Nat) : Int) = (k : Int) + 2 := by omega
  have e1 : ((k + 1 : Nat) : Int) = (k : Int) + 1 := by omega
  rw [e1, e2, ← h]
  generalize leV ls lo d A B n = L
  generalize momAt ls (k + 2) = m2
  generalize momAt ls (k + 1) = m1
  generalize momAt ls k = m0
  generalize (k : Int) = K
  grind
theorem coV_dvd (ls lo : List Int) (d A B : Int) (n k : Nat) : coV ls lo d A B n k ∣ d ∧ ∀ i, i < k → coV ls lo d A B n k ∣ ouV ls lo d A B n i := by
  induction k with
  | zero => exact ⟨Int.dvd_refl _, fun i h => by omega⟩
  | succ k ih =>
    simp only [coV]
    have g1 := Int.gcd_dvd_left (coV ls lo d A B n k) (ouV ls lo d A B n k)
    have g2 := Int.gcd_dvd_right (coV ls lo d A B n k) (ouV ls lo d A B n k)
    refine ⟨Int.dvd_trans g1 ih.1, fun i h => ?_⟩
    by_cases e : i = k
    · subst e; exact g2
    · exact Int.dvd_trans g1 (ih.2 i (by omega))
theorem coV_pos (ls lo : List Int) {d : Int} (hd : 0 < d) (A B : Int) (n k : Nat) : 0 < coV ls lo d A B n k := by
  induction k with
  | zero => exact hd
  | succ k ih =>
    simp only [coV]
    have := Int.gcd_pos_of_ne_zero_left (ouV ls lo d A B n k) (show coV ls lo d A B n k ≠ 0 by omega)
    omega
/-- The line: its heights times the common divisor. -/
theorem liV_mul (ls lo : List Int) (d A B : Int) (n k : Nat) (hk : k < n) : (liV ls lo d A B n).getD k 0 * coV ls lo d A B n n = ouV ls lo d A B n k := by
  unfold liV
  rw [List.getD_eq_getElem?_getD, List.getElem?_map, List.getElem?_range hk]
  exact Int.tdiv_mul_cancel ((coV_dvd ls lo d A B n n).2 k hk)
theorem ldV_mul (ls lo : List Int) (d A B : Int) (n : Nat) : ldV ls lo d A B n * coV ls lo d A B n n = d := Int.tdiv_mul_cancel (coV_dvd ls lo d A B n n).1
theorem liV_len (ls lo : List Int) (d A B : Int) (n : Nat) : (liV ls lo d A B n).length = n := by simp [liV]
end Go.Proofs.Ytklhaanapembdaa
