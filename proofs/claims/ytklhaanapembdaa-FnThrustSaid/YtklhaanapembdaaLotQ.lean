/- The plain law of the line with the greatest curvature: it lies within the arch, and its bends are those of the loads; no program in sight; condition: valid blocks of an arch that stands. -/
import Derived.Test.YtklhaanapembdaaLotP
namespace Go.Proofs.Ytklhaanapembdaa

/-- Sharper bounds of a condition's numbers. -/
theorem cnd_sharp {ls lo hi : List Int} (hv : blkB ls lo hi = true) {c : Cnd} (h : c ∈ qAll ls lo hi (ls.length + 1) (ls.length + 1)) : -40000 ≤ c.a ∧ c.a ≤ 40000 ∧ -3800000 ≤ c.b ∧ c.b ≤ 3800000 := by
  simp only [qAll, qJ, qK, qP, List.mem_flatMap, List.mem_map, List.mem_range] at h
  obtain ⟨j, hj, k, hk, p, hp, d, hd, rfl⟩ := h
  obtain ⟨v1, v2, v3, v4, v5, v6, v7, v8⟩ := blkB_t hv
  obtain ⟨q, hq⟩ : ∃ q, p + 1 + d = q := ⟨_, rfl⟩
  rw [hq]
  obtain ⟨x1, x2⟩ := v6 j (by omega)
  obtain ⟨x3, x4⟩ := v6 p (by omega)
  obtain ⟨x5, x6⟩ := v7 k (by omega)
  obtain ⟨x7, x8⟩ := v7 q (by omega)
  obtain ⟨y1, y2⟩ := momAt_bd (ls := ls) (k := q) (by omega) v3 (by omega)
  obtain ⟨y3, y4⟩ := momAt_bd (ls := ls) (k := p) (by omega) v3 (by omega)
  obtain ⟨y5, y6⟩ := momAt_bd (ls := ls) (k := j) (by omega) v3 (by omega)
  obtain ⟨y7, y8⟩ := momAt_bd (ls := ls) (k := k) (by omega) v3 (by omega)
  have p1 := prod_bd (x := lo.getD j 0 - hi.getD k 0) (y := (q : Int) - p) (A := 2000) (B := 10) (by omega) (by omega) (by omega) (by omega) (by omega)
  have p3 := prod_bd (x := hi.getD q 0 - lo.getD p 0) (y := (j : Int) - k) (A := 2000) (B := 10) (by omega) (by omega) (by omega) (by omega) (by omega)
  have p5 := prod_bd (x := momAt ls q - momAt ls p) (y := (j : Int) - k) (A := 190000) (B := 10) (by omega) (by omega) (by omega) (by omega) (by omega)
  have p7 := prod_bd (x := momAt ls j - momAt ls k) (y := (q : Int) - p) (A := 190000) (B := 10) (by omega) (by omega) (by omega) (by omega) (by omega)
  simp only [cnd, cA, cB]
  omega
/-- The numbers of an arch's upper bound. -/
theorem s_sharp {ls lo hi : List Int} (hv : blkB ls lo hi = true) (hs : standB (bfind ls lo hi) = true) :
    1 ≤ sN (bfind ls lo hi) ∧ sN (bfind ls lo hi) ≤ 40000 ∧ 1 ≤ sD (bfind ls lo hi) ∧ sD (bfind ls lo hi) ≤ 3800000 := by
  have hh := bfind_hh hv
  obtain ⟨ha, _, _⟩ := stand_neg hs hh
  obtain ⟨hm, hb, _⟩ := (best_find ls lo hi).high hh
  have hl : lo.length = ls.length + 1 := (blkB_t hv).2.2.2.1
  rw [hl] at hm
  obtain ⟨b1, b2, b3, b4⟩ := cnd_sharp hv hm
  refine ⟨lwN_pos _ _ (by omega), Int.le_trans (lwN_le _ _ (by omega)) (by omega), lwD_pos _ _ (by omega), Int.le_trans (lwD_le _ _ (by omega)) (by omega)⟩
/-- All conditions of four joints hold. -/
theorem stand_cnd {ls lo hi : List Int} (hv : blkB ls lo hi = true) (hs : standB (bfind ls lo hi) = true) {j k p q : Nat} (hj : j < lo.length) (hk : k < j) (hq : q < lo.length) (hp : p < q) :
    cA lo hi j k p q * sD (bfind ls lo hi) ≤ sN (bfind ls lo hi) * cB (momAt ls) j k p q := by
  have h := (stand_all (best_find ls lo hi) hs (bfind_hh hv)).2.2.2.2 (cnd ls lo hi j k p q) (by
    simp only [qAll, qJ, qK, qP, List.mem_flatMap, List.mem_map, List.mem_range]
    exact ⟨j, hj, k, hk, p, by omega, q - p - 1, by omega, by rw [show p + 1 + (q - p - 1) = q by omega]⟩)
  exact h
/-- What the slope says of all pairs of joints. -/
theorem slope_le {ls lo hi : List Int} {sn sd : Int} (hsd : 1 ≤ sd) {n : Nat} (hn : 2 ≤ n) :
    1 ≤ (slA (slO ls lo hi sn sd) n).2 ∧ (∃ j k, k < j ∧ j < n ∧ (slA (slO ls lo hi sn sd) n).1 * slD sd j k = slN ls lo hi sn sd j k * (slA (slO ls lo hi sn sd) n).2 ∧ (slA (slO ls lo hi sn sd) n).2 ≤ slD sd j k ∧ slA (slO ls lo hi sn sd) n = slO ls lo hi sn sd j k) ∧
    ∀ j k, k < j → j < n → slN ls lo hi sn sd j k * (slA (slO ls lo hi sn sd) n).2 ≤ (slA (slO ls lo hi sn sd) n).1 * slD sd j k := by
  have hD : ∀ j k : Nat, k < j → 0 < slD sd j k := fun j k h => Int.mul_pos (by omega) (by omega)
  have hf : ∀ j k, k < j → j < n → 1 ≤ (slO ls lo hi sn sd j k).2 := fun j k h _ => lwD_pos _ _ (hD j k h)
  rcases slA_max (n := n) hf n (Nat.le_refl _) with ⟨_, h⟩ | ⟨h1, ⟨j, k, hp, he⟩, h3⟩
  · exact absurd ⟨by omega, by omega⟩ (h 1 0)
  · refine ⟨h1, ⟨j, k, hp.1, hp.2, ?_, ?_, he⟩, fun a b hab ha => ?_⟩
    · rw [he]; exact lw_cross _ _
    · rw [he]; exact lwD_le _ _ (hD j k hp.1)
    · have h4 := h3 a b ⟨hab, ha⟩
      have hg := gcd_ge (slN ls lo hi sn sd a b) (slD sd a b) (hD a b hab)
      have e1 := lwN_mul (slN ls lo hi sn sd a b) (slD sd a b)
      have e2 := lwD_mul (slN ls lo hi sn sd a b) (slD sd a b)
      have e3 : (slO ls lo hi sn sd a b).1 = lwN (slN ls lo hi sn sd a b) (slD sd a b) := rfl
      have e4 : (slO ls lo hi sn sd a b).2 = lwD (slN ls lo hi sn sd a b) (slD sd a b) := rfl
      rw [e3, e4] at h4
      generalize slA (slO ls lo hi sn sd) n = s at *
      have h5 := Int.mul_le_mul_of_nonneg_right h4 (show 0 ≤ (Int.gcd (slN ls lo hi sn sd a b) (slD sd a b) : Int) by omega)
      generalize (Int.gcd (slN ls lo hi sn sd a b) (slD sd a b) : Int) = t at *
      generalize lwN (slN ls lo hi sn sd a b) (slD sd a b) = N at *
      generalize lwD (slN ls lo hi sn sd a b) (slD sd a b) = D at *
      have g1 : N * s.2 * t = N * t * s.2 := by simp only [Int.mul_comm, Int.mul_left_comm]
      have g2 : s.1 * D * t = s.1 * (D * t) := Int.mul_assoc _ _ _
      rw [g1, g2, e1, e2] at h5
      exact h5
theorem leV_ge (ls lo : List Int) (d A B : Int) (n k : Nat) (hk : k < n) : neV ls lo d A B k ≤ leV ls lo d A B n := by
  induction n with
  | zero => omega
  | succ n ih =>
    simp only [leV]
    by_cases e : k = n
    · subst e; split <;> rename_i h
      · exact Int.le_refl _
      · omega
    · have hn := ih (by omega)
      split <;> rename_i h
      · rcases h with h | h
        · omega
        · omega
      · exact hn
theorem leV_is (ls lo : List Int) (d A B : Int) (n : Nat) (hn : 0 < n) : ∃ k, k < n ∧ leV ls lo d A B n = neV ls lo d A B k := by
  induction n with
  | zero => omega
  | succ n ih =>
    simp only [leV]
    by_cases h : n = 0 ∨ leV ls lo d A B n < neV ls lo d A B n
    · rw [if_pos h]; exact ⟨n, by omega, rfl⟩
    · rw [if_neg h]
      obtain ⟨k, hk, he⟩ := ih (by omega)
      exact ⟨k, by omega, he⟩
end Go.Proofs.Ytklhaanapembdaa
