/- The plain law of LineOfThrust: what both programs answer, and that it is a line of thrust by IsLine's law; no program in sight. -/
import Derived.Test.YtklhaanapembdaaM12
import Derived.Test.YtklhaanapembdaaM11
import Derived.Test.YtklhaanapembdaaM04

namespace Go.Proofs.Ytklhaanapembdaa

theorem deI_lcm {sd cD : Int} (h1 : 1 ≤ sd) (h2 : 1 ≤ cD) : deI sd cD = (Int.lcm sd cD : Int) := by
  obtain ⟨g0, e, _, _⟩ := de_scale (sn := 0) (cN := 0) h1 h2
  have h := Int.gcd_mul_lcm sd cD
  have h' : (Int.gcd sd cD : Int) * (Int.lcm sd cD : Int) = sd * cD := by
    rw [← Int.natCast_mul, h, Int.natCast_mul]
    rw [show ((sd.natAbs : Nat) : Int) = sd by omega, show ((cD.natAbs : Nat) : Int) = cD by omega]
  rw [e] at h'
  exact (Int.eq_of_mul_eq_mul_left (by omega) h').symm
theorem deI_le {sd cD : Int} (h1 : 1 ≤ sd) (h2 : 1 ≤ cD) {M : Nat} (hM : 0 < M) (hd : sd ∣ (M : Int)) (hc : cD ∣ (M : Int)) : 1 ≤ deI sd cD ∧ deI sd cD ≤ M := by
  rw [deI_lcm h1 h2]
  have h := Nat.le_of_dvd hM (Int.lcm_dvd hd hc)
  have hp : 0 < Int.lcm sd cD := by
    rcases Nat.eq_zero_or_pos (Int.lcm sd cD) with e | e
    · have := Int.gcd_mul_lcm sd cD
      rw [e, Nat.mul_zero] at this
      have h3 : 0 < sd.natAbs * cD.natAbs := Nat.mul_pos (by omega) (by omega)
      omega
    · exact e
  omega
/-- The slope of an arch that stands. -/
def ltS (ls lo hi : List Int) : Int × Int := slA (slO ls lo hi (sN (bfind ls lo hi)) (sD (bfind ls lo hi))) lo.length
/-- The denominator before the line is put in lowest terms. -/
def ltM (ls lo hi : List Int) : Int := deI (sD (bfind ls lo hi)) (ltS ls lo hi).2
def ltA (ls lo hi : List Int) : Int := (ltS ls lo hi).1 * (ltM ls lo hi).tdiv (ltS ls lo hi).2
def ltB (ls lo hi : List Int) : Int := sN (bfind ls lo hi) * (ltM ls lo hi).tdiv (sD (bfind ls lo hi))
/-- The line and its denominator, or nothing. -/
def lotI (ls lo hi : List Int) : List Int := if canV ls lo hi = true then liV ls lo (ltM ls lo hi) (ltA ls lo hi) (ltB ls lo hi) lo.length else []
def lotD (ls lo hi : List Int) : Int := if canV ls lo hi = true then ldV ls lo (ltM ls lo hi) (ltA ls lo hi) (ltB ls lo hi) lo.length else 0
theorem lotI_len (ls lo hi : List Int) : (lotI ls lo hi).length ≤ 1000000 := by
  unfold lotI
  split
  · have := blkB_t (canV_t (by assumption)).1
    rw [liV_len]; omega
  · simp
theorem lot_no {ls lo hi : List Int} (h : canV ls lo hi = false) : lotI ls lo hi = [] ∧ lotD ls lo hi = 0 := by simp [lotI, lotD, h]
theorem lot_yes {ls lo hi : List Int} (h : canV ls lo hi = true) : lotI ls lo hi = liV ls lo (ltM ls lo hi) (ltA ls lo hi) (ltB ls lo hi) lo.length ∧ lotD ls lo hi = ldV ls lo (ltM ls lo hi) (ltA ls lo hi) (ltB ls lo hi) lo.length := by simp [lotI, lotD, h]
/-- The numbers of the slope and of the denominator. -/
theorem lt_bd {ls lo hi : List Int} (hv : blkB ls lo hi = true) (hs : standB (bfind ls lo hi) = true) :
    1 ≤ (ltS ls lo hi).2 ∧ (ltS ls lo hi).2 ≤ 38000000 ∧ -20000000000 ≤ (ltS ls lo hi).1 ∧ (ltS ls lo hi).1 ≤ 20000000000 ∧ 1 ≤ ltM ls lo hi ∧ ltM ls lo hi ≤ 38000000 := by
  obtain ⟨v1, v2, v3, v4, v5, v6, v7, v8⟩ := blkB_t hv
  obtain ⟨n1, n2, d1, d2⟩ := s_sharp hv hs
  obtain ⟨h1, ⟨j, k, hkj, hj, he, hle, hf⟩, _⟩ := slope_le (ls := ls) (lo := lo) (hi := hi) (sn := sN (bfind ls lo hi)) d1 (n := lo.length) (by omega)
  have hM : 0 < slD (sD (bfind ls lo hi)) j k := Int.mul_pos (by omega) (by omega)
  have hM2 : slD (sD (bfind ls lo hi)) j k ≤ 38000000 := by
    have := (prod_bd (x := sD (bfind ls lo hi)) (y := (j : Int) - k) (A := 3800000) (B := 10) (by omega) (by omega) (by omega) (by omega) (by omega)).2
    unfold slD; omega
  have hcd : (ltS ls lo hi).2 ∣ slD (sD (bfind ls lo hi)) j k := by
    unfold ltS; rw [hf]
    exact ⟨_, (lwD_mul _ _).symm⟩
  have hsd : sD (bfind ls lo hi) ∣ slD (sD (bfind ls lo hi)) j k := ⟨_, rfl⟩
  have hN : -20000000000 ≤ (ltS ls lo hi).1 ∧ (ltS ls lo hi).1 ≤ 20000000000 := by
    unfold ltS; rw [hf]
    refine lwN_bd _ _ _ ?_ ?_
    all_goals
      obtain ⟨x1, x2⟩ := v6 j (by omega)
      obtain ⟨x5, x6⟩ := v7 k (by omega)
      obtain ⟨y5, y6⟩ := momAt_bd (ls := ls) (k := j) (by omega) v3 (by omega)
      obtain ⟨y7, y8⟩ := momAt_bd (ls := ls) (k := k) (by omega) v3 (by omega)
      have p1 := prod_bd (x := lo.getD j 0 - hi.getD k 0) (y := sD (bfind ls lo hi)) (A := 2000) (B := 3800000) (by omega) (by omega) (by omega) (by omega) (by omega)
      have p2 := prod_bd (x := momAt ls j - momAt ls k) (y := sN (bfind ls lo hi)) (A := 190000) (B := 40000) (by omega) (by omega) (by omega) (by omega) (by omega)
      rw [Int.mul_comm (momAt ls j - momAt ls k)] at p2
      unfold slN
      omega
  have e : slD (sD (bfind ls lo hi)) j k = ((slD (sD (bfind ls lo hi)) j k).toNat : Int) := by omega
  rw [e] at hcd hsd
  have hD := deI_le d1 (show 1 ≤ (ltS ls lo hi).2 from h1) (M := (slD (sD (bfind ls lo hi)) j k).toNat) (by omega) hsd hcd
  have h1' : 1 ≤ (ltS ls lo hi).2 := h1
  have hle' : (ltS ls lo hi).2 ≤ slD (sD (bfind ls lo hi)) j k := hle
  refine ⟨h1', by omega, hN.1, hN.2, hD.1, ?_⟩
  have : ltM ls lo hi = deI (sD (bfind ls lo hi)) (ltS ls lo hi).2 := rfl
  omega
/-- The reference's denominator and factors are t times the program's. -/
theorem lt_scale {ls lo hi : List Int} (hv : blkB ls lo hi = true) (hs : standB (bfind ls lo hi) = true) :
    ∃ t : Int, 0 < t ∧ sD (bfind ls lo hi) * (ltS ls lo hi).2 = t * ltM ls lo hi ∧ (ltS ls lo hi).1 * sD (bfind ls lo hi) = t * ltA ls lo hi ∧ sN (bfind ls lo hi) * (ltS ls lo hi).2 = t * ltB ls lo hi := by
  obtain ⟨n1, n2, d1, d2⟩ := s_sharp hv hs
  obtain ⟨h1, _⟩ := lt_bd hv hs
  obtain ⟨a, b, c, d⟩ := de_scale (sn := sN (bfind ls lo hi)) (cN := (ltS ls lo hi).1) d1 h1
  exact ⟨_, a, b, c, d⟩
/-- The line over the reference's denominator is the same. -/
theorem lot_spec {ls lo hi : List Int} (hv : blkB ls lo hi = true) (hs : standB (bfind ls lo hi) = true) :
    liV ls lo (sD (bfind ls lo hi) * (ltS ls lo hi).2) ((ltS ls lo hi).1 * sD (bfind ls lo hi)) (sN (bfind ls lo hi) * (ltS ls lo hi).2) lo.length = liV ls lo (ltM ls lo hi) (ltA ls lo hi) (ltB ls lo hi) lo.length ∧
    ldV ls lo (sD (bfind ls lo hi) * (ltS ls lo hi).2) ((ltS ls lo hi).1 * sD (bfind ls lo hi)) (sN (bfind ls lo hi) * (ltS ls lo hi).2) lo.length = ldV ls lo (ltM ls lo hi) (ltA ls lo hi) (ltB ls lo hi) lo.length := by
  obtain ⟨t, h0, e1, e2, e3⟩ := lt_scale hv hs
  rw [e1, e2, e3]
  exact line_scale ls lo h0 _ _ _ _
/-- The line is a line of thrust. -/
theorem lot_isLine {ls lo hi : List Int} (h : canV ls lo hi = true) : lineC ls lo hi (lotI ls lo hi) (lotD ls lo hi) = 0 ∧ lineV ls lo hi (lotI ls lo hi) (lotD ls lo hi) = true := by
  obtain ⟨hv, hs⟩ := canV_t h
  obtain ⟨v1, v2, v3, v4, v5, v6, v7, v8⟩ := blkB_t hv
  obtain ⟨n1, n2, d1, d2⟩ := s_sharp hv hs
  obtain ⟨b1, b2, b3, b4, b5, b6⟩ := lt_bd hv hs
  obtain ⟨e1, e2⟩ := lot_yes h
  have hM := ldV_mul ls lo (ltM ls lo hi) (ltA ls lo hi) (ltB ls lo hi) lo.length
  have hCp := coV_pos ls lo (show 0 < ltM ls lo hi by omega) (ltA ls lo hi) (ltB ls lo hi) lo.length lo.length
  obtain ⟨f1, f2⟩ := lot_spec hv hs
  rw [← f1] at e1
  have hfit := fun k hk => ouV_fit hv hs (sn := sN (bfind ls lo hi)) (sd := sD (bfind ls lo hi)) (cN := (ltS ls lo hi).1) (cD := (ltS ls lo hi).2) rfl rfl rfl (k := k) hk
  have hd : 0 < sD (bfind ls lo hi) * (ltS ls lo hi).2 := Int.mul_pos (by omega) (by omega)
  have hC := coV_pos ls lo hd ((ltS ls lo hi).1 * sD (bfind ls lo hi)) (sN (bfind ls lo hi) * (ltS ls lo hi).2) lo.length lo.length
  have hD := ldV_mul ls lo (sD (bfind ls lo hi) * (ltS ls lo hi).2) ((ltS ls lo hi).1 * sD (bfind ls lo hi)) (sN (bfind ls lo hi) * (ltS ls lo hi).2) lo.length
  have hZ := fun k hk => liV_mul ls lo (sD (bfind ls lo hi) * (ltS ls lo hi).2) ((ltS ls lo hi).1 * sD (bfind ls lo hi)) (sN (bfind ls lo hi) * (ltS ls lo hi).2) lo.length k hk
  have hbend := fun k => ouV_bend ls lo (sD (bfind ls lo hi) * (ltS ls lo hi).2) ((ltS ls lo hi).1 * sD (bfind ls lo hi)) (sN (bfind ls lo hi) * (ltS ls lo hi).2) lo.length k
  have hB : 0 < sN (bfind ls lo hi) * (ltS ls lo hi).2 := Int.mul_pos (by omega) (by omega)
  have hlen := liV_len ls lo (sD (bfind ls lo hi) * (ltS ls lo hi).2) ((ltS ls lo hi).1 * sD (bfind ls lo hi)) (sN (bfind ls lo hi) * (ltS ls lo hi).2) lo.length
  rw [← e1] at hlen hZ
  rw [f2, ← e2] at hD
  rw [← e2] at hM
  generalize lotI ls lo hi = Z at *
  generalize lotD ls lo hi = D at *
  generalize coV ls lo (ltM ls lo hi) (ltA ls lo hi) (ltB ls lo hi) lo.length lo.length = C' at *
  generalize coV ls lo (sD (bfind ls lo hi) * (ltS ls lo hi).2) ((ltS ls lo hi).1 * sD (bfind ls lo hi)) (sN (bfind ls lo hi) * (ltS ls lo hi).2) lo.length lo.length = C at *
  generalize sN (bfind ls lo hi) * (ltS ls lo hi).2 = B at *
  have hD1 : 1 ≤ D := by
    rcases Int.lt_or_le 0 D with q | q
    · omega
    · have := Int.mul_nonpos_of_nonpos_of_nonneg q (show 0 ≤ C' by omega); omega
  have hD2 : D ≤ 38000000 := by
    have : D * 1 ≤ D * C' := Int.mul_le_mul_of_nonneg_left (by omega) (by omega)
    omega
  have hF : ∀ k, k < lo.length → lo.getD k 0 * D ≤ Z.getD k 0 ∧ Z.getD k 0 ≤ hi.getD k 0 * D := fun k hk => by
    have h1 := hfit k hk
    rw [← hZ k hk, ← hD, ← Int.mul_assoc, ← Int.mul_assoc] at h1
    exact ⟨Int.le_of_mul_le_mul_right h1.1 hC, Int.le_of_mul_le_mul_right h1.2 hC⟩
  have hR : ∀ k, k < Z.length → -100000000000 ≤ Z.getD k 0 ∧ Z.getD k 0 ≤ 100000000000 := fun k hk => by
    rw [hlen] at hk
    obtain ⟨g1, g2⟩ := hF k hk
    obtain ⟨x1, x2⟩ := v6 k (by omega)
    obtain ⟨x5, x6⟩ := v7 k (by omega)
    have p1 := prod_bd (x := lo.getD k 0) (y := D) (A := 1000) (B := 38000000) (by omega) (by omega) (by omega) (by omega) (by omega)
    have p2 := prod_bd (x := hi.getD k 0) (y := D) (A := 1000) (B := 38000000) (by omega) (by omega) (by omega) (by omega) (by omega)
    omega
  have hbe : ∀ i, i < ls.length - 1 → bendAt Z (i + 1) * C = -(B * (ls.getD i 0 + ls.getD (i + 1) 0)) := fun i hi => by
    have h1 := hbend i
    rw [← hZ (i + 2) (by omega), ← hZ (i + 1) (by omega), ← hZ i (by omega)] at h1
    rw [← h1]
    unfold bendAt
    rw [show i + 1 - 1 = i by omega, show i + 1 + 1 = i + 2 by omega]
    generalize Z.getD (i + 2) 0 = a
    generalize Z.getD (i + 1) 0 = b
    generalize Z.getD i 0 = c
    grind
  have h0 := hbe 0 (by omega)
  have p0 := v3 0 (by omega)
  have p1 := v3 1 (by omega)
  have hneg : bendAt Z 1 < 0 := by
    have h2 : 0 < B * (ls.getD 0 0 + ls.getD 1 0) := Int.mul_pos hB (by omega)
    rcases Int.lt_or_le (bendAt Z 1) 0 with q | q
    · exact q
    · have := Int.mul_nonneg q (show 0 ≤ C by omega)
      rw [show 0 + 1 = 1 by omega] at h0
      omega
  obtain ⟨r1, r2⟩ := line_ok (ls := ls) (lo := lo) (hi := hi) (z := Z) (d := D) hv (by
    rw [decide_eq_true hlen, insB_mk hR, inB_mk ⟨hD1, by omega⟩]; rfl)
  refine ⟨r1, ?_⟩
  rw [r2, fitB_mk (fun k hk => hF k (by omega)), bendB_mk hneg fun i hi => ?_]
  · rfl
  · refine Int.eq_of_mul_eq_mul_right (show C ≠ 0 by omega) ?_
    have h3 := hbe i hi
    rw [show 0 + 1 = 1 by omega] at h0
    have g1 : bendAt Z (i + 1) * (ls.getD 0 0 + ls.getD 1 0) * C = bendAt Z (i + 1) * C * (ls.getD 0 0 + ls.getD 1 0) := Int.mul_right_comm _ _ _
    have g2 : bendAt Z 1 * (ls.getD i 0 + ls.getD (i + 1) 0) * C = bendAt Z 1 * C * (ls.getD i 0 + ls.getD (i + 1) 0) := Int.mul_right_comm _ _ _
    rw [g1, g2, h3, h0]
    grind
end Go.Proofs.Ytklhaanapembdaa
/- The plain laws of arches: an arch stands where some positive curvature fulfils all conditions, and its upper bound is the greatest such; the arch from the other side; an arch that is higher outside; an arch around a line; no program in sight. -/
namespace Go.Proofs.Ytklhaanapembdaa
set_option linter.unusedVariables false
set_option linter.unusedSimpArgs false

theorem qP_mem {ls lo hi : List Int} {N j k p d : Nat} {c : Cnd} : c ∈ qP ls lo hi N j k p d ↔ ∃ i, i < d ∧ c = cnd ls lo hi j k p (p + 1 + i) := by
  unfold qP
  rw [List.mem_map]
  constructor
  · rintro ⟨i, h1, h2⟩; exact ⟨i, by simpa using h1, h2.symm⟩
  · rintro ⟨i, h1, h2⟩; exact ⟨i, by simpa using h1, h2.symm⟩
theorem qAll_mem {ls lo hi : List Int} {N n : Nat} {c : Cnd} : c ∈ qAll ls lo hi N n ↔ ∃ j k p q, k < j ∧ j < n ∧ p < q ∧ q < N ∧ c = cnd ls lo hi j k p q := by
  unfold qAll qJ qK
  simp only [List.mem_flatMap, List.mem_range]
  constructor
  · rintro ⟨j, hj, k, hk, p, hp, hc⟩
    obtain ⟨i, hi, rfl⟩ := qP_mem.1 hc
    exact ⟨j, k, p, p + 1 + i, hk, hj, by omega, by omega, rfl⟩
  · rintro ⟨j, k, p, q, h1, h2, h3, h4, rfl⟩
    exact ⟨j, h2, k, h1, p, by omega, qP_mem.2 ⟨q - p - 1, by omega, by rw [show p + 1 + (q - p - 1) = q by omega]⟩⟩
/-- A curvature n/d fulfils all conditions. -/
def AllC (ls lo hi : List Int) (n d : Int) : Prop := ∀ j k p q : Nat, k < j → j < lo.length → p < q → q < lo.length → cA lo hi j k p q * d ≤ n * cB (momAt ls) j k p q
theorem allC_list {ls lo hi : List Int} {n d : Int} : AllC ls lo hi n d ↔ ∀ c ∈ qAll ls lo hi lo.length lo.length, c.a * d ≤ n * c.b := by
  constructor
  · intro h c hc
    obtain ⟨j, k, p, q, h1, h2, h3, h4, rfl⟩ := qAll_mem.1 hc
    exact h j k p q h1 h2 h3 h4
  · intro h j k p q h1 h2 h3 h4
    exact h _ (qAll_mem.2 ⟨j, k, p, q, h1, h2, h3, h4, rfl⟩)
/-- Where a curvature fulfils all conditions, the arch stands, and the upper bound is no less. -/
theorem stand_of {l : List Cnd} {S : Bnds} (hB : Best l S) (hh : S.hh = true) {n d : Int} (hn : 1 ≤ n) (hd : 1 ≤ d) (h : ∀ c ∈ l, c.a * d ≤ n * c.b) : standB S = true ∧ n * sD S ≤ sN S * d := by
  obtain ⟨k1, k2, k3⟩ := hB.high hh
  have hH := h _ k1
  have hnb : n * S.high.b ≤ 1 * S.high.b := Int.mul_le_mul_of_nonpos_right hn (by omega)
  have ha : S.high.a < 0 := by
    rcases Int.lt_or_le S.high.a 0 with q | q
    · exact q
    · have := Int.mul_nonneg q (show 0 ≤ d by omega); omega
  have hN : S.hn = false := by
    cases e : S.hn
    · rfl
    · obtain ⟨j1, j2, j3⟩ := hB.neverT e
      have h1 := h _ j1
      rw [j2, Int.mul_zero] at h1
      have := Int.mul_pos j3 (show 0 < d by omega)
      omega
  refine ⟨?_, ?_⟩
  · unfold standB
    rw [hN, hh, decide_eq_true ha]
    cases hl : S.hl
    · rfl
    · obtain ⟨j1, j2, j3⟩ := hB.low hl
      have h1 := h _ j1
      have : lessC S.high.a S.high.b S.low.a S.low.b = false := by
        rw [less_le]
        unfold leC sgn
        rw [if_neg (by omega), if_pos k2]
        have e1 : (S.high.b.natAbs : Int) = -S.high.b := by omega
        have e2 : (S.low.b.natAbs : Int) = S.low.b := by omega
        rw [e1, e2]
        refine Int.le_of_mul_le_mul_right ?_ (show 0 < d by omega)
        have a1 : S.low.a * d * (-S.high.b) ≤ n * S.low.b * (-S.high.b) := Int.mul_le_mul_of_nonneg_right h1 (by omega)
        have a2 : S.high.a * d * S.low.b ≤ n * S.high.b * S.low.b := Int.mul_le_mul_of_nonneg_right hH (by omega)
        grind
      rw [this]; rfl
  · have hx : sN S * (-S.high.b) = (-S.high.a) * sD S := lw_cross _ _
    have hd1 : 1 ≤ sD S := lwD_pos _ _ (by omega)
    refine Int.le_of_mul_le_mul_right ?_ (show 0 < -S.high.b by omega)
    have a1 : S.high.a * d * sD S ≤ n * S.high.b * sD S := Int.mul_le_mul_of_nonneg_right hH (by omega)
    have g1 : n * sD S * (-S.high.b) = -(n * S.high.b * sD S) := by simp only [Int.mul_neg, Int.neg_mul, Int.mul_assoc, Int.mul_comm, Int.mul_left_comm]
    have g2 : sN S * d * (-S.high.b) = sN S * (-S.high.b) * d := by simp only [Int.mul_neg, Int.neg_mul, Int.mul_assoc, Int.mul_comm, Int.mul_left_comm]
    have g3 : -S.high.a * sD S * d = -(S.high.a * d * sD S) := by simp only [Int.mul_neg, Int.neg_mul, Int.mul_assoc, Int.mul_comm, Int.mul_left_comm]
    rw [g1, g2, hx, g3]
    omega
theorem stand_blk {ls lo hi : List Int} (hv : blkB ls lo hi = true) {n d : Int} (hn : 1 ≤ n) (hd : 1 ≤ d) (h : AllC ls lo hi n d) : standB (bfind ls lo hi) = true ∧ n * sD (bfind ls lo hi) ≤ sN (bfind ls lo hi) * d :=
  stand_of (best_find ls lo hi) (bfind_hh hv) hn hd (allC_list.1 h)
theorem stand_has {ls lo hi : List Int} (hv : blkB ls lo hi = true) (hs : standB (bfind ls lo hi) = true) : 1 ≤ sN (bfind ls lo hi) ∧ 1 ≤ sD (bfind ls lo hi) ∧ AllC ls lo hi (sN (bfind ls lo hi)) (sD (bfind ls lo hi)) := by
  obtain ⟨_, _, h1, h2, h3⟩ := stand_all (best_find ls lo hi) hs (bfind_hh hv)
  exact ⟨h1, h2, allC_list.2 h3⟩
/-- Lowest terms. -/
theorem lw_cop (n d : Int) (hd : 0 < d) : Int.gcd (lwN n d) (lwD n d) = 1 := by
  have hg : 0 < Int.gcd n d := Int.gcd_pos_of_ne_zero_right n (by omega)
  have h1 := lwN_mul n d
  have h2 := lwD_mul n d
  have h3 : Int.gcd (lwN n d * (Int.gcd n d : Int)) (lwD n d * (Int.gcd n d : Int)) = Int.gcd (lwN n d) (lwD n d) * Int.gcd n d := by
    rw [Int.gcd_mul_right]; simp
  rw [h1, h2] at h3
  exact (Nat.eq_of_mul_eq_mul_right hg (by rw [Nat.one_mul]; exact h3)).symm
theorem cop_dvd {a b c : Int} (h : a ∣ c * b) (g : Int.gcd a b = 1) : a ∣ c := by
  have h1 := Int.natAbs_dvd_natAbs.2 h
  rw [Int.natAbs_mul] at h1
  exact Int.natAbs_dvd_natAbs.1 (Nat.Coprime.dvd_of_dvd_mul_right g h1)
theorem lw_same {a b c d : Int} (hb : 1 ≤ b) (hd : 1 ≤ d) (ha : 1 ≤ a) (hc : 1 ≤ c) (g1 : Int.gcd a b = 1) (g2 : Int.gcd c d = 1) (h : a * d = c * b) : a = c ∧ b = d := by
  have d1 : a ∣ c * b := ⟨d, h.symm⟩
  have d2 : c ∣ a * d := ⟨b, h⟩
  have e1 : a ∣ c := cop_dvd d1 g1
  have e2 : c ∣ a := cop_dvd d2 g2
  have e : a = c := Int.le_antisymm (Int.le_of_dvd (by omega) e1) (Int.le_of_dvd (by omega) e2)
  subst e
  exact ⟨rfl, (Int.eq_of_mul_eq_mul_left (show a ≠ 0 by omega) h).symm⟩
/-- Two arches with the same curvatures have the same bounds. -/
theorem bounds_same {ls lo hi ls' lo' hi' : List Int} (hv : blkB ls lo hi = true) (hv' : blkB ls' lo' hi' = true) (h : ∀ n d, AllC ls lo hi n d ↔ AllC ls' lo' hi' n d) :
    standB (bfind ls lo hi) = standB (bfind ls' lo' hi') ∧ (standB (bfind ls lo hi) = true → sN (bfind ls lo hi) = sN (bfind ls' lo' hi') ∧ sD (bfind ls lo hi) = sD (bfind ls' lo' hi')) := by
  have key : ∀ {ls lo hi ls' lo' hi' : List Int}, blkB ls lo hi = true → blkB ls' lo' hi' = true → (∀ n d, AllC ls lo hi n d ↔ AllC ls' lo' hi' n d) → standB (bfind ls lo hi) = true → standB (bfind ls' lo' hi') = true ∧ sN (bfind ls lo hi) * sD (bfind ls' lo' hi') ≤ sN (bfind ls' lo' hi') * sD (bfind ls lo hi) := by
    intro ls lo hi ls' lo' hi' hv hv' h hs
    obtain ⟨h1, h2, h3⟩ := stand_has hv hs
    exact stand_blk hv' h1 h2 ((h _ _).1 h3)
  cases hs : standB (bfind ls lo hi)
  · refine ⟨?_, fun e => by cases e⟩
    cases hs' : standB (bfind ls' lo' hi')
    · rfl
    · have := (key hv' hv (fun n d => (h n d).symm) hs').1
      rw [hs] at this; cases this
  · obtain ⟨k1, k2⟩ := key hv hv' h hs
    obtain ⟨k3, k4⟩ := key hv' hv (fun n d => (h n d).symm) k1
    refine ⟨k1.symm, fun _ => ?_⟩
    obtain ⟨b1, a1, n1, d1, _⟩ := stand_all (best_find ls lo hi) hs (bfind_hh hv)
    obtain ⟨b2, a2, n2, d2, _⟩ := stand_all (best_find ls' lo' hi') k1 (bfind_hh hv')
    have c1 := lw_cop (-(bfind ls lo hi).high.a) (-(bfind ls lo hi).high.b) (by omega)
    have c2 := lw_cop (-(bfind ls' lo' hi').high.a) (-(bfind ls' lo' hi').high.b) (by omega)
    exact lw_same d1 d2 n1 n2 c1 c2 (by omega)
/-! ### The arch from the other side -/
theorem rev_get (zs : List Int) {k : Nat} (h : k < zs.length) : zs.reverse.getD k 0 = zs.getD (zs.length - 1 - k) 0 := by
  rw [List.getD_eq_getElem?_getD, List.getElem?_eq_getElem (by simpa using h), List.getElem_reverse, List.getD_eq_getElem?_getD, List.getElem?_eq_getElem (by omega)]
theorem insB_rev (zs : List Int) (lo hi : Int) : insB zs.reverse lo hi = insB zs lo hi := by simp [insB, List.all_reverse]
theorem blkB_rev {ls lo hi : List Int} (h : blkB ls lo hi = true) : blkB ls.reverse lo.reverse hi.reverse = true := by
  obtain ⟨v1, v2, v3, v4, v5, v6, v7, v8⟩ := blkB_t h
  unfold blkB at *
  simp only [Bool.and_eq_true, decide_eq_true_eq] at *
  obtain ⟨⟨⟨⟨⟨⟨h1, h2⟩, h3⟩, h4⟩, h5⟩, h6⟩, h7⟩ := h
  refine ⟨⟨⟨⟨⟨⟨by rw [List.length_reverse]; exact h1, by rw [insB_rev]; exact h2⟩, by simp; exact h3⟩, by simp; exact h4⟩, by rw [insB_rev]; exact h5⟩, by rw [insB_rev]; exact h6⟩, leB_mk fun k hk => ?_⟩
  have hk' : k < lo.length := by simpa using hk
  rw [rev_get lo hk', rev_get hi (by omega), h3, h4]
  exact v8 _ (by omega)
theorem momAt_rev (ls : List Int) : ∃ α β : Int, ∀ k, k ≤ ls.length → momAt ls.reverse k = momAt ls (ls.length - k) + (α + β * (k : Int)) := by
  refine ⟨momAt ls.reverse 0 - momAt ls (ls.length - 0), (momAt ls.reverse 1 - momAt ls (ls.length - 1)) - (momAt ls.reverse 0 - momAt ls (ls.length - 0)), fun k => ?_⟩
  induction k using Nat.strongRecOn with
  | ind k ih =>
    intro hk
    rcases k with _ | _ | k
    · simp; omega
    · simp; omega
    · have h0 := ih k (by omega) (by omega)
      have h1 := ih (k + 1) (by omega) (by omega)
      have b1 := momAt_bend ls.reverse k
      have b2 := momAt_bend ls (ls.length - (k + 2))
      rw [rev_get ls (by omega), rev_get ls (by omega)] at b1
      rw [show ls.length - (k + 2) + 2 = ls.length - k by omega, show ls.length - (k + 2) + 1 = ls.length - (k + 1) by omega] at b2
      rw [show ls.length - 1 - k = ls.length - (k + 1) by omega, show ls.length - 1 - (k + 1) = ls.length - (k + 2) by omega] at b1
      generalize (momAt ls.reverse 1 - momAt ls (ls.length - 1)) - (momAt ls.reverse 0 - momAt ls (ls.length - 0)) = β at *
      generalize momAt ls.reverse 0 - momAt ls (ls.length - 0) = α at *
      have e1 : β * ((k + 1 : Nat) : Int) = β * (k : Int) + β := by rw [Int.natCast_add, Int.mul_add]; simp
      have e2 : β * ((k + 1 + 1 : Nat) : Int) = β * (k : Int) + 2 * β := by
        rw [show ((k + 1 + 1 : Nat) : Int) = (k : Int) + 2 by omega, Int.mul_add, Int.mul_comm β 2]
      rw [e1] at h1
      rw [e2]
      rw [show k + 1 + 1 = k + 2 by omega]
      generalize momAt ls.reverse (k + 2) = x2 at *
      generalize momAt ls.reverse (k + 1) = x1 at *
      generalize momAt ls.reverse k = x0 at *
      generalize momAt ls (ls.length - (k + 2)) = y2 at *
      generalize momAt ls (ls.length - (k + 1)) = y1 at *
      generalize momAt ls (ls.length - k) = y0 at *
      generalize β * (k : Int) = bk at *
      omega
theorem cA_rev {lo hi : List Int} (hl : hi.length = lo.length) {j k p q : Nat} (hj : j < lo.length) (hk : k < lo.length) (hp : p < lo.length) (hq : q < lo.length) :
    cA lo.reverse hi.reverse j k p q = cA lo hi (lo.length - 1 - p) (lo.length - 1 - q) (lo.length - 1 - j) (lo.length - 1 - k) := by
  unfold cA
  rw [rev_get lo hj, rev_get hi (by omega), rev_get hi (by omega), rev_get lo hp, hl]
  have e1 : ((lo.length - 1 - k : Nat) : Int) - ((lo.length - 1 - j : Nat) : Int) = (j : Int) - k := by omega
  have e2 : ((lo.length - 1 - p : Nat) : Int) - ((lo.length - 1 - q : Nat) : Int) = (q : Int) - p := by omega
  rw [e1, e2]
  generalize lo.getD (lo.length - 1 - j) 0 = a
  generalize hi.getD (lo.length - 1 - k) 0 = b
  generalize hi.getD (lo.length - 1 - q) 0 = c
  generalize lo.getD (lo.length - 1 - p) 0 = d
  generalize (j : Int) - k = x
  generalize (q : Int) - p = y
  grind
theorem cB_rev {ls : List Int} {N j k p q : Nat} (hN : N = ls.length + 1) (hj : j < N) (hk : k < N) (hp : p < N) (hq : q < N) :
    cB (momAt ls.reverse) j k p q = cB (momAt ls) (N - 1 - p) (N - 1 - q) (N - 1 - j) (N - 1 - k) := by
  obtain ⟨α, β, h⟩ := momAt_rev ls
  unfold cB
  rw [h j (by omega), h k (by omega), h p (by omega), h q (by omega)]
  have e1 : ((N - 1 - k : Nat) : Int) - ((N - 1 - j : Nat) : Int) = (j : Int) - k := by omega
  have e2 : ((N - 1 - p : Nat) : Int) - ((N - 1 - q : Nat) : Int) = (q : Int) - p := by omega
  rw [e1, e2, show N - 1 - p = ls.length - p by omega, show N - 1 - q = ls.length - q by omega, show N - 1 - j = ls.length - j by omega, show N - 1 - k = ls.length - k by omega]
  generalize momAt ls (ls.length - j) = a
  generalize momAt ls (ls.length - k) = b
  generalize momAt ls (ls.length - p) = c
  generalize momAt ls (ls.length - q) = d
  generalize (j : Int) = J
  generalize (k : Int) = K
  generalize (p : Int) = P
  generalize (q : Int) = Q
  grind
theorem allC_rev1 {ls lo hi : List Int} (h1 : lo.length = ls.length + 1) (h2 : hi.length = ls.length + 1) {n d : Int} (h : AllC ls lo hi n d) : AllC ls.reverse lo.reverse hi.reverse n d := by
  intro j k p q hkj hj hpq hq
  have hj' : j < lo.length := by simpa using hj
  have hq' : q < lo.length := by simpa using hq
  rw [cA_rev (by omega) hj' (by omega) (by omega) hq', cB_rev h1 hj' (by omega) (by omega) hq']
  exact h _ _ _ _ (by omega) (by omega) (by omega) (by omega)
theorem allC_rev {ls lo hi : List Int} (h1 : lo.length = ls.length + 1) (h2 : hi.length = ls.length + 1) (n d : Int) : AllC ls lo hi n d ↔ AllC ls.reverse lo.reverse hi.reverse n d := by
  refine ⟨allC_rev1 h1 h2, fun h => ?_⟩
  have := allC_rev1 (ls := ls.reverse) (lo := lo.reverse) (hi := hi.reverse) (by simpa using h1) (by simpa using h2) h
  simpa using this
/-- What an arch from the other side answers. -/
theorem mirror_law {ls lo hi : List Int} (hv : blkB ls lo hi = true) :
    blkB ls.reverse lo.reverse hi.reverse = true ∧ canV ls.reverse lo.reverse hi.reverse = canV ls lo hi ∧ csC ls.reverse lo.reverse hi.reverse = csC ls lo hi ∧ ltN ls.reverse lo.reverse hi.reverse = ltN ls lo hi ∧ ltD ls.reverse lo.reverse hi.reverse = ltD ls lo hi := by
  obtain ⟨v1, v2, v3, v4, v5, v6, v7, v8⟩ := blkB_t hv
  have hv' := blkB_rev hv
  obtain ⟨e1, e2⟩ := bounds_same hv hv' (allC_rev v4 v5)
  have ec : canV ls.reverse lo.reverse hi.reverse = canV ls lo hi := by rw [canV_eq hv, canV_eq hv', e1]
  refine ⟨hv', ec, ?_, ?_, ?_⟩
  · unfold csC; rw [hv, hv', e1]
  all_goals
    cases hc : canV ls lo hi
    · first
      | exact ((cv_no (by rw [ec]; exact hc)).2.2.2.2.1).trans (cv_no hc).2.2.2.2.1.symm
      | exact ((cv_no (by rw [ec]; exact hc)).2.2.2.2.2).trans (cv_no hc).2.2.2.2.2.symm
    · obtain ⟨f1, f2⟩ := e2 (canV_t hc).2
      obtain ⟨_, _, _, _, g1, g2⟩ := cv_yes hc
      obtain ⟨_, _, _, _, g3, g4⟩ := cv_yes (ec.trans hc)
      first
        | rw [g1, g3, f1, f2]
        | rw [g2, g4, f1, f2]
/-! ### An arch that is higher outside -/
theorem allC_higher {ls lo hi hi' : List Int} {n d : Int} (hd : 0 ≤ d) (hh : ∀ i, hi.getD i 0 ≤ hi'.getD i 0) (h : AllC ls lo hi n d) : AllC ls lo hi' n d := by
  intro j k p q h1 h2 h3 h4
  refine Int.le_trans (Int.mul_le_mul_of_nonneg_right ?_ hd) (h j k p q h1 h2 h3 h4)
  unfold cA
  have a1 : (lo.getD j 0 - hi'.getD k 0) * ((q : Int) - p) ≤ (lo.getD j 0 - hi.getD k 0) * ((q : Int) - p) := Int.mul_le_mul_of_nonneg_right (by have := hh k; omega) (by omega)
  have a2 : (hi.getD q 0 - lo.getD p 0) * ((j : Int) - k) ≤ (hi'.getD q 0 - lo.getD p 0) * ((j : Int) - k) := Int.mul_le_mul_of_nonneg_right (by have := hh q; omega) (by omega)
  omega
/-! ### An arch around a line -/
theorem allC_line {ls lo hi z : List Int} {y c : Int} (hz : ∀ k, k < lo.length → z.getD k 0 = y + c * (k : Int) - momAt ls k) (hf : ∀ k, k < lo.length → lo.getD k 0 ≤ z.getD k 0 ∧ z.getD k 0 ≤ hi.getD k 0) : AllC ls lo hi 1 1 := by
  intro j k p q h1 h2 h3 h4
  have fj := hf j h2
  have fk := hf k (by omega)
  have fp := hf p (by omega)
  have fq := hf q h4
  have zj := hz j h2
  have zk := hz k (by omega)
  have zp := hz p (by omega)
  have zq := hz q h4
  rw [Int.mul_one, Int.one_mul]
  unfold cA cB
  have a1 : (lo.getD j 0 - hi.getD k 0) * ((q : Int) - p) ≤ (z.getD j 0 - z.getD k 0) * ((q : Int) - p) := Int.mul_le_mul_of_nonneg_right (by omega) (by omega)
  have a2 : (z.getD q 0 - z.getD p 0) * ((j : Int) - k) ≤ (hi.getD q 0 - lo.getD p 0) * ((j : Int) - k) := Int.mul_le_mul_of_nonneg_right (by omega) (by omega)
  have e : (z.getD j 0 - z.getD k 0) * ((q : Int) - p) - (z.getD q 0 - z.getD p 0) * ((j : Int) - k) = (momAt ls q - momAt ls p) * ((j : Int) - k) - (momAt ls j - momAt ls k) * ((q : Int) - p) := by
    rw [zj, zk, zp, zq]
    generalize momAt ls j = a
    generalize momAt ls k = b
    generalize momAt ls p = cc
    generalize momAt ls q = d
    generalize (j : Int) = J
    generalize (k : Int) = K
    generalize (p : Int) = P
    generalize (q : Int) = Q
    grind
  omega
end Go.Proofs.Ytklhaanapembdaa
