/- The plain law of LineOfThrust: what both programs answer, and that it is a line of thrust by IsLine's law; no program in sight. -/
import Derived.Test.YtklhaanapembdaaLotR
namespace Go.Proofs.Ytklhaanapembdaa

theorem deI_lcm {sd cD : Int} (h1 : 1 ≤ sd) (h2 : 1 ≤ cD) : deI sd cD = (Int.lcm sd cD : Int) := by
  obtain ⟨g0, e, _, _⟩ := de_scale (sn := 0) (cN := 0) h1 h2
  have h := Int.gcd_mul_lcm sd cD
  have h' : (Int.gcd sd cD : Int) * (Int.lcm sd cD : Int) = sd * cD := by
    rw [← Int.natCast_mul, h, Int.natCast_mul]
    rw [show ((sd.natAbs : Nat) : Int) = sd by omega, show ((cD.natAbs : Nat) : Int) = cD by omega]
  rw [e] at h'
  exact (Int.eq_of_mul_eq_mul_left (by omega) h').symm
theorem deI_le {sd cD : Int} (h1 : 1 ≤ sd) (h2 : 1 ≤ cD) {M : Nat} (hM : 0 < M) (hd : sd ∣ (M : Int)) (hc : cD ∣ (M : Int)) : 1 ≤ deI sd cD ∧ deI sd cD ≤ M := by
  rw [deI_lcm h1 h2]
  have h := Nat.le_of_dvd hM (Int.lcm_dvd hd hc)
  have hp : 0 < Int.lcm sd cD := by
    rcases Nat.eq_zero_or_pos (Int.lcm sd cD) with e | e
    · have := Int.gcd_mul_lcm sd cD
      rw [e, Nat.mul_zero] at this
      have h3 : 0 < sd.natAbs * cD.natAbs := Nat.mul_pos (by omega) (by omega)
      omega
    · exact e
  omega
/-- The slope of an arch that stands. -/
def ltS (ls lo hi : List Int) : Int × Int := slA (slO ls lo hi (sN (bfind ls lo hi)) (sD (bfind ls lo hi))) lo.length
/-- The denominator before the line is put in lowest terms. -/
def ltM (ls lo hi : List Int) : Int := deI (sD (bfind ls lo hi)) (ltS ls lo hi).2
def ltA (ls lo hi : List Int) : Int := (ltS ls lo hi).1 * (ltM ls lo hi).tdiv (ltS ls lo hi).2
def ltB (ls lo hi : List Int) : Int := sN (bfind ls lo hi) * (ltM ls lo hi).tdiv (sD (bfind ls lo hi))
/-- The line and its denominator, or nothing. -/
def lotI (ls lo hi : List Int) : List Int := if canV ls lo hi = true then liV ls lo (ltM ls lo hi) (ltA ls lo hi) (ltB ls lo hi) lo.length else []
def lotD (ls lo hi : List Int) : Int := if canV ls lo hi = true then ldV ls lo (ltM ls lo hi) (ltA ls lo hi) (ltB ls lo hi) lo.length else 0
theorem lotI_len (ls lo hi : List Int) : (lotI ls lo hi).length ≤ 1000000 := by
  unfold lotI
  split
  · have := blkB_t (canV_t (by assumption)).1
    rw [liV_len]; omega
  · simp
theorem lot_no {ls lo hi : List Int} (h : canV ls lo hi = false) : lotI ls lo hi = [] ∧ lotD ls lo hi = 0 := by simp [lotI, lotD, h]
theorem lot_yes {ls lo hi : List Int} (h : canV ls lo hi = true) : lotI ls lo hi = liV ls lo (ltM ls lo hi) (ltA ls lo hi) (ltB ls lo hi) lo.length ∧ lotD ls lo hi = ldV ls lo (ltM ls lo hi) (ltA ls lo hi) (ltB ls lo hi) lo.length := by simp [lotI, lotD, h]
/-- The numbers of the slope and of the denominator. -/
theorem lt_bd {ls lo hi : List Int} (hv : blkB ls lo hi = true) (hs : standB (bfind ls lo hi) = true) :
    1 ≤ (ltS ls lo hi).2 ∧ (ltS ls lo hi).2 ≤ 38000000 ∧ -20000000000 ≤ (ltS ls lo hi).1 ∧ (ltS ls lo hi).1 ≤ 20000000000 ∧ 1 ≤ ltM ls lo hi ∧ ltM ls lo hi ≤ 38000000 := by
  obtain ⟨v1, v2, v3, v4, v5, v6, v7, v8⟩ := blkB_t hv
  obtain ⟨n1, n2, d1, d2⟩ := s_sharp hv hs
  obtain ⟨h1, ⟨j, k, hkj, hj, he, hle, hf⟩, _⟩ := slope_le (ls := ls) (lo := lo) (hi := hi) (sn := sN (bfind ls lo hi)) d1 (n := lo.length) (by omega)
  have hM : 0 < slD (sD (bfind ls lo hi)) j k := Int.mul_pos (by omega) (by omega)
  have hM2 : slD (sD (bfind ls lo hi)) j k ≤ 38000000 := by
    have := (prod_bd (x := sD (bfind ls lo hi)) (y := (j : Int) - k) (A := 3800000) (B := 10) (by omega) (by omega) (by omega) (by omega) (by omega)).2
    unfold slD; omega
  have hcd : (ltS ls lo hi).2 ∣ slD (sD (bfind ls lo hi)) j k := by
    unfold ltS; rw [hf]
    exact ⟨_, (lwD_mul _ _).symm⟩
  have hsd : sD (bfind ls lo hi) ∣ slD (sD (bfind ls lo hi)) j k := ⟨_, rfl⟩
  have hN : -20000000000 ≤ (ltS ls lo hi).1 ∧ (ltS ls lo hi).1 ≤ 20000000000 := by
    unfold ltS; rw [hf]
    refine lwN_bd _ _ _ ?_ ?_
    all_goals
      obtain ⟨x1, x2⟩ := v6 j (by omega)
      obtain ⟨x5, x6⟩ := v7 k (by omega)
      obtain ⟨y5, y6⟩ := momAt_bd (ls := ls) (k := j) (by omega) v3 (by omega)
      obtain ⟨y7, y8⟩ := momAt_bd (ls := ls) (k := k) (by omega) v3 (by omega)
      have p1 := prod_bd (x := lo.getD j 0 - hi.getD k 0) (y := sD (bfind ls lo hi)) (A := 2000) (B := 3800000) (by omega) (by omega) (by omega) (by omega) (by omega)
      have p2 := prod_bd (x := momAt ls j - momAt ls k) (y := sN (bfind ls lo hi)) (A := 190000) (B := 40000) (by omega) (by omega) (by omega) (by omega) (by omega)
      rw [Int.mul_comm (momAt ls j - momAt ls k)] at p2
      unfold slN
      omega
  have e : slD (sD (bfind ls lo hi)) j k = ((slD (sD (bfind ls lo hi)) j k).toNat : Int) := by omega
  rw [e] at hcd hsd
  have hD := deI_le d1 (show 1 ≤ (ltS ls lo hi).2 from h1) (M := (slD (sD (bfind ls lo hi)) j k).toNat) (by omega) hsd hcd
  have h1' : 1 ≤ (ltS ls lo hi).2 := h1
  have hle' : (ltS ls lo hi).2 ≤ slD (sD (bfind ls lo hi)) j k := hle
  refine ⟨h1', by omega, hN.1, hN.2, hD.1, ?_⟩
  have : ltM ls lo hi = deI (sD (bfind ls lo hi)) (ltS ls lo hi).2 := rfl
  omega
/-- The reference's denominator and factors are t times the program's. -/
theorem lt_scale {ls lo hi : List Int} (hv : blkB ls lo hi = true) (hs : standB (bfind ls lo hi) = true) :
    ∃ t : Int, 0 < t ∧ sD (bfind ls lo hi) * (ltS ls lo hi).2 = t * ltM ls lo hi ∧ (ltS ls lo hi).1 * sD (bfind ls lo hi) = t * ltA ls lo hi ∧ sN (bfind ls lo hi) * (ltS ls lo hi).2 = t * ltB ls lo hi := by
  obtain ⟨n1, n2, d1, d2⟩ := s_sharp hv hs
  obtain ⟨h1, _⟩ := lt_bd hv hs
  obtain ⟨a, b, c, d⟩ := de_scale (sn := sN (bfind ls lo hi)) (cN := (ltS ls lo hi).1) d1 h1
  exact ⟨_, a, b, c, d⟩
/-- The line over the reference's denominator is the same. -/
theorem lot_spec {ls lo hi : List Int} (hv : blkB ls lo hi = true) (hs : standB (bfind ls lo hi) = true) :
    liV ls lo (sD (bfind ls lo hi) * (ltS ls lo hi).2) ((ltS ls lo hi).1 * sD (bfind ls lo hi)) (sN (bfind ls lo hi) * (ltS ls lo hi).2) lo.length = liV ls lo (ltM ls lo hi) (ltA ls lo hi) (ltB ls lo hi) lo.length ∧
    ldV ls lo (sD (bfind ls lo hi) * (ltS ls lo hi).2) ((ltS ls lo hi).1 * sD (bfind ls lo hi)) (sN (bfind ls lo hi) * (ltS ls lo hi).2) lo.length = ldV ls lo (ltM ls lo hi) (ltA ls lo hi) (ltB ls lo hi) lo.length := by
  obtain ⟨t, h0, e1, e2, e3⟩ := lt_scale hv hs
  rw [e1, e2, e3]
  exact line_scale ls lo h0 _ _ _ _
/-- The line is a line of thrust. -/
theorem lot_isLine {ls lo hi : List Int} (h : canV ls lo hi = true) : lineC ls lo hi (lotI ls lo hi) (lotD ls lo hi) = 0 ∧ lineV ls lo hi (lotI ls lo hi) (lotD ls lo hi) = true := by
  obtain ⟨hv, hs⟩ := canV_t h
  obtain ⟨v1, v2, v3, v4, v5, v6, v7, v8⟩ := blkB_t hv
  obtain ⟨n1, n2, d1, d2⟩ := s_sharp hv hs
  obtain ⟨b1, b2, b3, b4, b5, b6⟩ := lt_bd hv hs
  obtain ⟨e1, e2⟩ := lot_yes h
  have hM := ldV_mul ls lo (ltM ls lo hi) (ltA ls lo hi) (ltB ls lo hi) lo.length
  have hCp := coV_pos ls lo (show 0 < ltM ls lo hi by omega) (ltA ls lo hi) (ltB ls lo hi) lo.length lo.length
  obtain ⟨f1, f2⟩ := lot_spec hv hs
  rw [← f1] at e1
  have hfit := fun k hk => ouV_fit hv hs (sn := sN (bfind ls lo hi)) (sd := sD (bfind ls lo hi)) (cN := (ltS ls lo hi).1) (cD := (ltS ls lo hi).2) rfl rfl rfl (k := k) hk
  have hd : 0 < sD (bfind ls lo hi) * (ltS ls lo hi).2 := Int.mul_pos (by omega) (by omega)
  have hC := coV_pos ls lo hd ((ltS ls lo hi).1 * sD (bfind ls lo hi)) (sN (bfind ls lo hi) * (ltS ls lo hi).2) lo.length lo.length
  have hD := ldV_mul ls lo (sD (bfind ls lo hi) * (ltS ls lo hi).2) ((ltS ls lo hi).1 * sD (bfind ls lo hi)) (sN (bfind ls lo hi) * (ltS ls lo hi).2) lo.length
  have hZ := fun k hk => liV_mul ls lo (sD (bfind ls lo hi) * (ltS ls lo hi).2) ((ltS ls lo hi).1 * sD (bfind ls lo hi)) (sN (bfind ls lo hi) * (ltS ls lo hi).2) lo.length k hk
  have hbend := fun k => ouV_bend ls lo (sD (bfind ls lo hi) * (ltS ls lo hi).2) ((ltS ls lo hi).1 * sD (bfind ls lo hi)) (sN (bfind ls lo hi) * (ltS ls lo hi).2) lo.length k
  have hB : 0 < sN (bfind ls lo hi) * (ltS ls lo hi).2 := Int.mul_pos (by omega) (by omega)
  have hlen := liV_len ls lo (sD (bfind ls lo hi) * (ltS ls lo hi).2) ((ltS ls lo hi).1 * sD (bfind ls lo hi)) (sN (bfind ls lo hi) * (ltS ls lo hi).2) lo.length
  rw [← e1] at hlen hZ
  rw [f2, ← e2] at hD
  rw [← e2] at hM
  generalize lotI ls lo hi = Z at *
  generalize lotD ls lo hi = D at *
  generalize coV ls lo (ltM ls lo hi) (ltA ls lo hi) (ltB ls lo hi) lo.length lo.length = C' at *
  generalize coV ls lo (sD (bfind ls lo hi) * (ltS ls lo hi).2) ((ltS ls lo hi).1 * sD (bfind ls lo hi)) (sN (bfind ls lo hi) * (ltS ls lo hi).2) lo.length lo.length = C at *
  generalize sN (bfind ls lo hi) * (ltS ls lo hi).2 = B at *
  have hD1 : 1 ≤ D := by
    rcases Int.lt_or_le 0 D with q | q
    · omega
    · have := Int.mul_nonpos_of_nonpos_of_nonneg q (show 0 ≤ C' by omega); omega
  have hD2 : D ≤ 38000000 := by
    have : D * 1 ≤ D * C' := Int.mul_le_mul_of_nonneg_left (by omega) (by omega)
    omega
  have hF : ∀ k, k < lo.length → lo.getD k 0 * D ≤ Z.getD k 0 ∧ Z.getD k 0 ≤ hi.getD k 0 * D := fun k hk => by
    have h1 := hfit k hk
    rw [← hZ k hk, ← hD, ← Int.mul_assoc, ← Int.mul_assoc] at h1
    exact ⟨Int.le_of_mul_le_mul_right h1.1 hC, Int.le_of_mul_le_mul_right h1.2 hC⟩
  have hR : ∀ k, k < Z.length → -100000000000 ≤ Z.getD k 0 ∧ Z.getD k 0 ≤ 100000000000 := fun k hk => by
    rw [hlen] at hk
    obtain ⟨g1, g2⟩ := hF k hk
    obtain ⟨x1, x2⟩ := v6 k (by omega)
    obtain ⟨x5, x6⟩ := v7 k (by omega)
    have p1 := prod_bd (x := lo.getD k 0) (y := D) (A := 1000) (B := 38000000) (by omega) (by omega) (by omega) (by omega) (by omega)
    have p2 := prod_bd (x := hi.getD k 0) (y := D) (A := 1000) (B := 38000000) (by omega) (by omega) (by omega) (by omega) (by omega)
    omega
  have hbe : ∀ i, i < ls.length - 1 → bendAt Z (i + 1) * C = -(B * (ls.getD i 0 + ls.getD (i + 1) 0)) := fun i hi => by
    have h1 := hbend i
    rw [← hZ (i + 2) (by omega), ← hZ (i + 1) (by omega), ← hZ i (by omega)] at h1
    rw [← h1]
    unfold bendAt
    rw [show i + 1 - 1 = i by omega, show i + 1 + 1 = i + 2 by omega]
    generalize Z.getD (i + 2) 0 = a
    generalize Z.getD (i + 1) 0 = b
    generalize Z.getD i 0 = c
    grind
  have h0 := hbe 0 (by omega)
  have p0 := v3 0 (by omega)
  have p1 := v3 1 (by omega)
  have hneg : bendAt Z 1 < 0 := by
    have h2 : 0 < B * (ls.getD 0 0 + ls.getD 1 0) := Int.mul_pos hB (by omega)
    rcases Int.lt_or_le (bendAt Z 1) 0 with q | q
    · exact q
    · have := Int.mul_nonneg q (show 0 ≤ C by omega)
      rw [show 0 + 1 = 1 by omega] at h0
      omega
  obtain ⟨r1, r2⟩ := line_ok (ls := ls) (lo := lo) (hi := hi) (z := Z) (d := D) hv (by
    rw [decide_eq_true hlen, insB_mk hR, inB_mk ⟨hD1, by omega⟩]; rfl)
  refine ⟨r1, ?_⟩
  rw [r2, fitB_mk (fun k hk => hF k (by omega)), bendB_mk hneg fun i hi => ?_]
  · rfl
  · refine Int.eq_of_mul_eq_mul_right (show C ≠ 0 by omega) ?_
    have h3 := hbe i hi
    rw [show 0 + 1 = 1 by omega] at h0
    have g1 : bendAt Z (i + 1) * (ls.getD 0 0 + ls.getD 1 0) * C = bendAt Z (i + 1) * C * (ls.getD 0 0 + ls.getD 1 0) := Int.mul_right_comm _ _ _
    have g2 : bendAt Z 1 * (ls.getD i 0 + ls.getD (i + 1) 0) * C = bendAt Z 1 * C * (ls.getD i 0 + ls.getD (i + 1) 0) := Int.mul_right_comm _ _ _
    rw [g1, g2, h3, h0]
    grind
end Go.Proofs.Ytklhaanapembdaa
