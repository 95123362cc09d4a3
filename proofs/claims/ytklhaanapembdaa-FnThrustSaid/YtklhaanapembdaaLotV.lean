/- The scale of the program's LineOfThrust, and lists of which the first numbers are turned; no function of the program is named. -/
import Derived.Test.YtklhaanapembdaaLotU
namespace Go.Proofs.Ytklhaanapembdaa

theorem tdiv_fac {sd cD : Int} (h1 : 1 ≤ sd) (h2 : 1 ≤ cD) : 1 ≤ (deI sd cD).tdiv cD ∧ (deI sd cD).tdiv cD ≤ sd ∧ 1 ≤ (deI sd cD).tdiv sd ∧ (deI sd cD).tdiv sd ≤ cD := by
  obtain ⟨g0, e0, e1, e2⟩ := de_scale (sn := 1) (cN := 1) h1 h2
  rw [Int.one_mul, Int.one_mul] at e1 e2
  generalize (deI sd cD).tdiv cD = p at *
  generalize (deI sd cD).tdiv sd = q at *
  generalize (Int.gcd sd cD : Int) = t at *
  have hp : 1 ≤ p := by
    rcases Int.lt_or_le 0 p with h | h
    · omega
    · have := Int.mul_nonpos_of_nonneg_of_nonpos (show 0 ≤ t by omega) h; omega
  have hq : 1 ≤ q := by
    rcases Int.lt_or_le 0 q with h | h
    · omega
    · have := Int.mul_nonpos_of_nonneg_of_nonpos (show 0 ≤ t by omega) h; omega
  have a : 1 * p ≤ t * p := Int.mul_le_mul_of_nonneg_right (by omega) (by omega)
  have b : 1 * q ≤ t * q := Int.mul_le_mul_of_nonneg_right (by omega) (by omega)
  exact ⟨hp, by omega, hq, by omega⟩
theorem scB_impl {ls lo hi : List Int} (hv : blkB ls lo hi = true) (hs : standB (bfind ls lo hi) = true) : ScB (ltM ls lo hi) (ltA ls lo hi) (ltB ls lo hi) := by
  obtain ⟨n1, n2, d1, d2⟩ := s_sharp hv hs
  obtain ⟨b1, b2, b3, b4, b5, b6⟩ := lt_bd hv hs
  obtain ⟨f1, f2, f3, f4⟩ := tdiv_fac d1 b1
  rw [← show ltM ls lo hi = deI (sD (bfind ls lo hi)) (ltS ls lo hi).2 from rfl] at f1 f2 f3 f4
  have p2 := prod_bd (x := (ltS ls lo hi).1) (y := (ltM ls lo hi).tdiv (ltS ls lo hi).2) (A := 20000000000) (B := 3800000) (by omega) (by omega) (by omega) (by omega) (by omega)
  have p3 := mul_bd (a := sN (bfind ls lo hi)) (b := (ltM ls lo hi).tdiv (sD (bfind ls lo hi))) (A := 40000) (B := 38000000) (by omega) (by omega) (by omega) (by omega)
  refine ⟨b5, by omega, ?_, ?_, ?_, ?_⟩
  · unfold ltA; omega
  · unfold ltA; omega
  · unfold ltB; omega
  · unfold ltB; omega
/-- The first k numbers turned by f. -/
def mpL (f : Int → Int) (zs : List Int) (k : Nat) : List Int := (zs.take k).map f ++ zs.drop k
theorem mpL_len (f : Int → Int) (zs : List Int) (k : Nat) (hk : k ≤ zs.length) : (mpL f zs k).length = zs.length := by simp [mpL]; omega
theorem mpL_zero (f : Int → Int) (zs : List Int) : mpL f zs 0 = zs := by simp [mpL]
theorem mpL_all (f : Int → Int) (zs : List Int) : mpL f zs zs.length = zs.map f := by simp [mpL]
theorem mpL_get (f : Int → Int) (zs : List Int) (k : Nat) (hk : k < zs.length) : (mpL f zs k)[k]? = some (zs.getD k 0) := by
  unfold mpL
  rw [List.getElem?_append_right (by simp; omega)]
  simp [List.getD_eq_getElem?_getD, hk, Nat.min_eq_left (Nat.le_of_lt hk)]
theorem mpL_set (f : Int → Int) (zs : List Int) (k : Nat) (hk : k < zs.length) : (mpL f zs k).set k (f (zs.getD k 0)) = mpL f zs (k + 1) := by
  unfold mpL
  rw [List.set_append_right _ _ (by simp; omega), List.drop_eq_getElem_cons hk]
  have e : k - ((zs.take k).map f).length = 0 := by simp; omega
  rw [e, List.set_cons_zero, List.take_succ_eq_append_getElem hk, List.map_append, List.append_assoc]
  simp [List.getD_eq_getElem?_getD, hk]
/-- The heights but for the least one, so far. -/
def owL (ls : List Int) (A B : Int) (k : Nat) : List Int := (List.range k).map (owV ls A B)
theorem owL_len (ls : List Int) (A B : Int) (k : Nat) : (owL ls A B k).length = k := by simp [owL]
theorem owL_get (ls : List Int) (A B : Int) (m k : Nat) (hk : k < m) : (owL ls A B m).getD k 0 = owV ls A B k := by
  simp [owL, List.getD_eq_getElem?_getD, hk]
theorem owL_next (ls : List Int) (A B : Int) (k : Nat) : owL ls A B (k + 1) = owL ls A B k ++ [owV ls A B k] := by simp [owL, List.range_succ]
theorem owL_up (ls lo : List Int) (d A B : Int) (n : Nat) : mpL (fun z => z + leV ls lo d A B n) (owL ls A B n) n = ouL ls lo d A B n n := by
  have h := mpL_all (fun z => z + leV ls lo d A B n) (owL ls A B n)
  rw [owL_len] at h
  rw [h]
  unfold owL ouL ouV
  rw [List.map_map]; rfl
end Go.Proofs.Ytklhaanapembdaa
