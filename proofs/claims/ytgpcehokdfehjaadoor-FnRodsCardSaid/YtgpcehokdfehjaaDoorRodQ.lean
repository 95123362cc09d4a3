/- The plain law of rods: the last mark is the height, marks follow one another evenly, joints have what the bricks leave; no program in sight. -/
import Derived.Test.YtgpcehokdfehjaaDoorGaugeE
import Derived.Test.YtgpcehokdfehjaaDoorSix
import Derived.Test.YtgpcehokdfehjaaDoorMarkA
namespace Go.Proofs.YtgpcehokdfehjaaDoor
set_option linter.unusedVariables false

/-- The marks from 1 on. -/
def markL (H c : Int) (k : Nat) : List Int := (List.range k).map fun i : Nat => markI H c ((i : Int) + 1)
theorem markL_len (H c : Int) (k : Nat) : (markL H c k).length = k := by simp [markL]
theorem markL_next (H c : Int) (k : Nat) : markL H c (k + 1) = markL H c k ++ [markI H c ((k : Int) + 1)] := by simp [markL, List.range_succ]
theorem markL_get (H c : Int) {k i : Nat} (h : i < k) : (markL H c k).getD i 0 = markI H c ((i : Int) + 1) := by
  simp [markL, List.getD_eq_getElem?_getD, h]
def marC (H c : Int) : Int := storC H c
def marI (H c : Int) : List Int := if storB H c then markL H c c.toNat else []
theorem mark_div {H c k : Int} (hc : 1 ≤ c) : markI H c k * (2 * c) ≤ 2 * (k * H) + c ∧ 2 * (k * H) + c < markI H c k * (2 * c) + 2 * c := by
  unfold markI rndI
  have h1 := Int.ediv_mul_le (2 * (k * H) + c) (show 2 * c ≠ 0 by omega)
  have h2 := Int.lt_ediv_add_one_mul_self (2 * (k * H) + c) (show 0 < 2 * c by omega)
  rw [Int.add_mul, Int.one_mul] at h2
  exact ⟨h1, h2⟩
theorem mark_step {H c k : Int} (hc : 1 ≤ c) : (markI H c (k + 1) - markI H c k) * c ≤ H + c ∧ H - c ≤ (markI H c (k + 1) - markI H c k) * c := by
  obtain ⟨a1, a2⟩ := mark_div (H := H) (c := c) (k := k) hc
  obtain ⟨b1, b2⟩ := mark_div (H := H) (c := c) (k := k + 1) hc
  rw [Int.add_mul, Int.one_mul] at b1 b2
  rw [Int.sub_mul]
  have e1 : markI H c k * (2 * c) = 2 * (markI H c k * c) := by rw [Int.mul_left_comm]
  have e2 : markI H c (k + 1) * (2 * c) = 2 * (markI H c (k + 1) * c) := by rw [Int.mul_left_comm]
  rw [e1] at a1 a2
  rw [e2] at b1 b2
  omega
theorem mark_first {H c : Int} (hc : 1 ≤ c) : markI H c 0 = 0 := by
  unfold markI rndI
  rw [Int.zero_mul]
  exact Int.ediv_eq_zero_of_lt (by omega) (by omega)
theorem mark_last {H c : Int} (hc : 1 ≤ c) : markI H c c = H := by
  obtain ⟨a1, a2⟩ := mark_div (H := H) (c := c) (k := c) hc
  have e1 : markI H c c * (2 * c) = 2 * (markI H c c * c) := by rw [Int.mul_left_comm]
  rw [e1] at a1 a2
  rw [Int.mul_comm c H] at a1 a2
  have h1 : markI H c c * c < (H + 1) * c := by rw [Int.add_mul, Int.one_mul]; omega
  have h2 : (H - 1) * c < markI H c c * c := by rw [Int.sub_mul, Int.one_mul]; omega
  have h3 := Int.lt_of_mul_lt_mul_right h1 (by omega)
  have h4 := Int.lt_of_mul_lt_mul_right h2 (by omega)
  omega
/-- The sum of the first k joints. -/
theorem evens_sum (A c : Int) (hA : 0 ≤ A) (hc : 1 ≤ c) (m k : Nat) (hk : k ≤ m) : preQ (evens A c m) k = (k : Int) * (A / c) + min (k : Int) (A % c) := by
  have hm := Int.emod_nonneg A (show c ≠ 0 by omega)
  induction k with
  | zero => simp only [preQ]; omega
  | succ k ih =>
    have h := ih (by omega)
    have hg : (evens A c m).getD k 0 = jointAt A c k := by
      have : k < m := by omega
      simp [evens, List.getD_eq_getElem?_getD, this]
    simp only [preQ]
    rw [h, hg, Int.natCast_add, Int.add_mul]
    by_cases e : (k : Int) < A % c
    · rw [jointAt_lt e]; omega
    · rw [jointAt_ge e]; omega
theorem evens_all (A c : Int) (hA : 0 ≤ A) (hc : 1 ≤ c) : preQ (evens A c c.toNat) c.toNat = A := by
  have h1 := evens_sum A c hA hc c.toNat c.toNat (Nat.le_refl _)
  have h2 := Int.emod_lt_of_pos A (show 0 < c by omega)
  have h3 := Int.mul_ediv_add_emod A c
  rw [show ((c.toNat : Nat) : Int) = c by omega] at h1
  omega
theorem evens_near (A c : Int) (i : Nat) : jointAt A c i ≤ jointAt A c 0 ∧ jointAt A c 0 - 1 ≤ jointAt A c i := by
  unfold jointAt
  split <;> split <;> omega
theorem evens_get (A c : Int) {k i : Nat} (h : i < k) : (evens A c k).getD i 0 = jointAt A c i := by
  simp [evens, List.getD_eq_getElem?_getD, h]
theorem joint_bd {A c : Int} (hA : 0 ≤ A) (hc : 1 ≤ c) (i : Nat) : 0 ≤ jointAt A c i ∧ jointAt A c i ≤ A + 1 := by
  have h1 := Int.ediv_nonneg hA (show 0 ≤ c by omega)
  have h2 := Int.ediv_le_self c hA
  unfold jointAt
  split <;> omega
end Go.Proofs.YtgpcehokdfehjaaDoor
