/- The plain law of LineOfThrust: the least slope, the line's heights over one denominator, and that a denominator t times as great gives the same line in lowest terms; no program in sight. -/
import Derived.Test.YtklhaanapembdaaHelly
namespace Go.Proofs.Ytklhaanapembdaa
set_option linter.unusedVariables false
set_option linter.unusedSimpArgs false

/-- The slope that two joints want, in lowest terms. -/
def slN (ls lo hi : List Int) (sn sd : Int) (j k : Nat) : Int := (lo.getD j 0 - hi.getD k 0) * sd + sn * (momAt ls j - momAt ls k)
def slD (sd : Int) (j k : Nat) : Int := sd * ((j : Int) - k)
def slO (ls lo hi : List Int) (sn sd : Int) (j k : Nat) : Int × Int := (lwN (slN ls lo hi sn sd j k) (slD sd j k), lwD (slN ls lo hi sn sd j k) (slD sd j k))
/-- The greater of two slopes; a denominator of 0 is no slope. -/
def slS (s o : Int × Int) : Int × Int := if s.2 = 0 ∨ s.1 * o.2 < o.1 * s.2 then o else s
def slR (f : Nat → Nat → Int × Int) (j : Nat) (s : Int × Int) : Nat → Int × Int
  | 0 => s
  | k + 1 => slS (slR f j s k) (f j k)
def slA (f : Nat → Nat → Int × Int) : Nat → Int × Int
  | 0 => (0, 0)
  | j + 1 => slR f j (slA f j) j
/-- s is the greatest of those seen, or there was none. -/
def SlMax (f : Nat → Nat → Int × Int) (P : Nat → Nat → Prop) (s : Int × Int) : Prop :=
  (s.2 = 0 ∧ ∀ j k, ¬ P j k) ∨ (1 ≤ s.2 ∧ (∃ j k, P j k ∧ s = f j k) ∧ ∀ j k, P j k → (f j k).1 * s.2 ≤ s.1 * (f j k).2)
theorem slMax_step {f : Nat → Nat → Int × Int} {P P' : Nat → Nat → Prop} {s : Int × Int} {a b : Nat} (h : SlMax f P s) (hf : ∀ j k, P' j k → 1 ≤ (f j k).2) (hP : ∀ j k, P' j k ↔ P j k ∨ (j = a ∧ k = b)) : SlMax f P' (slS s (f a b)) := by
  have hab : P' a b := (hP a b).2 (.inr ⟨rfl, rfl⟩)
  have h1 := hf a b hab
  unfold slS
  rcases h with ⟨h0, hn⟩ | ⟨h0, ⟨j0, k0, hp0, he0⟩, hm⟩
  · rw [if_pos (.inl h0)]
    refine .inr ⟨h1, ⟨a, b, hab, rfl⟩, fun j k hp => ?_⟩
    rcases (hP j k).1 hp with hp | ⟨rfl, rfl⟩
    · exact absurd hp (hn j k)
    · exact Int.le_refl _
  · by_cases hlt : s.1 * (f a b).2 < (f a b).1 * s.2
    · rw [if_pos (.inr hlt)]
      refine .inr ⟨h1, ⟨a, b, hab, rfl⟩, fun j k hp => ?_⟩
      rcases (hP j k).1 hp with hp' | ⟨rfl, rfl⟩
      · have h2 := hm j k hp'
        have h3 := hf j k hp
        refine Int.le_of_mul_le_mul_right ?_ (show 0 < s.2 by omega)
        have a1 : (f j k).1 * s.2 * (f a b).2 ≤ s.1 * (f j k).2 * (f a b).2 := Int.mul_le_mul_of_nonneg_right h2 (by omega)
        have a2 : s.1 * (f a b).2 * (f j k).2 ≤ (f a b).1 * s.2 * (f j k).2 := Int.mul_le_mul_of_nonneg_right (by omega) (by omega)
        have e1 : (f j k).1 * (f a b).2 * s.2 = (f j k).1 * s.2 * (f a b).2 := by simp only [Int.mul_assoc, Int.mul_comm, Int.mul_left_comm]
        have e2 : s.1 * (f j k).2 * (f a b).2 = s.1 * (f a b).2 * (f j k).2 := by simp only [Int.mul_assoc, Int.mul_comm, Int.mul_left_comm]
        have e3 : (f a b).1 * s.2 * (f j k).2 = (f a b).1 * (f j k).2 * s.2 := by simp only [Int.mul_assoc, Int.mul_comm, Int.mul_left_comm]
        omega
      · exact Int.le_refl _
    · rw [if_neg (by omega)]
      refine .inr ⟨h0, ⟨j0, k0, (hP _ _).2 (.inl hp0), he0⟩, fun j k hp => ?_⟩
      rcases (hP j k).1 hp with hp' | ⟨rfl, rfl⟩
      · exact hm j k hp'
      · omega
theorem slR_max {f : Nat → Nat → Int × Int} {j n : Nat} (hj : j < n) {s : Int × Int} (hf : ∀ j k, k < j → j < n → 1 ≤ (f j k).2) (h : SlMax f (fun a b => b < a ∧ a < j) s) (k : Nat) (hk : k ≤ j) : SlMax f (fun a b => b < a ∧ a < j ∨ a = j ∧ b < k) (slR f j s k) := by
  induction k with
  | zero =>
    have : (fun a b : Nat => b < a ∧ a < j ∨ a = j ∧ b < 0) = (fun a b => b < a ∧ a < j) := by
      funext a b; simp
    rw [this]; exact h
  | succ k ih =>
    refine slMax_step (ih (by omega)) (fun a b hp => hf a b (by omega) (by omega)) (fun a b => ?_)
    constructor
    · intro hp; omega
    · intro hp; omega
theorem slA_max {f : Nat → Nat → Int × Int} {n : Nat} (hf : ∀ j k, k < j → j < n → 1 ≤ (f j k).2) (m : Nat) (hm : m ≤ n) : SlMax f (fun a b => b < a ∧ a < m) (slA f m) := by
  induction m with
  | zero => exact .inl ⟨rfl, fun a b h => by omega⟩
  | succ j ih =>
    have := slR_max (show j < n by omega) hf (ih (by omega)) j (Nat.le_refl _)
    have e : (fun a b : Nat => b < a ∧ a < j ∨ a = j ∧ b < j) = (fun a b => b < a ∧ a < j + 1) := by
      funext a b
      apply propext
      constructor
      · intro hp; omega
      · intro hp; omega
    rw [e] at this
    exact this
/-- Heights but for the least one, over a denominator. -/
def owV (ls : List Int) (A B : Int) (k : Nat) : Int := A * (k : Int) - B * momAt ls k
def neV (ls lo : List Int) (d A B : Int) (k : Nat) : Int := lo.getD k 0 * d - owV ls A B k
def leV (ls lo : List Int) (d A B : Int) : Nat → Int
  | 0 => 0
  | k + 1 => if k = 0 ∨ leV ls lo d A B k < neV ls lo d A B k then neV ls lo d A B k else leV ls lo d A B k
def ouV (ls lo : List Int) (d A B : Int) (n k : Nat) : Int := owV ls A B k + leV ls lo d A B n
def coV (ls lo : List Int) (d A B : Int) (n : Nat) : Nat → Int
  | 0 => d
  | k + 1 => (Int.gcd (coV ls lo d A B n k) (ouV ls lo d A B n k) : Int)
/-- The line, and its denominator. -/
def liV (ls lo : List Int) (d A B : Int) (n : Nat) : List Int := (List.range n).map fun k => (ouV ls lo d A B n k).tdiv (coV ls lo d A B n n)
def ldV (ls lo : List Int) (d A B : Int) (n : Nat) : Int := d.tdiv (coV ls lo d A B n n)
theorem owV_mul (ls : List Int) (t A B : Int) (k : Nat) : owV ls (t * A) (t * B) k = t * owV ls A B k := by
  unfold owV; rw [Int.mul_sub, Int.mul_assoc, Int.mul_assoc]
theorem neV_mul (ls lo : List Int) (t d A B : Int) (k : Nat) : neV ls lo (t * d) (t * A) (t * B) k = t * neV ls lo d A B k := by
  unfold neV; rw [owV_mul, Int.mul_sub, Int.mul_left_comm]
theorem leV_mul (ls lo : List Int) {t : Int} (ht : 0 < t) (d A B : Int) (n : Nat) : leV ls lo (t * d) (t * A) (t * B) n = t * leV ls lo d A B n := by
  induction n with
  | zero => simp [leV]
  | succ n ih =>
    simp only [leV]
    rw [ih, neV_mul]
    by_cases h : n = 0 ∨ leV ls lo d A B n < neV ls lo d A B n
    · rw [if_pos h, if_pos]
      rcases h with h | h
      · exact .inl h
      · exact .inr (Int.mul_lt_mul_of_pos_left h ht)
    · rw [if_neg h, if_neg]
      intro h'
      apply h
      rcases h' with h' | h'
      · exact .inl h'
      · exact .inr (Int.lt_of_mul_lt_mul_left h' (by omega))
theorem ouV_mul (ls lo : List Int) {t : Int} (ht : 0 < t) (d A B : Int) (n k : Nat) : ouV ls lo (t * d) (t * A) (t * B) n k = t * ouV ls lo d A B n k := by
  unfold ouV; rw [owV_mul, leV_mul ls lo ht, Int.mul_add]
theorem gcd_scale {t : Int} (ht : 0 < t) (a b : Int) : (Int.gcd (t * a) (t * b) : Int) = t * (Int.gcd a b : Int) := by
  rw [Int.gcd_mul_left]
  rw [Int.natCast_mul]
  congr 1
  omega
theorem coV_mul (ls lo : List Int) {t : Int} (ht : 0 < t) (d A B : Int) (n k : Nat) : coV ls lo (t * d) (t * A) (t * B) n k = t * coV ls lo d A B n k := by
  induction k with
  | zero => rfl
  | succ k ih => simp only [coV]; rw [ih, ouV_mul ls lo ht, gcd_scale ht]
theorem line_scale (ls lo : List Int) {t : Int} (ht : 0 < t) (d A B : Int) (n : Nat) : liV ls lo (t * d) (t * A) (t * B) n = liV ls lo d A B n ∧ ldV ls lo (t * d) (t * A) (t * B) n = ldV ls lo d A B n := by
  constructor
  · unfold liV
    rw [coV_mul ls lo ht]
    apply List.map_congr_left
    intro k _
    rw [ouV_mul ls lo ht]
    exact Int.mul_tdiv_mul_of_pos _ _ ht
  · unfold ldV
    rw [coV_mul ls lo ht]
    exact Int.mul_tdiv_mul_of_pos _ _ ht
/-- The program's denominator and factors, and the reference's. -/
def deI (sd cD : Int) : Int := sd.tdiv (Int.gcd sd cD) * cD
theorem de_scale {sn sd cN cD : Int} (h1 : 1 ≤ sd) (h2 : 1 ≤ cD) :
    0 < (Int.gcd sd cD : Int) ∧ sd * cD = (Int.gcd sd cD : Int) * deI sd cD ∧ cN * sd = (Int.gcd sd cD : Int) * (cN * (deI sd cD).tdiv cD) ∧ sn * cD = (Int.gcd sd cD : Int) * (sn * (deI sd cD).tdiv sd) := by
  have hg := gcd_ge sd cD (by omega)
  have e1 := Int.tdiv_mul_cancel (Int.gcd_dvd_left sd cD)
  have e2 := Int.tdiv_mul_cancel (Int.gcd_dvd_right sd cD)
  unfold deI
  generalize (Int.gcd sd cD : Int) = t at *
  generalize sd.tdiv t = p at *
  generalize cD.tdiv t = q at *
  subst e1
  have hp : p ≠ 0 := fun e => by rw [e] at h1; omega
  have hc : (p * cD).tdiv cD = p := Int.mul_tdiv_cancel _ (by omega)
  have hs : (p * cD).tdiv (p * t) = q := by
    rw [← e2, show p * (q * t) = q * (p * t) by simp only [Int.mul_assoc, Int.mul_comm, Int.mul_left_comm]]
    exact Int.mul_tdiv_cancel _ (by omega)
  refine ⟨by omega, ?_, ?_, ?_⟩
  · simp only [Int.mul_assoc, Int.mul_comm, Int.mul_left_comm]
  · rw [hc]; simp only [Int.mul_assoc, Int.mul_comm, Int.mul_left_comm]
  · rw [hs, ← e2]; simp only [Int.mul_assoc, Int.mul_comm, Int.mul_left_comm]
end Go.Proofs.Ytklhaanapembdaa
