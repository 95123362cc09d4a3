/- The plain law of the cheapest packs: the least prices, the last size with which each is had, and the packs; no program in sight. -/
import Derived.Test.YtgnalhnbdpigdaaBase
namespace Go.Proofs.Ytgnalhnbdpigdaa

/-- What size i makes of k bricks, over the least prices of fewer. -/
def pkO (S P t : List Int) (k i : Nat) : Int := P.getD i 0 + t.getD ((k : Int) - S.getD i 0).toNat 0
/-- The least price and its last size, of the first i sizes (program); the least price (reference). -/
def pkM (o : Nat → Int) : Nat → Int × Nat
  | 0 => (0, 0)
  | i + 1 => if i = 0 ∨ o i ≤ (pkM o i).1 then (o i, i) else pkM o i
def pkR (o : Nat → Int) : Nat → Int
  | 0 => 0
  | i + 1 => if i = 0 ∨ o i < pkR o i then o i else pkR o i
theorem pkR_is (o : Nat → Int) (i : Nat) : pkR o i = (pkM o i).1 := by
  induction i with
  | zero => rfl
  | succ i ih =>
    simp only [pkR, pkM]
    rw [ih]
    by_cases h : i = 0
    · rw [if_pos (.inl h), if_pos (.inl h)]
    · by_cases h2 : o i < (pkM o i).1
      · rw [if_pos (.inr h2), if_pos (.inr (by omega))]
      · rw [if_neg (by omega)]
        split
        · show (pkM o i).1 = o i
          omega
        · rfl
/-- The last size is the highest one that gives the least price. -/
theorem pkM_last (o : Nat → Int) (n : Nat) (hn : 0 < n) : (pkM o n).2 < n ∧ o (pkM o n).2 = (pkM o n).1 ∧ ∀ j, (pkM o n).2 < j → j < n → (pkM o n).1 < o j := by
  induction n with
  | zero => omega
  | succ n ih =>
    simp only [pkM]
    by_cases h : n = 0 ∨ o n ≤ (pkM o n).1
    · rw [if_pos h]
      exact ⟨by omega, rfl, fun j h1 h2 => by simp only at h1; omega⟩
    · rw [if_neg h]
      obtain ⟨a, b, c⟩ := ih (by omega)
      refine ⟨by omega, b, fun j h1 h2 => ?_⟩
      by_cases e : j = n
      · subst e; omega
      · exact c j h1 (by omega)
/-- The least prices of at most k bricks. -/
def pkT (S P : List Int) (n : Nat) : Nat → List Int
  | 0 => [0]
  | k + 1 => pkT S P n k ++ [(pkM (pkO S P (pkT S P n k) (k + 1)) n).1]
theorem pkT_len (S P : List Int) (n k : Nat) : (pkT S P n k).length = k + 1 := by
  induction k with
  | zero => rfl
  | succ k ih => simp [pkT, ih]
/-- A longer table begins as the shorter one. -/
theorem pkT_get (S P : List Int) (n : Nat) {j k m : Nat} (hj : j ≤ k) (hk : k ≤ m) : (pkT S P n m).getD j 0 = (pkT S P n k).getD j 0 := by
  induction m with
  | zero => obtain rfl : k = 0 := by omega
            rfl
  | succ m ih =>
    by_cases e : k = m + 1
    · subst e; rfl
    · rw [← ih (by omega)]
      simp only [pkT, List.getD_eq_getElem?_getD]
      rw [List.getElem?_append_left (by rw [pkT_len]; omega)]
def pkV (S P : List Int) (n k : Nat) : Int := (pkT S P n k).getD k 0
theorem pkV_zero (S P : List Int) (n : Nat) : pkV S P n 0 = 0 := rfl
theorem pkT_top (S P : List Int) (n k : Nat) : (pkT S P n (k + 1)).getD (k + 1) 0 = (pkM (pkO S P (pkT S P n k) (k + 1)) n).1 := by
  simp only [pkT, List.getD_eq_getElem?_getD]
  rw [List.getElem?_append_right (by rw [pkT_len]; omega), pkT_len]
  simp
theorem pkT_val (S P : List Int) (n : Nat) {j m : Nat} (h : j ≤ m) : (pkT S P n m).getD j 0 = pkV S P n j := pkT_get S P n (Nat.le_refl _) h
/-- What a size makes, by the least prices. -/
def pkW (S P : List Int) (n k i : Nat) : Int := P.getD i 0 + pkV S P n ((k : Int) - S.getD i 0).toNat
theorem pkO_is {S P : List Int} {n k i : Nat} (hS : 1 ≤ S.getD i 0) {m : Nat} (hm : k ≤ m) : pkO S P (pkT S P n m) (k + 1) i = pkW S P n (k + 1) i := by
  unfold pkO pkW
  rw [pkT_val S P n (by omega)]
/-- The last size of k bricks. -/
def pkL (S P : List Int) (n k : Nat) : Nat := (pkM (pkW S P n k) n).2
theorem pkM_ext {o o' : Nat → Int} (n : Nat) (h : ∀ i, i < n → o i = o' i) : pkM o n = pkM o' n := by
  induction n with
  | zero => rfl
  | succ n ih => simp only [pkM]; rw [ih fun i hi => h i (by omega), h n (by omega)]
theorem pkV_next {S P : List Int} {n k : Nat} (hS : ∀ i, i < n → 1 ≤ S.getD i 0) : pkV S P n (k + 1) = (pkM (pkW S P n (k + 1)) n).1 := by
  show (pkT S P n (k + 1)).getD (k + 1) 0 = _
  rw [pkT_top, pkM_ext n fun i hi => pkO_is (hS i hi) (Nat.le_refl _)]
/-- Bounds of the least prices. -/
theorem pkM_bd {o : Nat → Int} {B : Int} (n : Nat) (hB : 0 ≤ B) (h : ∀ i, i < n → 0 ≤ o i ∧ o i ≤ B) : 0 ≤ (pkM o n).1 ∧ (pkM o n).1 ≤ B := by
  induction n with
  | zero => exact ⟨Int.le_refl _, hB⟩
  | succ n ih =>
    simp only [pkM]
    split
    · exact h n (by omega)
    · exact ih fun i hi => h i (by omega)
theorem pkV_bd {S P : List Int} {n : Nat} (hS : ∀ i, i < n → 1 ≤ S.getD i 0) (hP : ∀ i, i < n → 1 ≤ P.getD i 0 ∧ P.getD i 0 ≤ 100000) (k : Nat) : 0 ≤ pkV S P n k ∧ pkV S P n k ≤ 100000 * (k : Int) := by
  induction k using Nat.strongRecOn with
  | ind k ih =>
    cases k with
    | zero => rw [pkV_zero]; omega
    | succ k =>
      rw [pkV_next hS]
      refine pkM_bd n (by omega) fun i hi => ?_
      have h1 := hS i hi
      have h2 := hP i hi
      have h3 := ih ((((k + 1 : Nat) : Int)) - S.getD i 0).toNat (by omega)
      unfold pkW
      omega
/-- The packs: so many are still to be had, and those so far. -/
def pkN (S P : List Int) (n : Nat) : Nat → Nat → List Int → List Int
  | 0, _, out => out
  | f + 1, k, out => if k = 0 then out else pkN S P n f ((k : Int) - S.getD (pkL S P n k) 0).toNat (out.set (pkL S P n k) (out.getD (pkL S P n k) 0 + 1))
theorem pkN_zero (S P : List Int) (n f : Nat) (out : List Int) : pkN S P n f 0 out = out := by cases f <;> simp [pkN]
theorem pkN_next (S P : List Int) (n f k : Nat) (out : List Int) (hk : k ≠ 0) : pkN S P n (f + 1) k out = pkN S P n f ((k : Int) - S.getD (pkL S P n k) 0).toNat (out.set (pkL S P n k) (out.getD (pkL S P n k) 0 + 1)) := by
  simp [pkN, hk]
end Go.Proofs.Ytgnalhnbdpigdaa
