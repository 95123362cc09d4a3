/- The plain law of the conditions: the ones that decide are the sharpest, and where an arch stands, its upper bound fulfils all conditions; no program in sight. -/
import Derived.Test.YtklhaanapembdaaM10

namespace Go.Proofs.Ytklhaanapembdaa
set_option linter.unusedVariables false
set_option linter.unusedSimpArgs false

/-- The bound of x is no greater than that of y. -/
def leC (x y : Cnd) : Prop := sgn x.a x.b * (y.b.natAbs : Int) ≤ sgn y.a y.b * (x.b.natAbs : Int)
theorem less_le {x y : Cnd} : lessC x.a x.b y.a y.b = false ↔ leC y x := by
  unfold lessC leC sgn
  rw [decide_eq_false_iff_not]
  exact Int.not_lt
theorem less_le' {x y : Cnd} (h : lessC x.a x.b y.a y.b = true) : leC x y := by
  unfold lessC at h
  unfold leC sgn
  have := of_decide_eq_true h
  omega
theorem leC_refl (x : Cnd) : leC x x := Int.le_refl _
theorem leC_trans {x y z : Cnd} (hx : x.b ≠ 0) (hy : y.b ≠ 0) (hz : z.b ≠ 0) (h1 : leC x y) (h2 : leC y z) : leC x z := by
  unfold leC at *
  generalize sgn x.a x.b = X at *
  generalize sgn y.a y.b = Y at *
  generalize sgn z.a z.b = Z at *
  have px : 0 < (x.b.natAbs : Int) := by omega
  have py : 0 < (y.b.natAbs : Int) := by omega
  have pz : 0 < (z.b.natAbs : Int) := by omega
  generalize (x.b.natAbs : Int) = p at *
  generalize (y.b.natAbs : Int) = q at *
  generalize (z.b.natAbs : Int) = r at *
  refine Int.le_of_mul_le_mul_right ?_ py
  have a1 : X * q * r ≤ Y * p * r := Int.mul_le_mul_of_nonneg_right h1 (by omega)
  have a2 : Y * r * p ≤ Z * q * p := Int.mul_le_mul_of_nonneg_right h2 (by omega)
  have e1 : X * r * q = X * q * r := by simp only [Int.mul_assoc, Int.mul_comm, Int.mul_left_comm]
  have e2 : Y * p * r = Y * r * p := by simp only [Int.mul_assoc, Int.mul_comm, Int.mul_left_comm]
  have e3 : Z * q * p = Z * p * q := by simp only [Int.mul_assoc, Int.mul_comm, Int.mul_left_comm]
  omega
/-- What the fold keeps. -/
structure Best (l : List Cnd) (S : Bnds) : Prop where
  never : S.hn = false → ∀ c ∈ l, c.b = 0 → c.a ≤ 0
  neverT : S.hn = true → S.never ∈ l ∧ S.never.b = 0 ∧ 0 < S.never.a
  high0 : S.hh = false → ∀ c ∈ l, ¬ c.b < 0
  high : S.hh = true → S.high ∈ l ∧ S.high.b < 0 ∧ ∀ c ∈ l, c.b < 0 → leC S.high c
  low0 : S.hl = false → ∀ c ∈ l, ¬ 0 < c.b
  low : S.hl = true → S.low ∈ l ∧ 0 < S.low.b ∧ ∀ c ∈ l, 0 < c.b → leC c S.low
theorem best0 : Best [] bnds0 := ⟨(fun _ _ h => by cases h), (fun h => by cases h), (fun _ _ h => by cases h), (fun h => by cases h), (fun _ _ h => by cases h), (fun h => by cases h)⟩
theorem all_snoc {l : List Cnd} {c : Cnd} {p : Cnd → Prop} (h : ∀ x ∈ l, p x) (hc : p c) : ∀ x ∈ l ++ [c], p x := by
  intro x hx
  rcases List.mem_append.1 hx with hx | hx
  · exact h x hx
  · rw [List.mem_singleton.1 hx]; exact hc
theorem best_step {l : List Cnd} {S : Bnds} (h : Best l S) (c : Cnd) : Best (l ++ [c]) (bstep S c) := by
  have ml : ∀ {x}, x ∈ l → x ∈ l ++ [c] := fun hx => List.mem_append_left _ hx
  have mc : c ∈ l ++ [c] := List.mem_append_right _ (List.mem_singleton.2 rfl)
  rcases Int.lt_trichotomy c.b 0 with hb | hb | hb
  · have hN : S.hn = false → ∀ x ∈ l ++ [c], x.b = 0 → x.a ≤ 0 := fun hf => all_snoc (h.never hf) (fun e => by omega)
    have hNT : S.hn = true → S.never ∈ l ++ [c] ∧ S.never.b = 0 ∧ 0 < S.never.a := fun hf => ⟨ml (h.neverT hf).1, (h.neverT hf).2⟩
    have hL0 : S.hl = false → ∀ x ∈ l ++ [c], ¬ 0 < x.b := fun hf => all_snoc (h.low0 hf) (by omega)
    have hL : S.hl = true → S.low ∈ l ++ [c] ∧ 0 < S.low.b ∧ ∀ x ∈ l ++ [c], 0 < x.b → leC x S.low := fun hf => ⟨ml (h.low hf).1, (h.low hf).2.1, all_snoc (h.low hf).2.2 (fun e => by omega)⟩
    cases hh : S.hh
    · rw [bstep_H hb (.inl hh)]
      exact ⟨hN, hNT, (fun e => by cases e), (fun _ => ⟨mc, hb, all_snoc (fun x hx hx0 => absurd hx0 (h.high0 hh x hx)) (fun _ => leC_refl c)⟩), hL0, hL⟩
    · obtain ⟨k1, k2, k3⟩ := h.high hh
      cases hq : lessC c.a c.b S.high.a S.high.b
      · rw [bstep_H' hb hh hq]
        exact ⟨hN, hNT, (fun e => by rw [hh] at e; cases e), (fun _ => ⟨ml k1, k2, all_snoc k3 (fun _ => less_le.1 hq)⟩), hL0, hL⟩
      · rw [bstep_H hb (.inr hq)]
        exact ⟨hN, hNT, (fun e => by cases e), (fun _ => ⟨mc, hb, all_snoc (fun x hx hx0 => leC_trans (x := c) (y := S.high) (z := x) (by omega) (by omega) (by omega) (less_le' hq) (k3 x hx hx0)) (fun _ => leC_refl c)⟩), hL0, hL⟩
  · have hH0 : S.hh = false → ∀ x ∈ l ++ [c], ¬ x.b < 0 := fun hf => all_snoc (h.high0 hf) (by omega)
    have hH : S.hh = true → S.high ∈ l ++ [c] ∧ S.high.b < 0 ∧ ∀ x ∈ l ++ [c], x.b < 0 → leC S.high x := fun hf => ⟨ml (h.high hf).1, (h.high hf).2.1, all_snoc (h.high hf).2.2 (fun e => by omega)⟩
    have hL0 : S.hl = false → ∀ x ∈ l ++ [c], ¬ 0 < x.b := fun hf => all_snoc (h.low0 hf) (by omega)
    have hL : S.hl = true → S.low ∈ l ++ [c] ∧ 0 < S.low.b ∧ ∀ x ∈ l ++ [c], 0 < x.b → leC x S.low := fun hf => ⟨ml (h.low hf).1, (h.low hf).2.1, all_snoc (h.low hf).2.2 (fun e => by omega)⟩
    by_cases ha : 0 < c.a
    · cases hn : S.hn
      · rw [bstep_N hb ha hn]
        exact ⟨(fun e => by cases e), (fun _ => ⟨mc, hb, ha⟩), hH0, hH, hL0, hL⟩
      · rw [bstep_N' hb (.inr hn)]
        exact ⟨(fun e => by rw [hn] at e; cases e), (fun _ => ⟨ml (h.neverT hn).1, (h.neverT hn).2⟩), hH0, hH, hL0, hL⟩
    · rw [bstep_N' hb (.inl ha)]
      exact ⟨(fun hf => all_snoc (h.never hf) (fun _ => by omega)), (fun hn => ⟨ml (h.neverT hn).1, (h.neverT hn).2⟩), hH0, hH, hL0, hL⟩
  · have hN : S.hn = false → ∀ x ∈ l ++ [c], x.b = 0 → x.a ≤ 0 := fun hf => all_snoc (h.never hf) (fun e => by omega)
    have hNT : S.hn = true → S.never ∈ l ++ [c] ∧ S.never.b = 0 ∧ 0 < S.never.a := fun hf => ⟨ml (h.neverT hf).1, (h.neverT hf).2⟩
    have hH0 : S.hh = false → ∀ x ∈ l ++ [c], ¬ x.b < 0 := fun hf => all_snoc (h.high0 hf) (by omega)
    have hH : S.hh = true → S.high ∈ l ++ [c] ∧ S.high.b < 0 ∧ ∀ x ∈ l ++ [c], x.b < 0 → leC S.high x := fun hf => ⟨ml (h.high hf).1, (h.high hf).2.1, all_snoc (h.high hf).2.2 (fun e => by omega)⟩
    cases hl : S.hl
    · rw [bstep_L hb (.inl hl)]
      exact ⟨hN, hNT, hH0, hH, (fun e => by cases e), (fun _ => ⟨mc, hb, all_snoc (fun x hx hx0 => absurd hx0 (h.low0 hl x hx)) (fun _ => leC_refl c)⟩)⟩
    · obtain ⟨k1, k2, k3⟩ := h.low hl
      cases hq : lessC S.low.a S.low.b c.a c.b
      · rw [bstep_L' hb hl hq]
        exact ⟨hN, hNT, hH0, hH, (fun e => by rw [hl] at e; cases e), (fun _ => ⟨ml k1, k2, all_snoc k3 (fun _ => less_le.1 hq)⟩)⟩
      · rw [bstep_L hb (.inr hq)]
        exact ⟨hN, hNT, hH0, hH, (fun e => by cases e), (fun _ => ⟨mc, hb, all_snoc (fun x hx hx0 => leC_trans (x := x) (y := S.low) (z := c) (by omega) (by omega) (by omega) (k3 x hx hx0) (less_le' hq)) (fun _ => leC_refl c)⟩)⟩
theorem best_all : ∀ (r l : List Cnd) (S : Bnds), Best l S → Best (l ++ r) (r.foldl bstep S)
  | [], l, S, h => by rw [List.append_nil]; exact h
  | c :: r, l, S, h => by
    rw [show l ++ c :: r = (l ++ [c]) ++ r by simp]
    exact best_all r (l ++ [c]) (bstep S c) (best_step h c)
theorem best_find (ls lo hi : List Int) : Best (qAll ls lo hi lo.length lo.length) (bfind ls lo hi) := best_all _ [] bnds0 best0
/-- Where an arch stands, its upper bound fulfils all conditions. -/
theorem stand_all {l : List Cnd} {S : Bnds} (hB : Best l S) (hs : standB S = true) (hh : S.hh = true) : S.high.b < 0 ∧ S.high.a < 0 ∧ 1 ≤ sN S ∧ 1 ≤ sD S ∧ ∀ c ∈ l, c.a * sD S ≤ sN S * c.b := by
  obtain ⟨k1, k2, k3⟩ := hB.high hh
  simp only [standB, Bool.and_eq_true, Bool.not_eq_true', Bool.or_eq_true, decide_eq_true_eq, Bool.and_eq_false_iff] at hs
  obtain ⟨⟨h1, h2⟩, h3⟩ := hs
  have ha : S.high.a < 0 := by
    rcases h2 with h2 | h2
    · rw [hh] at h2; cases h2
    · exact h2
  have n1 : 1 ≤ sN S := lwN_pos _ _ (by omega)
  have d1 : 1 ≤ sD S := lwD_pos _ _ (by omega)
  have hx : sN S * (-S.high.b) = (-S.high.a) * sD S := lw_cross _ _
  refine ⟨k2, ha, n1, d1, fun c hc => ?_⟩
  have key : ∀ n d : Int, 1 ≤ n → 1 ≤ d → n * (-S.high.b) = (-S.high.a) * d → c.a * d ≤ n * c.b := by
    intro n d n1 d1 hx
    rcases Int.lt_trichotomy c.b 0 with hb | hb | hb
    · have h4 := k3 c hc hb
      unfold leC sgn at h4
      rw [if_pos k2, if_pos hb] at h4
      have e1 : (c.b.natAbs : Int) = -c.b := by omega
      have e2 : (S.high.b.natAbs : Int) = -S.high.b := by omega
      rw [e1, e2] at h4
      refine Int.le_of_mul_le_mul_right ?_ (show 0 < -S.high.b by omega)
      have g1 : c.a * d * (-S.high.b) = c.a * (-S.high.b) * d := by simp only [Int.mul_assoc, Int.mul_comm, Int.mul_left_comm]
      have g2 : n * c.b * (-S.high.b) = n * (-S.high.b) * c.b := by simp only [Int.mul_assoc, Int.mul_comm, Int.mul_left_comm]
      have g3 : -S.high.a * d * c.b = (-S.high.a * c.b) * d := by simp only [Int.mul_assoc, Int.mul_comm, Int.mul_left_comm]
      rw [g1, g2, hx, g3]
      refine Int.mul_le_mul_of_nonneg_right ?_ (by omega)
      have g4 : -S.high.a * -c.b = -(-S.high.a * c.b) := Int.mul_neg _ _
      have g5 : -c.a * -S.high.b = -(c.a * -S.high.b) := Int.neg_mul _ _
      omega
    · have h4 := hB.never h1 c hc hb
      rw [hb, Int.mul_zero]
      exact Int.mul_nonpos_of_nonpos_of_nonneg h4 (by omega)
    · have hl : S.hl = true := by
        cases e : S.hl
        · exact absurd hb (hB.low0 e c hc)
        · rfl
      obtain ⟨j1, j2, j3⟩ := hB.low hl
      have h4 := j3 c hc hb
      unfold leC sgn at h4
      rw [if_neg (by omega), if_neg (by omega)] at h4
      have h5 : lessC S.high.a S.high.b S.low.a S.low.b = false := by
        rcases h3 with (h3 | h3) | h3
        · rw [hl] at h3; cases h3
        · rw [hh] at h3; cases h3
        · exact h3
      have h6 := less_le.1 h5
      unfold leC sgn at h6
      rw [if_neg (by omega), if_pos k2] at h6
      have e1 : (c.b.natAbs : Int) = c.b := by omega
      have e2 : (S.high.b.natAbs : Int) = -S.high.b := by omega
      have e3 : (S.low.b.natAbs : Int) = S.low.b := by omega
      rw [e1, e3] at h4
      rw [e2, e3] at h6
      refine Int.le_of_mul_le_mul_right ?_ (show 0 < -S.high.b by omega)
      refine Int.le_of_mul_le_mul_right ?_ j2
      have g1 : c.a * d * (-S.high.b) * S.low.b = c.a * S.low.b * (-S.high.b * d) := by simp only [Int.mul_assoc, Int.mul_comm, Int.mul_left_comm]
      have g2 : n * c.b * (-S.high.b) * S.low.b = n * (-S.high.b) * (c.b * S.low.b) := by simp only [Int.mul_assoc, Int.mul_comm, Int.mul_left_comm]
      have g3 : -S.high.a * d * (c.b * S.low.b) = (-S.high.a * S.low.b) * (c.b * d) := by simp only [Int.mul_assoc, Int.mul_comm, Int.mul_left_comm]
      rw [g1, g2, hx, g3]
      have g4 : c.a * S.low.b * (-S.high.b * d) ≤ S.low.a * c.b * (-S.high.b * d) := Int.mul_le_mul_of_nonneg_right h4 (Int.mul_nonneg (by omega) (by omega))
      have g5 : S.low.a * c.b * (-S.high.b * d) = S.low.a * -S.high.b * (c.b * d) := by simp only [Int.mul_assoc, Int.mul_comm, Int.mul_left_comm]
      have g6 : S.low.a * -S.high.b * (c.b * d) ≤ -S.high.a * S.low.b * (c.b * d) := Int.mul_le_mul_of_nonneg_right h6 (Int.mul_nonneg (by omega) (by omega))
      omega
  exact key _ _ n1 d1 hx
end Go.Proofs.Ytklhaanapembdaa
/- The plain law of LineOfThrust: the least slope, the line's heights over one denominator, and that a denominator t times as great gives the same line in lowest terms; no program in sight. -/
namespace Go.Proofs.Ytklhaanapembdaa
set_option linter.unusedVariables false
set_option linter.unusedSimpArgs false

/-- The slope that two joints want, in lowest terms. -/
def slN (ls lo hi : List Int) (sn sd : Int) (j k : Nat) : Int := (lo.getD j 0 - hi.getD k 0) * sd + sn * (momAt ls j - momAt ls k)
def slD (sd : Int) (j k : Nat) : Int := sd * ((j : Int) - k)
def slO (ls lo hi : List Int) (sn sd : Int) (j k : Nat) : Int × Int := (lwN (slN ls lo hi sn sd j k) (slD sd j k), lwD (slN ls lo hi sn sd j k) (slD sd j k))
/-- The greater of two slopes; a denominator of 0 is no slope. -/
def slS (s o : Int × Int) : Int × Int := if s.2 = 0 ∨ s.1 * o.2 < o.1 * s.2 then o else s
def slR (f : Nat → Nat → Int × Int) (j : Nat) (s : Int × Int) : Nat → Int × Int
  | 0 => s
  | k + 1 => slS (slR f j s k) (f j k)
def slA (f : Nat → Nat → Int × Int) : Nat → Int × Int
  | 0 => (0, 0)
  | j + 1 => slR f j (slA f j) j
/-- s is the greatest of those seen, or there was none. -/
def SlMax (f : Nat → Nat → Int × Int) (P : Nat → Nat → Prop) (s : Int × Int) : Prop :=
  (s.2 = 0 ∧ ∀ j k, ¬ P j k) ∨ (1 ≤ s.2 ∧ (∃ j k, P j k ∧ s = f j k) ∧ ∀ j k, P j k → (f j k).1 * s.2 ≤ s.1 * (f j k).2)
theorem slMax_step {f : Nat → Nat → Int × Int} {P P' : Nat → Nat → Prop} {s : Int × Int} {a b : Nat} (h : SlMax f P s) (hf : ∀ j k, P' j k → 1 ≤ (f j k).2) (hP : ∀ j k, P' j k ↔ P j k ∨ (j = a ∧ k = b)) : SlMax f P' (slS s (f a b)) := by
  have hab : P' a b := (hP a b).2 (.inr ⟨rfl, rfl⟩)
  have h1 := hf a b hab
  unfold slS
  rcases h with ⟨h0, hn⟩ | ⟨h0, ⟨j0, k0, hp0, he0⟩, hm⟩
  · rw [if_pos (.inl h0)]
    refine .inr ⟨h1, ⟨a, b, hab, rfl⟩, fun j k hp => ?_⟩
    rcases (hP j k).1 hp with hp | ⟨rfl, rfl⟩
    · exact absurd hp (hn j k)
    · exact Int.le_refl _
  · by_cases hlt : s.1 * (f a b).2 < (f a b).1 * s.2
    · rw [if_pos (.inr hlt)]
      refine .inr ⟨h1, ⟨a, b, hab, rfl⟩, fun j k hp => ?_⟩
      rcases (hP j k).1 hp with hp' | ⟨rfl, rfl⟩
      · have h2 := hm j k hp'
        have h3 := hf j k hp
        refine Int.le_of_mul_le_mul_right ?_ (show 0 < s.2 by omega)
        have a1 : (f j k).1 * s.2 * (f a b).2 ≤ s.1 * (f j k).2 * (f a b).2 := Int.mul_le_mul_of_nonneg_right h2 (by omega)
        have a2 : s.1 * (f a b).2 * (f j k).2 ≤ (f a b).1 * s.2 * (f j k).2 := Int.mul_le_mul_of_nonneg_right (by omega) (by omega)
        have e1 : (f j k).1 * (f a b).2 * s.2 = (f j k).1 * s.2 * (f a b).2 := by simp only [Int.mul_assoc, Int.mul_comm, Int.mul_left_comm]
        have e2 : s.1 * (f j k).2 * (f a b).2 = s.1 * (f a b).2 * (f j k).2 := by simp only [Int.mul_assoc, Int.mul_comm, Int.mul_left_comm]
        have e3 : (f a b).1 * s.2 * (f j k).2 = (f a b).1 * (f j k).2 * s.2 := by simp only [Int.mul_assoc, Int.mul_comm, Int.mul_left_comm]
        omega
      · exact Int.le_refl _
    · rw [if_neg (by omega)]
      refine .inr ⟨h0, ⟨j0, k0, (hP _ _).2 (.inl hp0), he0⟩, fun j k hp => ?_⟩
      rcases (hP j k).1 hp with hp' | ⟨rfl, rfl⟩
      · exact hm j k hp'
      · omega
theorem slR_max {f : Nat → Nat → Int × Int} {j n : Nat} (hj : j < n) {s : Int × Int} (hf : ∀ j k, k < j → j < n → 1 ≤ (f j k).2) (h : SlMax f (fun a b => b < a ∧ a < j) s) (k : Nat) (hk : k ≤ j) : SlMax f (fun a b => b < a ∧ a < j ∨ a = j ∧ b < k) (slR f j s k) := by
  induction k with
  | zero =>
    have : (fun a b : Nat => b < a ∧ a < j ∨ a = j ∧ b < 0) = (fun a b => b < a ∧ a < j) := by
      funext a b; simp
    rw [this]; exact h
  | succ k ih =>
    refine slMax_step (ih (by omega)) (fun a b hp => hf a b (by omega) (by omega)) (fun a b => ?_)
    constructor
    · intro hp; omega
    · intro hp; omega
theorem slA_max {f : Nat → Nat → Int × Int} {n : Nat} (hf : ∀ j k, k < j → j < n → 1 ≤ (f j k).2) (m : Nat) (hm : m ≤ n) : SlMax f (fun a b => b < a ∧ a < m) (slA f m) := by
  induction m with
  | zero => exact .inl ⟨rfl, fun a b h => by omega⟩
  | succ j ih =>
    have := slR_max (show j < n by omega) hf (ih (by omega)) j (Nat.le_refl _)
    have e : (fun a b : Nat => b < a ∧ a < j ∨ a = j ∧ b < j) = (fun a b => b < a ∧ a < j + 1) := by
      funext a b
      apply propext
      constructor
      · intro hp; omega
      · intro hp; omega
    rw [e] at this
    exact this
/-- Heights but for the least one, over a denominator. -/
def owV (ls : List Int) (A B : Int) (k : Nat) : Int := A * (k : Int) - B * momAt ls k
def neV (ls lo : List Int) (d A B : Int) (k : Nat) : Int := lo.getD k 0 * d - owV ls A B k
def leV (ls lo : List Int) (d A B : Int) : Nat → Int
  | 0 => 0
  | k + 1 => if k = 0 ∨ leV ls lo d A B k < neV ls lo d A B k then neV ls lo d A B k else leV ls lo d A B k
def ouV (ls lo : List Int) (d A B : Int) (n k : Nat) : Int := owV ls A B k + leV ls lo d A B n
def coV (ls lo : List Int) (d A B : Int) (n : Nat) : Nat → Int
  | 0 => d
  | k + 1 => (Int.gcd (coV ls lo d A B n k) (ouV ls lo d A B n k) : Int)
/-- The line, and its denominator. -/
def liV (ls lo : List Int) (d A B : Int) (n : Nat) : List Int := (List.range n).map fun k => (ouV ls lo d A B n k).tdiv (coV ls lo d A B n n)
def ldV (ls lo : List Int) (d A B : Int) (n : Nat) : Int := d.tdiv (coV ls lo d A B n n)
theorem owV_mul (ls : List Int) (t A B : Int) (k : Nat) : owV ls (t * A) (t * B) k = t * owV ls A B k := by
  unfold owV; rw [Int.mul_sub, Int.mul_assoc, Int.mul_assoc]
theorem neV_mul (ls lo : List Int) (t d A B : Int) (k : Nat) : neV ls lo (t * d) (t * A) (t * B) k = t * neV ls lo d A B k := by
  unfold neV; rw [owV_mul, Int.mul_sub, Int.mul_left_comm]
theorem leV_mul (ls lo : List Int) {t : Int} (ht : 0 < t) (d A B : Int) (n : Nat) : leV ls lo (t * d) (t * A) (t * B) n = t * leV ls lo d A B n := by
  induction n with
  | zero => simp [leV]
  | succ n ih =>
    simp only [leV]
    rw [ih, neV_mul]
    by_cases h : n = 0 ∨ leV ls lo d A B n < neV ls lo d A B n
    · rw [if_pos h, if_pos]
      rcases h with h | h
      · exact .inl h
      · exact .inr (Int.mul_lt_mul_of_pos_left h ht)
    · rw [if_neg h, if_neg]
      intro h'
      apply h
      rcases h' with h' | h'
      · exact .inl h'
      · exact .inr (Int.lt_of_mul_lt_mul_left h' (by omega))
theorem ouV_mul (ls lo : List Int) {t : Int} (ht : 0 < t) (d A B : Int) (n k : Nat) : ouV ls lo (t * d) (t * A) (t * B) n k = t * ouV ls lo d A B n k := by
  unfold ouV; rw [owV_mul, leV_mul ls lo ht, Int.mul_add]
theorem gcd_scale {t : Int} (ht : 0 < t) (a b : Int) : (Int.gcd (t * a) (t * b) : Int) = t * (Int.gcd a b : Int) := by
  rw [Int.gcd_mul_left]
  rw [Int.natCast_mul]
  congr 1
  omega
theorem coV_mul (ls lo : List Int) {t : Int} (ht : 0 < t) (d A B : Int) (n k : Nat) : coV ls lo (t * d) (t * A) (t * B) n k = t * coV ls lo d A B n k := by
  induction k with
  | zero => rfl
  | succ k ih => simp only [coV]; rw [ih, ouV_mul ls lo ht, gcd_scale ht]
theorem line_scale (ls lo : List Int) {t : Int} (ht : 0 < t) (d A B : Int) (n : Nat) : liV ls lo (t * d) (t * A) (t * B) n = liV ls lo d A B n ∧ ldV ls lo (t * d) (t * A) (t * B) n = ldV ls lo d A B n := by
  constructor
  · unfold liV
    rw [coV_mul ls lo ht]
    apply List.map_congr_left
    intro k _
    rw [ouV_mul ls lo ht]
    exact Int.mul_tdiv_mul_of_pos _ _ ht
  · unfold ldV
    rw [coV_mul ls lo ht]
    exact Int.mul_tdiv_mul_of_pos _ _ ht
/-- The program's denominator and factors, and the reference's. -/
def deI (sd cD : Int) : Int := sd.tdiv (Int.gcd sd cD) * cD
theorem de_scale {sn sd cN cD : Int} (h1 : 1 ≤ sd) (h2 : 1 ≤ cD) :
    0 < (Int.gcd sd cD : Int) ∧ sd * cD = (Int.gcd sd cD : Int) * deI sd cD ∧ cN * sd = (Int.gcd sd cD : Int) * (cN * (deI sd cD).tdiv cD) ∧ sn * cD = (Int.gcd sd cD : Int) * (sn * (deI sd cD).tdiv sd) := by
  have hg := gcd_ge sd cD (by omega)
  have e1 := Int.tdiv_mul_cancel (Int.gcd_dvd_left sd cD)
  have e2 := Int.tdiv_mul_cancel (Int.gcd_dvd_right sd cD)
  unfold deI
  generalize (Int.gcd sd cD : Int) = t at *
  generalize sd.tdiv t = p at *
  generalize cD.tdiv t = q at *
  subst e1
  have hp : p ≠ 0 := fun e => by rw [e] at h1; omega
  have hc : (p * cD).tdiv cD = p := Int.mul_tdiv_cancel _ (by omega)
  have hs : (p * cD).tdiv (p * t) = q := by
    rw [← e2, show p * (q * t) = q * (p * t) by simp only [Int.mul_assoc, Int.mul_comm, Int.mul_left_comm]]
    exact Int.mul_tdiv_cancel _ (by omega)
  refine ⟨by omega, ?_, ?_, ?_⟩
  · simp only [Int.mul_assoc, Int.mul_comm, Int.mul_left_comm]
  · rw [hc]; simp only [Int.mul_assoc, Int.mul_comm, Int.mul_left_comm]
  · rw [hs, ← e2]; simp only [Int.mul_assoc, Int.mul_comm, Int.mul_left_comm]
end Go.Proofs.Ytklhaanapembdaa
