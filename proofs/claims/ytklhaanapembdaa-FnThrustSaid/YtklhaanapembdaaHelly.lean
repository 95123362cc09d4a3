/- The plain law of the conditions: the ones that decide are the sharpest, and where an arch stands, its upper bound fulfils all conditions; no program in sight. -/
import Derived.Test.YtklhaanapembdaaCanP
namespace Go.Proofs.Ytklhaanapembdaa
set_option linter.unusedVariables false
set_option linter.unusedSimpArgs false

/-- The bound of x is no greater than that of y. -/
def leC (x y : Cnd) : Prop := sgn x.a x.b * (y.b.natAbs : Int) ≤ sgn y.a y.b * (x.b.natAbs : Int)
theorem less_le {x y : Cnd} : lessC x.a x.b y.a y.b = false ↔ leC y x := by
  unfold lessC leC sgn
  rw [decide_eq_false_iff_not]
  exact Int.not_lt
theorem less_le' {x y : Cnd} (h : lessC x.a x.b y.a y.b = true) : leC x y := by
  unfold lessC at h
  unfold leC sgn
  have := of_decide_eq_true h
  omega
theorem leC_refl (x : Cnd) : leC x x := Int.le_refl _
theorem leC_trans {x y z : Cnd} (hx : x.b ≠ 0) (hy : y.b ≠ 0) (hz : z.b ≠ 0) (h1 : leC x y) (h2 : leC y z) : leC x z := by
  unfold leC at *
  generalize sgn x.a x.b = X at *
  generalize sgn y.a y.b = Y at *
  generalize sgn z.a z.b = Z at *
  have px : 0 < (x.b.natAbs : Int) := by omega
  have py : 0 < (y.b.natAbs : Int) := by omega
  have pz : 0 < (z.b.natAbs : Int) := by omega
  generalize (x.b.natAbs : Int) = p at *
  generalize (y.b.natAbs : Int) = q at *
  generalize (z.b.natAbs : Int) = r at *
  refine Int.le_of_mul_le_mul_right ?_ py
  have a1 : X * q * r ≤ Y * p * r := Int.mul_le_mul_of_nonneg_right h1 (by omega)
  have a2 : Y * r * p ≤ Z * q * p := Int.mul_le_mul_of_nonneg_right h2 (by omega)
  have e1 : X * r * q = X * q * r := by simp only [Int.mul_assoc, Int.mul_comm, Int.mul_left_comm]
  have e2 : Y * p * r = Y * r * p := by simp only [Int.mul_assoc, Int.mul_comm, Int.mul_left_comm]
  have e3 : Z * q * p = Z * p * q := by simp only [Int.mul_assoc, Int.mul_comm, Int.mul_left_comm]
  omega
/-- What the fold keeps. -/
structure Best (l : List Cnd) (S : Bnds) : Prop where
  never : S.hn = false → ∀ c ∈ l, c.b = 0 → c.a ≤ 0
  neverT : S.hn = true → S.never ∈ l ∧ S.never.b = 0 ∧ 0 < S.never.a
  high0 : S.hh = false → ∀ c ∈ l, ¬ c.b < 0
  high : S.hh = true → S.high ∈ l ∧ S.high.b < 0 ∧ ∀ c ∈ l, c.b < 0 → leC S.high c
  low0 : S.hl = false → ∀ c ∈ l, ¬ 0 < c.b
  low : S.hl = true → S.low ∈ l ∧ 0 < S.low.b ∧ ∀ c ∈ l, 0 < c.b → leC c S.low
theorem best0 : Best [] bnds0 := ⟨(fun _ _ h => by cases h), (fun h => by cases h), (fun _ _ h => by cases h), (fun h => by cases h), (fun _ _ h => by cases h), (fun h => by cases h)⟩
theorem all_snoc {l : List Cnd} {c : Cnd} {p : Cnd → Prop} (h : ∀ x ∈ l, p x) (hc : p c) : ∀ x ∈ l ++ [c], p x := by
  intro x hx
  rcases List.mem_append.1 hx with hx | hx
  · exact h x hx
  · rw [List.mem_singleton.1 hx]; exact hc
theorem best_step {l : List Cnd} {S : Bnds} (h : Best l S) (c : Cnd) : Best (l ++ [c]) (bstep S c) := by
  have ml : ∀ {x}, x ∈ l → x ∈ l ++ [c] := fun hx => List.mem_append_left _ hx
  have mc : c ∈ l ++ [c] := List.mem_append_right _ (List.mem_singleton.2 rfl)
  rcases Int.lt_trichotomy c.b 0 with hb | hb | hb
  · have hN : S.hn = false → ∀ x ∈ l ++ [c], x.b = 0 → x.a ≤ 0 := fun hf => all_snoc (h.never hf) (fun e => by omega)
    have hNT : S.hn = true → S.never ∈ l ++ [c] ∧ S.never.b = 0 ∧ 0 < S.never.a := fun hf => ⟨ml (h.neverT hf).1, (h.neverT hf).2⟩
    have hL0 : S.hl = false → ∀ x ∈ l ++ [c], ¬ 0 < x.b := fun hf => all_snoc (h.low0 hf) (by omega)
    have hL : S.hl = true → S.low ∈ l ++ [c] ∧ 0 < S.low.b ∧ ∀ x ∈ l ++ [c], 0 < x.b → leC x S.low := fun hf => ⟨ml (h.low hf).1, (h.low hf).2.1, all_snoc (h.low hf).2.2 (fun e => by omega)⟩
    cases hh : S.hh
    · rw [bstep_H hb (.inl hh)]
      exact ⟨hN, hNT, (fun e => by cases e), (fun _ => ⟨mc, hb, all_snoc (fun x hx hx0 => absurd hx0 (h.high0 hh x hx)) (fun _ => leC_refl c)⟩), hL0, hL⟩
    · obtain ⟨k1, k2, k3⟩ := h.high hh
      cases hq : lessC c.a c.b S.high.a S.high.b
      · rw [bstep_H' hb hh hq]
        exact ⟨hN, hNT, (fun e => by rw [hh] at e; cases e), (fun _ => ⟨ml k1, k2, all_snoc k3 (fun _ => less_le.1 hq)⟩), hL0, hL⟩
      · rw [bstep_H hb (.inr hq)]
        exact ⟨hN, hNT, (fun e => by cases e), (fun _ => ⟨mc, hb, all_snoc (fun x hx hx0 => leC_trans (x := c) (y := S.high) (z := x) (by omega) (by omega) (by omega) (less_le' hq) (k3 x hx hx0)) (fun _ => leC_refl c)⟩), hL0, hL⟩
  · have hH0 : S.hh = false → ∀ x ∈ l ++ [c], ¬ x.b < 0 := fun hf => all_snoc (h.high0 hf) (by omega)
    have hH : S.hh = true → S.high ∈ l ++ [c] ∧ S.high.b < 0 ∧ ∀ x ∈ l ++ [c], x.b < 0 → leC S.high x := fun hf => ⟨ml (h.high hf).1, (h.high hf).2.1, all_snoc (h.high hf).2.2 (fun e => by omega)⟩
    have hL0 : S.hl = false → ∀ x ∈ l ++ [c], ¬ 0 < x.b := fun hf => all_snoc (h.low0 hf) (by omega)
    have hL : S.hl = true → S.low ∈ l ++ [c] ∧ 0 < S.low.b ∧ ∀ x ∈ l ++ [c], 0 < x.b → leC x S.low := fun hf => ⟨ml (h.low hf).1, (h.low hf).2.1, all_snoc (h.low hf).2.2 (fun e => by omega)⟩
    by_cases ha : 0 < c.a
    · cases hn : S.hn
      · rw [bstep_N hb ha hn]
        exact ⟨(fun e => by cases e), (fun _ => ⟨mc, hb, ha⟩), hH0, hH, hL0, hL⟩
      · rw [bstep_N' hb (.inr hn)]
        exact ⟨(fun e => by rw [hn] at e; cases e), (fun _ => ⟨ml (h.neverT hn).1, (h.neverT hn).2⟩), hH0, hH, hL0, hL⟩
    · rw [bstep_N' hb (.inl ha)]
      exact ⟨(fun hf => all_snoc (h.never hf) (fun _ => by omega)), (fun hn => ⟨ml (h.neverT hn).1, (h.neverT hn).2⟩), hH0, hH, hL0, hL⟩
  · have hN : S.hn = false → ∀ x ∈ l ++ [c], x.b = 0 → x.a ≤ 0 := fun hf => all_snoc (h.never hf) (fun e => by omega)
    have hNT : S.hn = true → S.never ∈ l ++ [c] ∧ S.never.b = 0 ∧ 0 < S.never.a := fun hf => ⟨ml (h.neverT hf).1, (h.neverT hf).2⟩
    have hH0 : S.hh = false → ∀ x ∈ l ++ [c], ¬ x.b < 0 := fun hf => all_snoc (h.high0 hf) (by omega)
    have hH : S.hh = true → S.high ∈ l ++ [c] ∧ S.high.b < 0 ∧ ∀ x ∈ l ++ [c], x.b < 0 → leC S.high x := fun hf => ⟨ml (h.high hf).1, (h.high hf).2.1, all_snoc (h.high hf).2.2 (fun e => by omega)⟩
    cases hl : S.hl
    · rw [bstep_L hb (.inl hl)]
      exact ⟨hN, hNT, hH0, hH, (fun e => by cases e), (fun _ => ⟨mc, hb, all_snoc (fun x hx hx0 => absurd hx0 (h.low0 hl x hx)) (fun _ => leC_refl c)⟩)⟩
    · obtain ⟨k1, k2, k3⟩ := h.low hl
      cases hq : lessC S.low.a S.low.b c.a c.b
      · rw [bstep_L' hb hl hq]
        exact ⟨hN, hNT, hH0, hH, (fun e => by rw [hl] at e; cases e), (fun _ => ⟨ml k1, k2, all_snoc k3 (fun _ => less_le.1 hq)⟩)⟩
      · rw [bstep_L hb (.inr hq)]
        exact ⟨hN, hNT, hH0, hH, (fun e => by cases e), (fun _ => ⟨mc, hb, all_snoc (fun x hx hx0 => leC_trans (x := x) (y := S.low) (z := c) (by omega) (by omega) (by omega) (k3 x hx hx0) (less_le' hq)) (fun _ => leC_refl c)⟩)⟩
theorem best_all : ∀ (r l : List Cnd) (S : Bnds), Best l S → Best (l ++ r) (r.foldl bstep S)
  | [], l, S, h => by rw [List.append_nil]; exact h
  | c :: r, l, S, h => by
    rw [show l ++ c :: r = (l ++ [c]) ++ r by simp]
    exact best_all r (l ++ [c]) (bstep S c) (best_step h c)
theorem best_find (ls lo hi : List Int) : Best (qAll ls lo hi lo.length lo.length) (bfind ls lo hi) := best_all _ [] bnds0 best0
/-- Where an arch stands, its upper bound fulfils all conditions. -/
theorem stand_all {l : List Cnd} {S : Bnds} (hB : Best l S) (hs : standB S = true) (hh : S.hh = true) : S.high.b < 0 ∧ S.high.a < 0 ∧ 1 ≤ sN S ∧ 1 ≤ sD S ∧ ∀ c ∈ l, c.a * sD S ≤ sN S * c.b := by
  obtain ⟨k1, k2, k3⟩ := hB.high hh
  simp only [standB, Bool.and_eq_true, Bool.not_eq_true', Bool.or_eq_true, decide_eq_true_eq, Bool.and_eq_false_iff] at hs
  obtain ⟨⟨h1, h2⟩, h3⟩ := hs
  have ha : S.high.a < 0 := by
    rcases h2 with h2 | h2
    · rw [hh] at h2; cases h2
    · exact h2
  have n1 : 1 ≤ sN S := lwN_pos _ _ (by omega)
  have d1 : 1 ≤ sD S := lwD_pos _ _ (by omega)
  have hx : sN S * (-S.high.b) = (-S.high.a) * sD S := lw_cross _ _
  refine ⟨k2, ha, n1, d1, fun c hc => ?_⟩
  have key : ∀ n d : Int, 1 ≤ n → 1 ≤ d → n * (-S.high.b) = (-S.high.a) * d → c.a * d ≤ n * c.b := by
    intro n d n1 d1 hx
    rcases Int.lt_trichotomy c.b 0 with hb | hb | hb
    · have h4 := k3 c hc hb
      unfold leC sgn at h4
      rw [if_pos k2, if_pos hb] at h4
      have e1 : (c.b.natAbs : Int) = -c.b := by omega
      have e2 : (S.high.b.natAbs : Int) = -S.high.b := by omega
      rw [e1, e2] at h4
      refine Int.le_of_mul_le_mul_right ?_ (show 0 < -S.high.b by omega)
      have g1 : c.a * d * (-S.high.b) = c.a * (-S.high.b) * d := by simp only [Int.mul_assoc, Int.mul_comm, Int.mul_left_comm]
      have g2 : n * c.b * (-S.high.b) = n * (-S.high.b) * c.b := by simp only [Int.mul_assoc, Int.mul_comm, Int.mul_left_comm]
      have g3 : -S.high.a * d * c.b = (-S.high.a * c.b) * d := by simp only [Int.mul_assoc, Int.mul_comm, Int.mul_left_comm]
      rw [g1, g2, hx, g3]
      refine Int.mul_le_mul_of_nonneg_right ?_ (by omega)
      have g4 : -S.high.a * -c.b = -(-S.high.a * c.b) := Int.mul_neg _ _
      have g5 : -c.a * -S.high.b = -(c.a * -S.high.b) := Int.neg_mul _ _
      omega
    · have h4 := hB.never h1 c hc hb
      rw [hb, Int.mul_zero]
      exact Int.mul_nonpos_of_nonpos_of_nonneg h4 (by omega)
    · have hl : S.hl = true := by
        cases e : S.hl
        · exact absurd hb (hB.low0 e c hc)
        · rfl
      obtain ⟨j1, j2, j3⟩ := hB.low hl
      have h4 := j3 c hc hb
      unfold leC sgn at h4
      rw [if_neg (by omega), if_neg (by omega)] at h4
      have h5 : lessC S.high.a S.high.b S.low.a S.low.b = false := by
        rcases h3 with (h3 | h3) | h3
        · rw [hl] at h3; cases h3
        · rw [hh] at h3; cases h3
        · exact h3
      have h6 := less_le.1 h5
      unfold leC sgn at h6
      rw [if_neg (by omega), if_pos k2] at h6
      have e1 : (c.b.natAbs : Int) = c.b := by omega
      have e2 : (S.high.b.natAbs : Int) = -S.high.b := by omega
      have e3 : (S.low.b.natAbs : Int) = S.low.b := by omega
      rw [e1, e3] at h4
      rw [e2, e3] at h6
      refine Int.le_of_mul_le_mul_right ?_ (show 0 < -S.high.b by omega)
      refine Int.le_of_mul_le_mul_right ?_ j2
      have g1 : c.a * d * (-S.high.b) * S.low.b = c.a * S.low.b * (-S.high.b * d) := by simp only [Int.mul_assoc, Int.mul_comm, Int.mul_left_comm]
      have g2 : n * c.b * (-S.high.b) * S.low.b = n * (-S.high.b) * (c.b * S.low.b) := by simp only [Int.mul_assoc, Int.mul_comm, Int.mul_left_comm]
      have g3 : -S.high.a * d * (c.b * S.low.b) = (-S.high.a * S.low.b) * (c.b * d) := by simp only [Int.mul_assoc, Int.mul_comm, Int.mul_left_comm]
      rw [g1, g2, hx, g3]
      have g4 : c.a * S.low.b * (-S.high.b * d) ≤ S.low.a * c.b * (-S.high.b * d) := Int.mul_le_mul_of_nonneg_right h4 (Int.mul_nonneg (by omega) (by omega))
      have g5 : S.low.a * c.b * (-S.high.b * d) = S.low.a * -S.high.b * (c.b * d) := by simp only [Int.mul_assoc, Int.mul_comm, Int.mul_left_comm]
      have g6 : S.low.a * -S.high.b * (c.b * d) ≤ -S.high.a * S.low.b * (c.b * d) := Int.mul_le_mul_of_nonneg_right h6 (Int.mul_nonneg (by omega) (by omega))
      omega
  exact key _ _ n1 d1 hx
end Go.Proofs.Ytklhaanapembdaa
