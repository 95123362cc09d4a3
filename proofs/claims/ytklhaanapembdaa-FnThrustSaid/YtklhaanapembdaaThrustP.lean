/- The plain law of the thrust of an arch: moments, conditions of four joints, the fold over all conditions by the program and by the reference, and that both come to the same; no program in sight, no condition. -/
import Derived.Test.YtklhaanapembdaaOutside
namespace Go.Proofs.Ytklhaanapembdaa

/-- The first i terms of the moment at joint k. -/
def momS (ls : List Int) (k : Nat) : Nat → Int
  | 0 => 0
  | i + 1 => momS ls k i + ls.getD i 0 * (2 * (k : Int) - 2 * (i : Int) - 1)
def momAt (ls : List Int) (k : Nat) : Int := momS ls k k
def moms (ls : List Int) (n : Nat) : List Int := (List.range n).map (momAt ls)
theorem moms_len (ls : List Int) (n : Nat) : (moms ls n).length = n := by simp [moms]
theorem moms_next (ls : List Int) (n : Nat) : moms ls (n + 1) = moms ls n ++ [momAt ls n] := by simp [moms, List.range_succ]
theorem moms_get (ls : List Int) (n i : Nat) (h : i < n) : (moms ls n).getD i 0 = momAt ls i := by simp [moms, List.getD_eq_getElem?_getD, h]
theorem momS_bd {ls : List Int} {k : Nat} (hk : k ≤ 10) (h : ∀ i, i < ls.length → 1 ≤ ls.getD i 0 ∧ ls.getD i 0 ≤ 1000) (hl : k ≤ ls.length) (i : Nat) (hi : i ≤ k) : 0 ≤ momS ls k i ∧ momS ls k i ≤ (i : Int) * 19000 := by
  induction i with
  | zero => simp [momS]
  | succ i ih =>
    obtain ⟨e1, e2⟩ := ih (by omega)
    obtain ⟨g1, g2⟩ := h i (by omega)
    obtain ⟨m1, m2⟩ := mul_bd (a := ls.getD i 0) (b := 2 * (k : Int) - 2 * (i : Int) - 1) (A := 1000) (B := 19) (by omega) g2 (by omega) (by omega)
    simp only [momS]
    omega
theorem momAt_bd {ls : List Int} {k : Nat} (hk : k ≤ 10) (h : ∀ i, i < ls.length → 1 ≤ ls.getD i 0 ∧ ls.getD i 0 ≤ 1000) (hl : k ≤ ls.length) : 0 ≤ momAt ls k ∧ momAt ls k ≤ 190000 := by
  have := momS_bd hk h hl k (Nat.le_refl _)
  unfold momAt
  omega
/-- No low is above its high. -/
def leB (lo hi : List Int) : Bool := (List.range lo.length).all fun k => decide (lo.getD k 0 ≤ hi.getD k 0)
theorem leB_t {lo hi : List Int} (h : leB lo hi = true) (k : Nat) (hk : k < lo.length) : lo.getD k 0 ≤ hi.getD k 0 := by
  have := List.all_eq_true.1 h k (by simpa using hk)
  simpa using this
theorem leB_mk {lo hi : List Int} (h : ∀ k, k < lo.length → lo.getD k 0 ≤ hi.getD k 0) : leB lo hi = true := by
  refine List.all_eq_true.2 fun k hk => ?_
  simpa using h k (by simpa using hk)
theorem leB_no {lo hi : List Int} {k : Nat} (hk : k < lo.length) (h : ¬ lo.getD k 0 ≤ hi.getD k 0) : leB lo hi = false := by
  cases e : leB lo hi
  · rfl
  · exact absurd (leB_t e k hk) h
/-- Valid blocks. -/
def blkB (ls lo hi : List Int) : Bool :=
  inB ls.length 2 10 && insB ls 1 1000 && decide (lo.length = ls.length + 1) && decide (hi.length = ls.length + 1) && insB lo (-1000) 1000 && insB hi (-1000) 1000 && leB lo hi
theorem blkB_t {ls lo hi : List Int} (h : blkB ls lo hi = true) :
    2 ≤ ls.length ∧ ls.length ≤ 10 ∧ (∀ i, i < ls.length → 1 ≤ ls.getD i 0 ∧ ls.getD i 0 ≤ 1000) ∧ lo.length = ls.length + 1 ∧ hi.length = ls.length + 1 ∧
    (∀ i, i < ls.length + 1 → -1000 ≤ lo.getD i 0 ∧ lo.getD i 0 ≤ 1000) ∧ (∀ i, i < ls.length + 1 → -1000 ≤ hi.getD i 0 ∧ hi.getD i 0 ≤ 1000) ∧ (∀ i, i < ls.length + 1 → lo.getD i 0 ≤ hi.getD i 0) := by
  simp only [blkB, Bool.and_eq_true, decide_eq_true_eq] at h
  obtain ⟨⟨⟨⟨⟨⟨h1, h2⟩, h3⟩, h4⟩, h5⟩, h6⟩, h7⟩ := h
  have := inB_t h1
  exact ⟨by omega, by omega, insB_t h2, h3, h4, fun i hi => insB_t h5 i (by omega), fun i hi => insB_t h6 i (by omega), fun i hi => leB_t h7 i (by omega)⟩
/-- A condition a ≤ s * b of four joints. -/
structure Cnd where
  j : Int
  k : Int
  p : Int
  q : Int
  a : Int
  b : Int
def cA (lo hi : List Int) (j k p q : Nat) : Int := (lo.getD j 0 - hi.getD k 0) * ((q : Int) - p) - (hi.getD q 0 - lo.getD p 0) * ((j : Int) - k)
def cB (m : Nat → Int) (j k p q : Nat) : Int := (m q - m p) * ((j : Int) - k) - (m j - m k) * ((q : Int) - p)
def cnd (ls lo hi : List Int) (j k p q : Nat) : Cnd := ⟨j, k, p, q, cA lo hi j k p q, cB (momAt ls) j k p q⟩
theorem prod_bd {x y A B : Int} (h1 : -A ≤ x) (h2 : x ≤ A) (h3 : 0 ≤ y) (h4 : y ≤ B) (hA : 0 ≤ A) : -(A * B) ≤ x * y ∧ x * y ≤ A * B := by
  by_cases h : 0 ≤ x
  · have := mul_bd h h2 h3 h4
    have h0 : 0 ≤ A * B := Int.mul_nonneg hA (by omega)
    omega
  · have := mul_bd (a := -x) (b := y) (A := A) (B := B) (by omega) (by omega) h3 h4
    rw [Int.neg_mul] at this
    have h0 : 0 ≤ A * B := Int.mul_nonneg hA (by omega)
    omega
/-- Bounds of a condition's numbers: two limbs each. -/
theorem limb_bd {x y A : Int} (h1 : -A ≤ x) (h2 : x ≤ A) (h3 : 0 ≤ y) (h4 : y ≤ 10) (hA : 0 ≤ A) : -(A * 10) ≤ x * y ∧ x * y ≤ A * 10 := prod_bd h1 h2 h3 h4 hA
/-- The bound of x is less than that of y. -/
def lessC (xa xb ya yb : Int) : Bool := decide ((if xb < 0 then -xa else xa) * (yb.natAbs : Int) < (if yb < 0 then -ya else ya) * (xb.natAbs : Int))
/-- The conditions that decide, as the program keeps them. -/
structure Bnds where
  low : Cnd
  high : Cnd
  never : Cnd
  hl : Bool
  hh : Bool
  hn : Bool
def cnd0 : Cnd := ⟨0, 0, 0, 0, 0, 0⟩
def bnds0 : Bnds := ⟨cnd0, cnd0, cnd0, false, false, false⟩
def takesL (s : Bnds) (c : Cnd) : Bool := decide (0 < c.b) && (!s.hl || lessC s.low.a s.low.b c.a c.b)
def takesH (s : Bnds) (c : Cnd) : Bool := decide (c.b < 0) && (!s.hh || lessC c.a c.b s.high.a s.high.b)
def takesN (s : Bnds) (c : Cnd) : Bool := decide (c.b = 0) && (decide (0 < c.a) && !s.hn)
def bstep (s : Bnds) (c : Cnd) : Bnds :=
  if takesL s c = true then { s with low := c, hl := true }
  else if takesH s c = true then { s with high := c, hh := true }
  else if takesN s c = true then { s with never := c, hn := true } else s
set_option linter.unusedVariables false in
/-- All conditions in their order. -/
def qP (ls lo hi : List Int) (N j k p d : Nat) : List Cnd := (List.range d).map fun i => cnd ls lo hi j k p (p + 1 + i)
def qK (ls lo hi : List Int) (N j k n : Nat) : List Cnd := (List.range n).flatMap fun p => qP ls lo hi N j k p (N - 1 - p)
def qJ (ls lo hi : List Int) (N j n : Nat) : List Cnd := (List.range n).flatMap fun k => qK ls lo hi N j k N
def qAll (ls lo hi : List Int) (N n : Nat) : List Cnd := (List.range n).flatMap fun j => qJ ls lo hi N j j
theorem qP_next (ls lo hi : List Int) (N j k p d : Nat) : qP ls lo hi N j k p (d + 1) = qP ls lo hi N j k p d ++ [cnd ls lo hi j k p (p + 1 + d)] := by simp [qP, List.range_succ]
theorem qK_next (ls lo hi : List Int) (N j k n : Nat) : qK ls lo hi N j k (n + 1) = qK ls lo hi N j k n ++ qP ls lo hi N j k n (N - 1 - n) := by simp [qK, List.range_succ]
theorem qJ_next (ls lo hi : List Int) (N j n : Nat) : qJ ls lo hi N j (n + 1) = qJ ls lo hi N j n ++ qK ls lo hi N j n N := by simp [qJ, List.range_succ]
theorem qAll_next (ls lo hi : List Int) (N n : Nat) : qAll ls lo hi N (n + 1) = qAll ls lo hi N n ++ qJ ls lo hi N n n := by simp [qAll, List.range_succ]
/-- The reference's ranges leave out the last p and the first j: nothing is lost. -/
theorem qK_last (ls lo hi : List Int) (j k N : Nat) (hN : 1 ≤ N) : qK ls lo hi N j k N = qK ls lo hi N j k (N - 1) := by
  obtain ⟨n, rfl⟩ : ∃ n, N = n + 1 := ⟨N - 1, by omega⟩
  rw [qK_next]
  simp [qP]
theorem qAll_one (ls lo hi : List Int) (N : Nat) : qAll ls lo hi N 1 = [] := by
  rw [qAll_next]; rfl
def bfold (l : List Cnd) : Bnds := l.foldl bstep bnds0
theorem bfold_snoc (l : List Cnd) (c : Cnd) : bfold (l ++ [c]) = bstep (bfold l) c := by simp [bfold]
/-- The conditions that decide of an arch. -/
def bfind (ls lo hi : List Int) : Bnds := bfold (qAll ls lo hi lo.length lo.length)
/-- Where the reference keeps them: indexes, or -1. -/
structure Fnd where
  never : Int
  low : Int
  high : Int
def fnd0 : Fnd := ⟨-1, -1, -1⟩
def at0 (l : List Cnd) (i : Int) : Cnd := l.getD i.toNat cnd0
def fstep (l : List Cnd) (s : Fnd) (i : Nat) : Fnd :=
  if (at0 l i).b = 0 then (if 0 < (at0 l i).a ∧ s.never < 0 then { s with never := i } else s)
  else if 0 < (at0 l i).b then (if 0 < (at0 l i).a ∧ (s.low < 0 ∨ lessC (at0 l s.low).a (at0 l s.low).b (at0 l i).a (at0 l i).b = true) then { s with low := i } else s)
  else (if s.high < 0 ∨ lessC (at0 l i).a (at0 l i).b (at0 l s.high).a (at0 l s.high).b = true then { s with high := i } else s)
def ffold (l : List Cnd) (n : Nat) : Fnd := (List.range n).foldl (fstep l) fnd0
theorem ffold_next (l : List Cnd) (n : Nat) : ffold l (n + 1) = fstep l (ffold l n) n := by simp [ffold, List.range_succ]
/-- The reference's indexes point to the program's conditions; but a lower bound that is not positive the reference leaves out. -/
def Alike (l : List Cnd) (n : Nat) (S : Bnds) (F : Fnd) : Prop :=
  ((S.hn = false ∧ F.never = -1) ∨ (S.hn = true ∧ 0 ≤ F.never ∧ F.never < n ∧ at0 l F.never = S.never)) ∧
  ((S.hh = false ∧ F.high = -1) ∨ (S.hh = true ∧ 0 ≤ F.high ∧ F.high < n ∧ at0 l F.high = S.high ∧ S.high.b < 0)) ∧
  ((F.low = -1 ∧ (S.hl = false ∨ (S.hl = true ∧ 0 < S.low.b ∧ S.low.a ≤ 0))) ∨ (S.hl = true ∧ 0 ≤ F.low ∧ F.low < n ∧ at0 l F.low = S.low ∧ 0 < S.low.b ∧ 0 < S.low.a))
theorem less_pos {xa xb ya yb : Int} (hx : 0 < xb) (hy : 0 < yb) : lessC xa xb ya yb = decide (xa * yb < ya * xb) := by
  unfold lessC
  rw [if_neg (by omega), if_neg (by omega)]
  have e1 : (yb.natAbs : Int) = yb := by omega
  have e2 : (xb.natAbs : Int) = xb := by omega
  rw [e1, e2]
theorem less_up {xa xb ya yb : Int} (hx : 0 < xb) (hy : 0 < yb) (h1 : xa ≤ 0) (h2 : 0 < ya) : lessC xa xb ya yb = true := by
  rw [less_pos hx hy]
  have : xa * yb ≤ 0 := Int.mul_nonpos_of_nonpos_of_nonneg h1 (by omega)
  have : 0 < ya * xb := Int.mul_pos h2 hx
  exact decide_eq_true (by omega)
theorem less_down {xa xb ya yb : Int} (hx : 0 < xb) (hy : 0 < yb) (h1 : 0 < xa) (h2 : ya ≤ 0) : lessC xa xb ya yb = false := by
  rw [less_pos hx hy]
  have : 0 < xa * yb := Int.mul_pos h1 hy
  have : ya * xb ≤ 0 := Int.mul_nonpos_of_nonpos_of_nonneg h2 (by omega)
  exact decide_eq_false (by omega)
theorem alike_step {l : List Cnd} {n : Nat} {S : Bnds} {F : Fnd} (h : Alike l n S F) : Alike l (n + 1) (bstep S (at0 l n)) (fstep l F n) := by
  obtain ⟨h1, h2, h3⟩ := h
  have hw1 : (S.hn = false ∧ F.never = -1) ∨ (S.hn = true ∧ 0 ≤ F.never ∧ F.never < (n + 1 : Nat) ∧ at0 l F.never = S.never) := by
    rcases h1 with h1 | ⟨a, b, c, d⟩
    · exact .inl h1
    · exact .inr ⟨a, b, by omega, d⟩
  have hw2 : (S.hh = false ∧ F.high = -1) ∨ (S.hh = true ∧ 0 ≤ F.high ∧ F.high < (n + 1 : Nat) ∧ at0 l F.high = S.high ∧ S.high.b < 0) := by
    rcases h2 with h2 | ⟨a, b, c, d⟩
    · exact .inl h2
    · exact .inr ⟨a, b, by omega, d⟩
  have hw3 : (F.low = -1 ∧ (S.hl = false ∨ (S.hl = true ∧ 0 < S.low.b ∧ S.low.a ≤ 0))) ∨ (S.hl = true ∧ 0 ≤ F.low ∧ F.low < (n + 1 : Nat) ∧ at0 l F.low = S.low ∧ 0 < S.low.b ∧ 0 < S.low.a) := by
    rcases h3 with h3 | ⟨a, b, c, d⟩
    · exact .inl h3
    · exact .inr ⟨a, b, by omega, d⟩
  have e : at0 l (n : Int) = at0 l n := rfl
  rcases Int.lt_trichotomy (at0 l n).b 0 with hb | hb | hb
  · have tl : takesL S (at0 l n) = false := by simp only [takesL, Bool.and_eq_false_iff, decide_eq_false_iff_not]; left; omega
    have tn : takesN S (at0 l n) = false := by simp only [takesN, Bool.and_eq_false_iff, decide_eq_false_iff_not]; left; omega
    have hF : fstep l F n = if F.high < 0 ∨ lessC (at0 l n).a (at0 l n).b (at0 l F.high).a (at0 l F.high).b = true then { F with high := n } else F := by
      unfold fstep; rw [if_neg (by omega), if_neg (by omega)]
    have hS : bstep S (at0 l n) = if takesH S (at0 l n) = true then { S with high := at0 l n, hh := true } else S := by
      unfold bstep; rw [tl, tn]; simp
    have tb : takesH S (at0 l n) = (!S.hh || lessC (at0 l n).a (at0 l n).b S.high.a S.high.b) := by simp [takesH, hb]
    rcases h2 with ⟨a, b⟩ | ⟨a, b, c, d, g⟩
    · have eF := hF.trans (if_pos (Or.inl (by omega)))
      have eS := hS.trans (if_pos (by rw [tb, a]; rfl))
      rw [eF, eS]
      exact ⟨hw1, .inr ⟨rfl, by simp, by simp; omega, rfl, hb⟩, hw3⟩
    · by_cases hc : lessC (at0 l n).a (at0 l n).b S.high.a S.high.b = true
      · have eF := hF.trans (if_pos (Or.inr (by rw [d]; exact hc)))
        have eS := hS.trans (if_pos (by rw [tb, a, hc]; rfl))
        rw [eF, eS]
        exact ⟨hw1, .inr ⟨rfl, by simp, by simp; omega, rfl, hb⟩, hw3⟩
      · have eF := hF.trans (if_neg (by rw [d]; intro h; rcases h with h | h; omega; exact hc h))
        have eS := hS.trans (if_neg (by rw [tb, a]; simpa using hc))
        rw [eF, eS]
        exact ⟨hw1, hw2, hw3⟩
  · have tl : takesL S (at0 l n) = false := by simp only [takesL, Bool.and_eq_false_iff, decide_eq_false_iff_not]; left; omega
    have th : takesH S (at0 l n) = false := by simp only [takesH, Bool.and_eq_false_iff, decide_eq_false_iff_not]; left; omega
    have hF : fstep l F n = if 0 < (at0 l n).a ∧ F.never < 0 then { F with never := n } else F := by
      unfold fstep; rw [if_pos hb]
    have hS : bstep S (at0 l n) = if takesN S (at0 l n) = true then { S with never := at0 l n, hn := true } else S := by
      unfold bstep; rw [tl, th]; simp
    have tb : takesN S (at0 l n) = (decide (0 < (at0 l n).a) && !S.hn) := by simp [takesN, hb]
    by_cases ha : 0 < (at0 l n).a
    · rcases h1 with ⟨a, b⟩ | ⟨a, b, c, d⟩
      · have eF := hF.trans (if_pos ⟨ha, by omega⟩)
        have eS := hS.trans (if_pos (by rw [tb, a, decide_eq_true ha]; rfl))
        rw [eF, eS]
        exact ⟨.inr ⟨rfl, by simp, by simp; omega, rfl⟩, hw2, hw3⟩
      · have eF := hF.trans (if_neg (by omega))
        have eS := hS.trans (if_neg (by rw [tb, a]; simp))
        rw [eF, eS]
        exact ⟨hw1, hw2, hw3⟩
    · have eF := hF.trans (if_neg (by omega))
      have eS := hS.trans (if_neg (by rw [tb, decide_eq_false ha]; simp))
      rw [eF, eS]
      exact ⟨hw1, hw2, hw3⟩
  · have th : takesH S (at0 l n) = false := by simp only [takesH, Bool.and_eq_false_iff, decide_eq_false_iff_not]; left; omega
    have tn : takesN S (at0 l n) = false := by simp only [takesN, Bool.and_eq_false_iff, decide_eq_false_iff_not]; left; omega
    have hF : fstep l F n = if 0 < (at0 l n).a ∧ (F.low < 0 ∨ lessC (at0 l F.low).a (at0 l F.low).b (at0 l n).a (at0 l n).b = true) then { F with low := n } else F := by
      unfold fstep; rw [if_neg (by omega), if_pos hb]
    have hS : bstep S (at0 l n) = if takesL S (at0 l n) = true then { S with low := at0 l n, hl := true } else S := by
      unfold bstep; rw [th, tn]; simp
    have tb : takesL S (at0 l n) = (!S.hl || lessC S.low.a S.low.b (at0 l n).a (at0 l n).b) := by simp [takesL, hb]
    by_cases ha : 0 < (at0 l n).a
    · rcases h3 with ⟨a, b⟩ | ⟨a, b, c, d, g1, g2⟩
      · have ht : (!S.hl || lessC S.low.a S.low.b (at0 l n).a (at0 l n).b) = true := by
          rcases b with b | ⟨b1, b2, b3⟩
          · simp [b]
          · rw [less_up b2 hb b3 ha]; simp
        have eF := hF.trans (if_pos ⟨ha, .inl (by omega)⟩)
        have eS := hS.trans (if_pos (tb.trans ht))
        rw [eF, eS]
        exact ⟨hw1, hw2, .inr ⟨rfl, by simp, by simp; omega, rfl, hb, ha⟩⟩
      · by_cases hc : lessC S.low.a S.low.b (at0 l n).a (at0 l n).b = true
        · have eF := hF.trans (if_pos ⟨ha, .inr (by rw [d]; exact hc)⟩)
          have eS := hS.trans (if_pos (by rw [tb, a, hc]; rfl))
          rw [eF, eS]
          exact ⟨hw1, hw2, .inr ⟨rfl, by simp, by simp; omega, rfl, hb, ha⟩⟩
        · have eF := hF.trans (if_neg (by rw [d]; intro h; rcases h.2 with h | h; omega; exact hc h))
          have eS := hS.trans (if_neg (by rw [tb, a]; simpa using hc))
          rw [eF, eS]
          exact ⟨hw1, hw2, hw3⟩
    · have eF := hF.trans (if_neg (by omega))
      rw [eF]
      rcases h3 with ⟨a, b⟩ | ⟨a, b, c, d, g1, g2⟩
      · by_cases ht : (!S.hl || lessC S.low.a S.low.b (at0 l n).a (at0 l n).b) = true
        · rw [hS.trans (if_pos (tb.trans ht))]
          exact ⟨hw1, hw2, .inl ⟨a, .inr ⟨rfl, hb, by show (at0 l n).a ≤ 0; omega⟩⟩⟩
        · rw [hS.trans (if_neg (by rw [tb]; exact ht))]
          exact ⟨hw1, hw2, hw3⟩
      · rw [hS.trans (if_neg (by rw [tb, a, less_down g1 hb g2 (by omega)]; simp))]
        exact ⟨hw1, hw2, hw3⟩
theorem alike_all (l : List Cnd) (n : Nat) (hn : n ≤ l.length) : Alike l n (bfold (l.take n)) (ffold l n) := by
  induction n with
  | zero => exact ⟨.inl ⟨rfl, rfl⟩, .inl ⟨rfl, rfl⟩, .inl ⟨rfl, .inl rfl⟩⟩
  | succ n ih =>
    have e : at0 l n = l[n]'(by omega) := by simp [at0, List.getD_eq_getElem?_getD, show n < l.length by omega]
    rw [List.take_succ_eq_append_getElem (by omega), bfold_snoc, ffold_next, ← e]
    exact alike_step (ih (by omega))
/-- Whether some positive s fulfils all conditions. -/
def standB (S : Bnds) : Bool := !S.hn && (!S.hh || decide (S.high.a < 0)) && !(S.hl && S.hh && lessC S.high.a S.high.b S.low.a S.low.b)
end Go.Proofs.Ytklhaanapembdaa
