/- The plain law of the thrust of an arch: moments, conditions of four joints, the fold over all conditions by the program and by the reference, and that both come to the same; no program in sight, no condition. -/
import Derived.Test.YtklhaanapembdaaM01
import Derived.Test.YtklhaanapembdaaBase

namespace Go.Proofs.Ytklhaanapembdaa

/-- The first i terms of the moment at joint k. -/
def momS (ls : List Int) (k : Nat) : Nat → Int
  | 0 => 0
  | i + 1 => momS ls k i + ls.getD i 0 * (2 * (k : Int) - 2 * (i : Int) - 1)
def momAt (ls : List Int) (k : Nat) : Int := momS ls k k
def moms (ls : List Int) (n : Nat) : List Int := (List.range n).map (momAt ls)
theorem moms_len (ls : List Int) (n : Nat) : (moms ls n).length = n := by simp [moms]
theorem moms_next (ls : List Int) (n : Nat) : moms ls (n + 1) = moms ls n ++ [momAt ls n] := by simp [moms, List.range_succ]
theorem moms_get (ls : List Int) (n i : Nat) (h : i < n) : (moms ls n).getD i 0 = momAt ls i := by simp [moms, List.getD_eq_getElem?_getD, h]
theorem momS_bd {ls : List Int} {k : Nat} (hk : k ≤ 10) (h : ∀ i, i < ls.length → 1 ≤ ls.getD i 0 ∧ ls.getD i 0 ≤ 1000) (hl : k ≤ ls.length) (i : Nat) (hi : i ≤ k) : 0 ≤ momS ls k i ∧ momS ls k i ≤ (i : Int) * 19000 := by
  induction i with
  | zero => simp [momS]
  | succ i ih =>
    obtain ⟨e1, e2⟩ := ih (by omega)
    obtain ⟨g1, g2⟩ := h i (by omega)
    obtain ⟨m1, m2⟩ := mul_bd (a := ls.getD i 0) (b := 2 * (k : Int) - 2 * (i : Int) - 1) (A := 1000) (B := 19) (by omega) g2 (by omega) (by omega)
    simp only [momS]
    omega
theorem momAt_bd {ls : List Int} {k : Nat} (hk : k ≤ 10) (h : ∀ i, i < ls.length → 1 ≤ ls.getD i 0 ∧ ls.getD i 0 ≤ 1000) (hl : k ≤ ls.length) : 0 ≤ momAt ls k ∧ momAt ls k ≤ 190000 := by
  have := momS_bd hk h hl k (Nat.le_refl _)
  unfold momAt
  omega
/-- No low is above its high. -/
def leB (lo hi : List Int) : Bool := (List.range lo.length).all fun k => decide (lo.getD k 0 ≤ hi.getD k 0)
theorem leB_t {lo hi : List Int} (h : leB lo hi = true) (k : Nat) (hk : k < lo.length) : lo.getD k 0 ≤ hi.getD k 0 := by
  have := List.all_eq_true.1 h k (by simpa using hk)
  simpa using this
theorem leB_mk {lo hi : List Int} (h : ∀ k, k < lo.length → lo.getD k 0 ≤ hi.getD k 0) : leB lo hi = true := by
  refine List.all_eq_true.2 fun k hk => ?_
  simpa using h k (by simpa using hk)
theorem leB_no {lo hi : List Int} {k : Nat} (hk : k < lo.length) (h : ¬ lo.getD k 0 ≤ hi.getD k 0) : leB lo hi = false := by
  cases e : leB lo hi
  · rfl
  · exact absurd (leB_t e k hk) h
/-- Valid blocks. -/
def blkB (ls lo hi : List Int) : Bool :=
  inB ls.length 2 10 && insB ls 1 1000 && decide (lo.length = ls.length + 1) && decide (hi.length = ls.length + 1) && insB lo (-1000) 1000 && insB hi (-1000) 1000 && leB lo hi
theorem blkB_t {ls lo hi : List Int} (h : blkB ls lo hi = true) :
    2 ≤ ls.length ∧ ls.length ≤ 10 ∧ (∀ i, i < ls.length → 1 ≤ ls.getD i 0 ∧ ls.getD i 0 ≤ 1000) ∧ lo.length = ls.length + 1 ∧ hi.length = ls.length + 1 ∧
    (∀ i, i < ls.length + 1 → -1000 ≤ lo.getD i 0 ∧ lo.getD i 0 ≤ 1000) ∧ (∀ i, i < ls.length + 1 → -1000 ≤ hi.getD i 0 ∧ hi.getD i 0 ≤ 1000) ∧ (∀ i, i < ls.length + 1 → lo.getD i 0 ≤ hi.getD i 0) := by
  simp only [blkB, Bool.and_eq_true, decide_eq_true_eq] at h
  obtain ⟨⟨⟨⟨⟨⟨h1, h2⟩, h3⟩, h4⟩, h5⟩, h6⟩, h7⟩ := h
  have := inB_t h1
  exact ⟨by omega, by omega, insB_t h2, h3, h4, fun i hi => insB_t h5 i (by omega), fun i hi => insB_t h6 i (by omega), fun i hi => leB_t h7 i (by omega)⟩
/-- A condition a ≤ s * b of four joints. -/
structure Cnd where
  j : Int
  k : Int
  p : Int
  q : Int
  a : Int
  b : Int
def cA (lo hi : List Int) (j k p q : Nat) : Int := (lo.getD j 0 - hi.getD k 0) * ((q : Int) - p) - (hi.getD q 0 - lo.getD p 0) * ((j : Int) - k)
def cB (m : Nat → Int) (j k p q : Nat) : Int := (m q - m p) * ((j : Int) - k) - (m j - m k) * ((q : Int) - p)
def cnd (ls lo hi : List Int) (j k p q : Nat) : Cnd := ⟨j, k, p, q, cA lo hi j k p q, cB (momAt ls) j k p q⟩
theorem prod_bd {x y A B : Int} (h1 : -A ≤ x) (h2 : x ≤ A) (h3 : 0 ≤ y) (h4 : y ≤ B) (hA : 0 ≤ A) : -(A * B) ≤ x * y ∧ x * y ≤ A * B := by
  by_cases h : 0 ≤ x
  · have := mul_bd h h2 h3 h4
    have h0 : 0 ≤ A * B := Int.mul_nonneg hA (by omega)
    omega
  · have := mul_bd (a := -x) (b := y) (A := A) (B := B) (by omega) (by omega) h3 h4
    rw [Int.neg_mul] at this
    have h0 : 0 ≤ A * B := Int.mul_nonneg hA (by omega)
    omega
/-- Bounds of a condition's numbers: two limbs each. -/
theorem limb_bd {x y A : Int} (h1 : -A ≤ x) (h2 : x ≤ A) (h3 : 0 ≤ y) (h4 : y ≤ 10) (hA : 0 ≤ A) : -(A * 10) ≤ x * y ∧ x * y ≤ A * 10 := prod_bd h1 h2 h3 h4 hA
/-- The bound of x is less than that of y. -/
def lessC (xa xb ya yb : Int) : Bool := decide ((if xb < 0 then -xa else xa) * (yb.natAbs : Int) < (if yb < 0 then -ya else ya) * (xb.natAbs : Int))
/-- The conditions that decide, as the program keeps them. -/
structure Bnds where
  low : Cnd
  high : Cnd
  never : Cnd
  hl : Bool
  hh : Bool
  hn : Bool
def cnd0 : Cnd := ⟨0, 0, 0, 0, 0, 0⟩
def bnds0 : Bnds := ⟨cnd0, cnd0, cnd0, false, false, false⟩
def takesL (s : Bnds) (c : Cnd) : Bool := decide (0 < c.b) && (!s.hl || lessC s.low.a s.low.b c.a c.b)
def takesH (s : Bnds) (c : Cnd) : Bool := decide (c.b < 0) && (!s.hh || lessC c.a c.b s.high.a s.high.b)
def takesN (s : Bnds) (c : Cnd) : Bool := decide (c.b = 0) && (decide (0 < c.a) && !s.hn)
def bstep (s : Bnds) (c : Cnd) : Bnds :=
  if takesL s c = true then { s with low := c, hl := true }
  else if takesH s c = true then { s with high := c, hh := true }
  else if takesN s c = true then { s with never := c, hn := true } else s
set_option linter.unusedVariables false in
/-- All conditions in their order. -/
def qP (ls lo hi : List Int) (N j k p d : Nat) : List Cnd := (List.range d).map fun i => cnd ls lo hi j k p (p + 1 + i)
def qK (ls lo hi : List Int) (N j k n : Nat) : List Cnd := (List.range n).flatMap fun p => qP ls lo hi N j k p (N - 1 - p)
def qJ (ls lo hi : List Int) (N j n : Nat) : List Cnd := (List.range n).flatMap fun k => qK ls lo hi N j k N
def qAll (ls lo hi : List Int) (N n : Nat) : List Cnd := (List.range n).flatMap fun j => qJ ls lo hi N j j
theorem qP_next (ls lo hi : List Int) (N j k p d : Nat) : qP ls lo hi N j k p (d + 1) = qP ls lo hi N j k p d ++ [cnd ls lo hi j k p (p + 1 + d)] := by simp [qP, List.range_succ]
theorem qK_next (ls lo hi : List Int) (N j k n : Nat) : qK ls lo hi N j k (n + 1) = qK ls lo hi N j k n ++ qP ls lo hi N j k n (N - 1 - n) := by simp [qK, List.range_succ]
theorem qJ_next (ls lo hi : List Int) (N j n : Nat) : qJ ls lo hi N j (n + 1) = qJ ls lo hi N j n ++ qK ls lo hi N j n N := by simp [qJ, List.range_succ]
theorem qAll_next (ls lo hi : List Int) (N n : Nat) : qAll ls lo hi N (n + 1) = qAll ls lo hi N n ++ qJ ls lo hi N n n := by simp [qAll, List.range_succ]
/-- The reference's ranges leave out the last p and the first j: nothing is lost. -/
theorem qK_last (ls lo hi : List Int) (j k N : Nat) (hN : 1 ≤ N) : qK ls lo hi N j k N = qK ls lo hi N j k (N - 1) := by
  obtain ⟨n, rfl⟩ : ∃ n, N = n + 1 := ⟨N - 1, by omega⟩
  rw [qK_next]
  simp [qP]
theorem qAll_one (ls lo hi : List Int) (N : Nat) : qAll ls lo hi N 1 = [] := by
  rw [qAll_next]; rfl
def bfold (l : List Cnd) : Bnds := l.foldl bstep bnds0
theorem bfold_snoc (l : List Cnd) (c : Cnd) : bfold (l ++ [c]) = bstep (bfold l) c := by simp [bfold]
/-- The conditions that decide of an arch. -/
def bfind (ls lo hi : List Int) : Bnds := bfold (qAll ls lo hi lo.length lo.length)
/-- Where the reference keeps them: indexes, or -1. -/
structure Fnd where
  never : Int
  low : Int
  high : Int
def fnd0 : Fnd := ⟨-1, -1, -1⟩
def at0 (l : List Cnd) (i : Int) : Cnd := l.getD i.toNat cnd0
def fstep (l : List Cnd) (s : Fnd) (i : Nat) : Fnd :=
  if (at0 l i).b = 0 then (if 0 < (at0 l i).a ∧ s.never < 0 then { s with never := i } else s)
  else if 0 < (at0 l i).b then (if 0 < (at0 l i).a ∧ (s.low < 0 ∨ lessC (at0 l s.low).a (at0 l s.low).b (at0 l i).a (at0 l i).b = true) then { s with low := i } else s)
  else (if s.high < 0 ∨ lessC (at0 l i).a (at0 l i).b (at0 l s.high).a (at0 l s.high).b = true then { s with high := i } else s)
def ffold (l : List Cnd) (n : Nat) : Fnd := (List.range n).foldl (fstep l) fnd0
theorem ffold_next (l : List Cnd) (n : Nat) : ffold l (n + 1) = fstep l (ffold l n) n := by simp [ffold, List.range_succ]
/-- The reference's indexes point to the program's conditions; but a lower bound that is not positive the reference leaves out. -/
def Alike (l : List Cnd) (n : Nat) (S : Bnds) (F : Fnd) : Prop :=
  ((S.hn = false ∧ F.never = -1) ∨ (S.hn = true ∧ 0 ≤ F.never ∧ F.never < n ∧ at0 l F.never = S.never)) ∧
  ((S.hh = false ∧ F.high = -1) ∨ (S.hh = true ∧ 0 ≤ F.high ∧ F.high < n ∧ at0 l F.high = S.high ∧ S.high.b < 0)) ∧
  ((F.low = -1 ∧ (S.hl = false ∨ (S.hl = true ∧ 0 < S.low.b ∧ S.low.a ≤ 0))) ∨ (S.hl = true ∧ 0 ≤ F.low ∧ F.low < n ∧ at0 l F.low = S.low ∧ 0 < S.low.b ∧ 0 < S.low.a))
theorem less_pos {xa xb ya yb : Int} (hx : 0 < xb) (hy : 0 < yb) : lessC xa xb ya yb = decide (xa * yb < ya * xb) := by
  unfold lessC
  rw [if_neg (by omega), if_neg (by omega)]
  have e1 : (yb.natAbs : Int) = yb := by omega
  have e2 : (xb.natAbs : Int) = xb := by omega
  rw [e1, e2]
theorem less_up {xa xb ya yb : Int} (hx : 0 < xb) (hy : 0 < yb) (h1 : xa ≤ 0) (h2 : 0 < ya) : lessC xa xb ya yb = true := by
  rw [less_pos hx hy]
  have : xa * yb ≤ 0 := Int.mul_nonpos_of_nonpos_of_nonneg h1 (by omega)
  have : 0 < ya * xb := Int.mul_pos h2 hx
  exact decide_eq_true (by omega)
theorem less_down {xa xb ya yb : Int} (hx : 0 < xb) (hy : 0 < yb) (h1 : 0 < xa) (h2 : ya ≤ 0) : lessC xa xb ya yb = false := by
  rw [less_pos hx hy]
  have : 0 < xa * yb := Int.mul_pos h1 hy
  have : ya * xb ≤ 0 := Int.mul_nonpos_of_nonpos_of_nonneg h2 (by omega)
  exact decide_eq_false (by omega)
theorem alike_step {l : List Cnd} {n : Nat} {S : Bnds} {F : Fnd} (h : Alike l n S F) : Alike l (n + 1) (bstep S (at0 l n)) (fstep l F n) := by
  obtain ⟨h1, h2, h3⟩ := h
  have hw1 : (S.hn = false ∧ F.never = -1) ∨ (S.hn = true ∧ 0 ≤ F.never ∧ F.never < (n + 1 : Nat) ∧ at0 l F.never = S.never) := by
    rcases h1 with h1 | ⟨a, b, c, d⟩
    · exact .inl h1
    · exact .inr ⟨a, b, by omega, d⟩
  have hw2 : (S.hh = false ∧ F.high = -1) ∨ (S.hh = true ∧ 0 ≤ F.high ∧ F.high < (n + 1 : Nat) ∧ at0 l F.high = S.high ∧ S.high.b < 0) := by
    rcases h2 with h2 | ⟨a, b, c, d⟩
    · exact .inl h2
    · exact .inr ⟨a, b, by omega, d⟩
  have hw3 : (F.low = -1 ∧ (S.hl = false ∨ (S.hl = true ∧ 0 < S.low.b ∧ S.low.a ≤ 0))) ∨ (S.hl = true ∧ 0 ≤ F.low ∧ F.low < (n + 1 : Nat) ∧ at0 l F.low = S.low ∧ 0 < S.low.b ∧ 0 < S.low.a) := by
    rcases h3 with h3 | ⟨a, b, c, d⟩
    · exact .inl h3
    · exact .inr ⟨a, b, by omega, d⟩
  have e : at0 l (n : Int) = at0 l n := rfl
  rcases Int.lt_trichotomy (at0 l n).b 0 with hb | hb | hb
  · have tl : takesL S (at0 l n) = false := by simp only [takesL, Bool.and_eq_false_iff, decide_eq_false_iff_not]; left; omega
    have tn : takesN S (at0 l n) = false := by simp only [takesN, Bool.and_eq_false_iff, decide_eq_false_iff_not]; left; omega
    have hF : fstep l F n = if F.high < 0 ∨ lessC (at0 l n).a (at0 l n).b (at0 l F.high).a (at0 l F.high).b = true then { F with high := n } else F := by
      unfold fstep; rw [if_neg (by omega), if_neg (by omega)]
    have hS : bstep S (at0 l n) = if takesH S (at0 l n) = true then { S with high := at0 l n, hh := true } else S := by
      unfold bstep; rw [tl, tn]; simp
    have tb : takesH S (at0 l n) = (!S.hh || lessC (at0 l n).a (at0 l n).b S.high.a S.high.b) := by simp [takesH, hb]
    rcases h2 with ⟨a, b⟩ | ⟨a, b, c, d, g⟩
    · have eF := hF.trans (if_pos (Or.inl (by omega)))
      have eS := hS.trans (if_pos (by rw [tb, a]; rfl))
      rw [eF, eS]
      exact ⟨hw1, .inr ⟨rfl, by simp, by simp; omega, rfl, hb⟩, hw3⟩
    · by_cases hc : lessC (at0 l n).a (at0 l n).b S.high.a S.high.b = true
      · have eF := hF.trans (if_pos (Or.inr (by rw [d]; exact hc)))
        have eS := hS.trans (if_pos (by rw [tb, a, hc]; rfl))
        rw [eF, eS]
        exact ⟨hw1, .inr ⟨rfl, by simp, by simp; omega, rfl, hb⟩, hw3⟩
      · have eF := hF.trans (if_neg (by rw [d]; intro h; rcases h with h | h; omega; exact hc h))
        have eS := hS.trans (if_neg (by rw [tb, a]; simpa using hc))
        rw [eF, eS]
        exact ⟨hw1, hw2, hw3⟩
  · have tl : takesL S (at0 l n) = false := by simp only [takesL, Bool.and_eq_false_iff, decide_eq_false_iff_not]; left; omega
    have th : takesH S (at0 l n) = false := by simp only [takesH, Bool.and_eq_false_iff, decide_eq_false_iff_not]; left; omega
    have hF : fstep l F n = if 0 < (at0 l n).a ∧ F.never < 0 then { F with never := n } else F := by
      unfold fstep; rw [if_pos hb]
    have hS : bstep S (at0 l n) = if takesN S (at0 l n) = true then { S with never := at0 l n, hn := true } else S := by
      unfold bstep; rw [tl, th]; simp
    have tb : takesN S (at0 l n) = (decide (0 < (at0 l n).a) && !S.hn) := by simp [takesN, hb]
    by_cases ha : 0 < (at0 l n).a
    · rcases h1 with ⟨a, b⟩ | ⟨a, b, c, d⟩
      · have eF := hF.trans (if_pos ⟨ha, by omega⟩)
        have eS := hS.trans (if_pos (by rw [tb, a, decide_eq_true ha]; rfl))
        rw [eF, eS]
        exact ⟨.inr ⟨rfl, by simp, by simp; omega, rfl⟩, hw2, hw3⟩
      · have eF := hF.trans (if_neg (by omega))
        have eS := hS.trans (if_neg (by rw [tb, a]; simp))
        rw [eF, eS]
        exact ⟨hw1, hw2, hw3⟩
    · have eF := hF.trans (if_neg (by omega))
      have eS := hS.trans (if_neg (by rw [tb, decide_eq_false ha]; simp))
      rw [eF, eS]
      exact ⟨hw1, hw2, hw3⟩
  · have th : takesH S (at0 l n) = false := by simp only [takesH, Bool.and_eq_false_iff, decide_eq_false_iff_not]; left; omega
    have tn : takesN S (at0 l n) = false := by simp only [takesN, Bool.and_eq_false_iff, decide_eq_false_iff_not]; left; omega
    have hF : fstep l F n = if 0 < (at0 l n).a ∧ (F.low < 0 ∨ lessC (at0 l F.low).a (at0 l F.low).b (at0 l n).a (at0 l n).b = true) then { F with low := n } else F := by
      unfold fstep; rw [if_neg (by omega), if_pos hb]
    have hS : bstep S (at0 l n) = if takesL S (at0 l n) = true then { S with low := at0 l n, hl := true } else S := by
      unfold bstep; rw [th, tn]; simp
    have tb : takesL S (at0 l n) = (!S.hl || lessC S.low.a S.low.b (at0 l n).a (at0 l n).b) := by simp [takesL, hb]
    by_cases ha : 0 < (at0 l n).a
    · rcases h3 with ⟨a, b⟩ | ⟨a, b, c, d, g1, g2⟩
      · have ht : (!S.hl || lessC S.low.a S.low.b (at0 l n).a (at0 l n).b) = true := by
          rcases b with b | ⟨b1, b2, b3⟩
          · simp [b]
          · rw [less_up b2 hb b3 ha]; simp
        have eF := hF.trans (if_pos ⟨ha, .inl (by omega)⟩)
        have eS := hS.trans (if_pos (tb.trans ht))
        rw [eF, eS]
        exact ⟨hw1, hw2, .inr ⟨rfl, by simp, by simp; omega, rfl, hb, ha⟩⟩
      · by_cases hc : lessC S.low.a S.low.b (at0 l n).a (at0 l n).b = true
        · have eF := hF.trans (if_pos ⟨ha, .inr (by rw [d]; exact hc)⟩)
          have eS := hS.trans (if_pos (by rw [tb, a, hc]; rfl))
          rw [eF, eS]
          exact ⟨hw1, hw2, .inr ⟨rfl, by simp, by simp; omega, rfl, hb, ha⟩⟩
        · have eF := hF.trans (if_neg (by rw [d]; intro h; rcases h.2 with h | h; omega; exact hc h))
          have eS := hS.trans (if_neg (by rw [tb, a]; simpa using hc))
          rw [eF, eS]
          exact ⟨hw1, hw2, hw3⟩
    · have eF := hF.trans (if_neg (by omega))
      rw [eF]
      rcases h3 with ⟨a, b⟩ | ⟨a, b, c, d, g1, g2⟩
      · by_cases ht : (!S.hl || lessC S.low.a S.low.b (at0 l n).a (at0 l n).b) = true
        · rw [hS.trans (if_pos (tb.trans ht))]
          exact ⟨hw1, hw2, .inl ⟨a, .inr ⟨rfl, hb, by show (at0 l n).a ≤ 0; omega⟩⟩⟩
        · rw [hS.trans (if_neg (by rw [tb]; exact ht))]
          exact ⟨hw1, hw2, hw3⟩
      · rw [hS.trans (if_neg (by rw [tb, a, less_down g1 hb g2 (by omega)]; simp))]
        exact ⟨hw1, hw2, hw3⟩
theorem alike_all (l : List Cnd) (n : Nat) (hn : n ≤ l.length) : Alike l n (bfold (l.take n)) (ffold l n) := by
  induction n with
  | zero => exact ⟨.inl ⟨rfl, rfl⟩, .inl ⟨rfl, rfl⟩, .inl ⟨rfl, .inl rfl⟩⟩
  | succ n ih =>
    have e : at0 l n = l[n]'(by omega) := by simp [at0, List.getD_eq_getElem?_getD, show n < l.length by omega]
    rw [List.take_succ_eq_append_getElem (by omega), bfold_snoc, ffold_next, ← e]
    exact alike_step (ih (by omega))
/-- Whether some positive s fulfils all conditions. -/
def standB (S : Bnds) : Bool := !S.hn && (!S.hh || decide (S.high.a < 0)) && !(S.hl && S.hh && lessC S.high.a S.high.b S.low.a S.low.b)
end Go.Proofs.Ytklhaanapembdaa
/- Contracts of the laws' own functions on slices of int64 (toInt64S, eqInt64S, markInt64S, heldInt64S): what each call returns and which memory turns; conditions: the slices can be read, and are no longer than 2^20 where one is made. -/
namespace Go.Proofs.Ytklhaanapembdaa
open Go.RowKit

/-- Integers as a row of cells. -/
def ints (zs : List Int) : Array Value := (zs.map (Value.int .i64)).toArray
theorem ints_get (zs : List Int) (i : Nat) : (ints zs)[i]? = zs[i]?.map (Value.int .i64) := by simp [ints]
theorem ints_size (zs : List Int) : (ints zs).size = zs.length := by simp [ints]
theorem ints_set (zs : List Int) (i : Nat) (n : Int) : (ints zs).setIfInBounds i (.int .i64 n) = ints (zs.set i n) := by
  simp [ints, List.map_set]
theorem made_ints (n : Nat) : madeCells (Value.int .i64 0).cells n = ints (List.replicate n 0) := by
  apply Array.ext
  · simp [madeCells, ints]
  · intro i h1 h2
    simp [madeCells, ints, Value.cells, Nat.mod_one]
/-- A slice of integers of the call's own. -/
def OwnI (w : World) (base : Nat) (v : Value) (zs : List Int) : Prop := w.ownsRow base 2 1 v zs.length (zs.map (Value.int .i64))
theorem OwnI.row {w : World} {base : Nat} {a : Option Addr} {n c : Nat} {zs : List Int} (h : OwnI w base (.slice a n c) zs) : IsRow .i64 w a n c zs := by
  obtain ⟨_, h⟩ := h
  rcases h with ⟨hv, hn⟩ | ⟨g, cap, cur, hv, hb, hh, hnc, hm, hs, ht⟩
  · injection hv with h1 h2 h3
    subst h1 h2 h3
    have : zs = [] := by simpa using hn
    subst this
    exact isRow_nil
  · injection hv with h1 h2 h3
    subst h1 h2 h3
    refine ⟨rfl, hnc, hm, (fun hk => by cases hk), fun _ => ⟨g, 0, rfl, blk_lt hh, fun i n hi => ?_⟩⟩
    rw [Nat.zero_add, cellOf hh]
    have e : (cur.toList.take (zs.length * 1))[i]? = some (Value.int .i64 n) := by rw [ht]; simp [hi]
    rw [List.getElem?_take] at e
    split at e
    · simpa using e
    · cases e
theorem ownI_made {w : World} {base g : Nat} {zs : List Int} (h : w.heap[g]? = some (.cells (ints zs) 2 (0, 0))) (hb : base ≤ g) (hm : zs.length ≤ maxLen) : OwnI w base (.slice (some ⟨g, 0, none⟩) zs.length zs.length) zs :=
  ⟨by simp, .inr ⟨g, _, _, rfl, hb, h, Nat.le_refl _, hm, by simp [ints], by simp only [ints, Nat.mul_one]; exact List.take_of_length_le (by simp)⟩⟩

theorem info_i64 : (Try.prog.info? 2).map (fun i => (i.zero, i.size, i.bytes)) = some (some (.int .i64 0), 1, 8) := by kernel_rfl
theorem make_i64 (n : Nat) (hn : n ≤ 1048576) (W : World) : (Instr.makeSlice 24 (.int .i64 (n : Int)) (.int .i64 (n : Int))).run Try.prog W = .ok (.slice (some ⟨W.heap.size, 0, none⟩) n n) (W.alloc (.cells (ints (List.replicate n 0)) 2)) := by
  obtain ⟨i, hi, hz, hs, hb⟩ := info_parts info_i64
  have hr := run_make (P := Try.prog) W 24 2 i (.int .i64 0) Try.underlying24 hi hz .i64 .i64 n n (by omega) (Int.le_refl _) (by rw [hb]; omega) (by omega)
  rw [hs] at hr
  simp only [Int.toNat_natCast, Nat.mul_one, made_ints] at hr
  exact hr
/-- What a copy holds behind k rounds. -/
def part (zs : List Int) (k : Nat) : Array Value := ints (zs.take k ++ List.replicate (zs.length - k) 0)
theorem part_zero (zs : List Int) : part zs 0 = ints (List.replicate zs.length 0) := by simp [part]
theorem part_all (zs : List Int) : part zs zs.length = ints zs := by simp [part]
theorem part_get (zs : List Int) (k : Nat) (h : k < zs.length) : (part zs k)[k]? = some (.int .i64 0) := by
  unfold part; rw [ints_get, List.getElem?_append_right (by simp; omega)]
  simp [List.getElem?_replicate]; omega
theorem part_next (zs : List Int) (k : Nat) (h : k < zs.length) : (part zs k).setIfInBounds k (.int .i64 (zs.getD k 0)) = part zs (k + 1) := by
  unfold part; rw [ints_set]
  congr 1
  rw [List.set_append_right _ _ (by simp; omega)]
  have e1 : k - (List.take k zs).length = 0 := by simp; omega
  have e2 : zs.length - k = (zs.length - (k + 1)) + 1 := by omega
  rw [e1, e2, List.replicate_succ, List.set_cons_zero, List.take_succ_eq_append_getElem h, List.append_assoc]
  simp [List.getD_eq_getElem?_getD, h]
set_option maxHeartbeats 1000000 in
theorem toInt64S_any (a : Option Addr) (len cap : Nat) (zs : List Int) (w : World) (h : IsRow .i64 w a len cap zs) (hlen : len ≤ 1048576) :
    Calls Try.prog 51 #[.slice a len cap] w fun e w' => e = .returned (.slice (some ⟨w.heap.size, 0, none⟩) len len) ∧ w.alloc (.cells (ints zs) 2) = w' := by
  have hm := make_i64 len hlen
  have hl := h.1
  have H := Lib.hid h
  have HL := Lib.hid hl
  clear h hl
  go_enter Try.func51, Try.ntmps51
  go_wp2
  clear hm
  go_loopw [4] (fun i wr => ∃ k : Nat, k ≤ len ∧ i = .int .i64 (k : Int) ∧ wr = w.alloc (.cells (part zs k) 2)) (fun i _ => (len - intOf i).toNat)
  case atStart => exact ⟨0, by omega, rfl, by rw [part_zero, HL.out]⟩
  case round =>
    obtain ⟨k, hk, rfl, rfl⟩ := hrel
    by_cases hlt : k < len
    · obtain ⟨b, o, rfl, hb, hc⟩ := H.out.cell hlt
      have hp := part_get zs k (by rw [HL.out]; exact hlt)
      have HN := Lib.hid (part_next zs k (by rw [HL.out]; exact hlt))
      have hne : b ≠ w.heap.size := by omega
      generalize zs.getD k 0 = x at *
      generalize part zs k = C at *
      go_wp2
      go_roundw
      case rel => exact ⟨k + 1, by omega, by go_num, by rw [HN.out]⟩
      case measure => simp [intOf]; omega
    · obtain rfl : k = len := by omega
      have HA := Lib.hid (part_all zs)
      rw [HL.out] at HA
      go_wp2
      go_ret
      exact ⟨rfl, by rw [HA.out]⟩
set_option maxHeartbeats 2000000 in
theorem eqInt64S_same (a a' : Option Addr) (len cap cap' : Nat) (zs : List Int) (w : World) (h : IsRow .i64 w a len cap zs) (h' : IsRow .i64 w a' len cap' zs) :
    Calls Try.prog 47 #[.slice a len cap, .slice a' len cap'] w fun e w' => e = .returned (.bool true) ∧ Below w.heap.size w w' := by
  have hm : len ≤ maxLen := Nat.le_trans h.2.1 h.2.2.1
  unfold maxLen at hm
  have H := Lib.hid h
  have H' := Lib.hid h'
  clear h h'
  go_enter Try.func47, Try.ntmps47
  go_wp2
  go_loopw [5] (fun i wr => ∃ k : Nat, k ≤ len ∧ i = .int .i64 (k : Int) ∧ Below w.heap.size w wr) (fun i _ => (len - intOf i).toNat)
  case atStart => exact ⟨0, by omega, rfl, Below.refl _ _⟩
  case round =>
    obtain ⟨k, hk, rfl, hB⟩ := hrel
    by_cases hlt : k < len
    · obtain ⟨b, o, rfl, hb, hc⟩ := (H.out.below hB).cell hlt
      obtain ⟨b', o', rfl, hb', hc'⟩ := (H'.out.below hB).cell hlt
      generalize zs.getD k 0 = x at *
      have hlt' : (k : Int) < (len : Int) := by omega
      go_wp2
      go_quiet (fail)
      go_wp2
      go_roundw
      case rel => exact ⟨k + 1, by omega, by go_num, below_drewN hB _⟩
      case measure => simp [intOf]; omega
    · go_wp2
      go_ret
      exact ⟨rfl, hB⟩
/-- The marks k0, k0 + 1, .. -/
def marks (k0 : Int) (n : Nat) : List Int := (List.range n).map fun i => k0 + (i : Nat)
theorem marks_len (k0 : Int) (n : Nat) : (marks k0 n).length = n := by simp [marks]
theorem marks_get (k0 : Int) (n i : Nat) (h : i < n) : (marks k0 n).getD i 0 = k0 + i := by simp [marks, List.getD_eq_getElem?_getD, h]
theorem marks_step (k0 : Int) (zs : List Int) (k : Nat) (h : k < zs.length) : (marks k0 k ++ zs.drop k).set k (k0 + k) = marks k0 (k + 1) ++ zs.drop (k + 1) := by
  rw [List.set_append_right _ _ (by rw [marks_len]; omega), marks_len, Nat.sub_self, List.drop_eq_getElem_cons h, List.set_cons_zero]
  simp [marks, List.range_succ]
theorem OwnI.grown {w w' : World} {base g : Nat} {v : Value} {zs : List Int} (h : OwnI w base v zs) (hg : w.grownBy w' (some g)) (hne : v.ownBlock ≠ some g) : OwnI w' base v zs := h.kept hg (.inr hne)
theorem OwnI.below {w w' : World} {base : Nat} {v : Value} {zs : List Int} (h : OwnI w base v zs) (hb : Below w.heap.size w w') : OwnI w' base v zs := by
  refine World.ownsRow.kept (row := none) h ⟨hb.os, hb.tape, hb.output, hb.size, fun k hk _ => hb.block k hk⟩ ?_
  rcases h.2 with ⟨rfl, _⟩ | ⟨g, _, _, rfl, _⟩
  · exact .inl rfl
  · exact .inr (by simp [Value.ownBlock])
/-- What a marking call leaves. -/
def Marked (w : World) (base : Nat) (v : Value) (k0 : Int) (n : Nat) (e : Ending) (w' : World) : Prop :=
  e = .returned (.int .i64 (k0 + n)) ∧ OwnI w' base v (marks k0 n) ∧ w.grownBy w' v.ownBlock
set_option maxHeartbeats 2000000 in
theorem markInt64S_any (base : Nat) (a : Option Addr) (n c : Nat) (zs : List Int) (k0 : Int) (w : World) (h : OwnI w base (.slice a n c) zs) (hk0 : 0 ≤ k0) (hk1 : k0 ≤ 1000000000) (hn : n ≤ 1000000000) :
    Calls Try.prog 49 #[.slice a n c, .int .i64 k0] w (Marked w base (.slice a n c) k0 n) := by
  have hl : zs.length = n := h.row.1
  have H := Lib.hid h
  have HL := Lib.hid hl
  clear h hl
  go_enter Try.func49, Try.ntmps49
  go_wp2
  go_loopw [1, 5] (fun m i wr => ∃ k : Nat, k ≤ n ∧ i = .int .i64 (k : Int) ∧ m = .int .i64 (k0 + k) ∧ OwnI wr base (.slice a n c) (marks k0 k ++ zs.drop k) ∧ w.grownBy wr (Value.slice a n c).ownBlock) (fun _ i _ => (n - intOf i).toNat)
  case atStart => exact ⟨0, by omega, rfl, by simp, H.out, World.grownBy.refl _ _⟩
  case round =>
    obtain ⟨k, hk, rfl, rfl, hO, hG⟩ := hrel
    have hlen : (marks k0 k ++ zs.drop k).length = n := by rw [List.length_append, marks_len, List.length_drop, HL.out]; omega
    by_cases hlt : k < n
    · have HO := Lib.hid hO
      have HG := Lib.hid hG
      have hlt' : (k : Int) < (n : Int) := by omega
      rcases hO.2 with ⟨_, hz⟩ | ⟨g, cap, cur, hv, hb, hh, _⟩
      · omega
      · injection hv with h1 h2 h3
        subst h1 h3
        unfold OwnI at hO
        rw [hlen] at hO
        have hc := hO.cellAt k (by omega)
        have hf := hO.frozenAt k
        have HS := Lib.hid (hO.stored k (.int .i64 (k0 + k))).1
        have he : ((marks k0 k ++ zs.drop k).map (Value.int .i64))[k]? = some (Value.int .i64 (zs.getD k 0)) := by
          rw [List.getElem?_map, List.getElem?_append_right (by rw [marks_len]; omega), marks_len, Nat.sub_self]
          simp [List.getD_eq_getElem?_getD, List.getElem?_drop, show k < zs.length by rw [HL.out]; exact hlt]
        rw [he] at hc
        clear he hO hG hlen hh h2
        have HM := Lib.hid (marks_step k0 zs k (by rw [HL.out]; exact hlt))
        go_wp2
        go_roundw
        case rel =>
          refine ⟨k + 1, by omega, by go_num, by go_num, ?_, ?_⟩
          · unfold OwnI
            rw [← HM.out]
            have := HS.out
            rw [← List.map_set] at this
            simpa [marks_len, HL.out, show k + (n - k) = n by omega] using this
          · exact ⟨HG.out.os, HG.out.tape, HG.out.output, by simpa [World.setCell] using HG.out.size, fun i hi hne => (Below.heap_setCell _ ⟨g, k, none⟩ _ i (fun e => hne (by rw [e]; rfl))).trans (HG.out.block i hi hne)⟩
        case measure => simp [intOf]; omega
    · obtain rfl : k = n := by omega
      have HF : Hid (OwnI wr base (.slice a k c) (marks k0 k)) := by
        have : zs.drop k = [] := by rw [← HL.out]; simp
        rw [this, List.append_nil] at hO
        exact hO
      have HG := Lib.hid hG
      clear hO hG hlen
      go_wp2
      go_ret
      exact ⟨rfl, HF.out, HG.out⟩
set_option maxHeartbeats 2000000 in
theorem heldInt64S_any (a : Option Addr) (n c : Nat) (k0 : Int) (w : World) (h : IsRow .i64 w a n c (marks k0 n)) (hk0 : 0 ≤ k0) (hk1 : k0 ≤ 1000000000) (hn : n ≤ 1000000000) :
    Calls Try.prog 50 #[.slice a n c, .int .i64 k0] w fun e w' => e = .returned (.int .i64 (k0 + n)) ∧ w = w' := by
  have H := Lib.hid h
  clear h
  go_enter Try.func50, Try.ntmps50
  go_wp2
  go_loop [1, 5] (fun m i => ∃ k : Nat, k ≤ n ∧ i = .int .i64 (k : Int) ∧ m = .int .i64 (k0 + k)) (fun _ i => (n - intOf i).toNat)
  case atStart => exact ⟨0, by omega, rfl, by simp⟩
  case round =>
    obtain ⟨k, hk, rfl, rfl⟩ := hrel
    by_cases hlt : k < n
    · obtain ⟨b, o, rfl, hb, hc⟩ := H.out.cell hlt
      rw [marks_get _ _ _ hlt] at hc
      have hlt' : (k : Int) < (n : Int) := by omega
      go_wp2
      go_round
      case rel => exact ⟨k + 1, by omega, by go_num, by go_num⟩
      case measure => simp [intOf]; omega
    · obtain rfl : k = n := by omega
      go_wp2
      go_ret
      exact ⟨rfl, rfl⟩

/-! ### Slices that a call makes by append -/
theorem ownI_empty (w : World) (base : Nat) (h : base ≤ w.heap.size) : OwnI (w.alloc (.cells #[] 2)) base (.slice (some ⟨w.heap.size, 0, none⟩) 0 0) [] :=
  World.ownsRow_made w #[] 0 h (Nat.zero_le _) rfl
theorem ownI_nil (w : World) (base : Nat) : OwnI w base (.slice none 0 0) [] := World.ownsRow_nil _ _ _ _
theorem OwnI.alloc {w : World} {base : Nat} {v : Value} {zs : List Int} (h : OwnI w base v zs) (o : Obj) : OwnI (w.alloc o) base v zs := World.ownsRow.alloc h o
theorem OwnI.snoc {w : World} {base n : Nat} {v : Value} {zs : List Int} {x : Int} (h : w.ownsRow base 2 1 v n (zs.map (Value.int .i64) ++ [.int .i64 x])) (hn : n = zs.length + 1) : OwnI w base v (zs ++ [x]) := by
  unfold OwnI; subst hn; simpa using h
theorem OwnI.shape {w : World} {base : Nat} {v : Value} {zs : List Int} (h : OwnI w base v zs) : ∃ a c, v = .slice a zs.length c := by
  rcases h.2 with ⟨rfl, h0⟩ | ⟨g, cap, _, rfl, _⟩
  · exact ⟨none, 0, by rw [h0]⟩
  · exact ⟨_, _, rfl⟩
theorem below_append {a w w' : World} {v : Value} {zs : List Int} (h : Below a.heap.size a w) (ho : OwnI w a.heap.size v zs) (hg : w.grownBy w' v.ownBlock) : Below a.heap.size a w' :=
  h.grown hg h.size (fun k e => (ho.lt k e).1)
/-- A call that hands back a new slice of integers and a code. -/
def NewI (w : World) (zs : List Int) (code : Int) (e : Ending) (w' : World) : Prop :=
  ∃ a c, e = .returned (.tuple #[.slice a zs.length c, .int .i64 code]) ∧ OwnI w' w.heap.size (.slice a zs.length c) zs ∧ Below w.heap.size w w'
theorem newI_mk {w w' : World} {v : Value} {zs : List Int} {code : Int} (h : OwnI w' w.heap.size v zs) (hb : Below w.heap.size w w') : NewI w zs code (.returned (.tuple #[v, .int .i64 code])) w' := by
  obtain ⟨a, c, rfl⟩ := h.shape
  exact ⟨a, c, rfl, h, hb⟩
/-! ### What the walks of the laws on slices go by -/
/-- As NewI, the length told. -/
def NewN (n : Nat) (zs : List Int) (code : Int) (w : World) (e : Ending) (w' : World) : Prop :=
  ∃ a c, e = .returned (.tuple #[.slice a n c, .int .i64 code]) ∧ OwnI w' w.heap.size (.slice a n c) zs ∧ Below w.heap.size w w'
theorem NewI.told {w w' : World} {zs : List Int} {code : Int} {e : Ending} {n : Nat} (h : NewI w zs code e w') (hn : zs.length = n) : NewN n zs code w e w' := by
  subst hn; exact h
theorem toInt64S_own (a : Option Addr) (len cap : Nat) (zs : List Int) (w : World) (h : IsRow .i64 w a len cap zs) (hlen : len ≤ 1048576) :
    Calls Try.prog 51 #[.slice a len cap] w fun e w' => e = .returned (.slice (some ⟨w.heap.size, 0, none⟩) len len) ∧ OwnI w' w.heap.size (.slice (some ⟨w.heap.size, 0, none⟩) len len) zs ∧ Below w.heap.size w w' := by
  have hl := h.1
  refine (toInt64S_any a len cap zs w h hlen).mono ?_
  rintro e w' ⟨rfl, rfl⟩
  subst hl
  exact ⟨rfl, ownI_made (blk_new _ _) (Nat.le_refl _) (by unfold maxLen; omega), (Below.refl _ _).alloc (Nat.le_refl _) _⟩
/-- Two slices of different calls have different arrays. -/
theorem OwnI.apart {w w' : World} {base base' : Nat} {v v' : Value} {zs zs' : List Int} (h : OwnI w base v zs) (h' : OwnI w' base' v' zs') (hb : w.heap.size ≤ base') :
    (v.ownBlock = none ∨ v.ownBlock ≠ v'.ownBlock) ∧ (v'.ownBlock = none ∨ v'.ownBlock ≠ v.ownBlock) := by
  rcases ho : v.ownBlock with _ | g
  · exact ⟨.inl rfl, by rcases hp : v'.ownBlock with _ | g' <;> simp⟩
  · rcases hp : v'.ownBlock with _ | g'
    · exact ⟨.inr (by simp), .inl rfl⟩
    · have h1 := (h.lt g ho).2
      have h2 := (h'.lt g' hp).1
      have : g ≠ g' := by omega
      exact ⟨.inr (by simpa using this), .inr (by simpa using fun e => this e.symm)⟩
theorem keepM {w w' : World} {base b o : Nat} {v x : Value} {zs : List Int} (hO : OwnI w base v zs) (hG : w.grownBy w' v.ownBlock) (hb : b < base) (hc : w.cell? ⟨b, o, none⟩ = some x) : w'.cell? ⟨b, o, none⟩ = some x := by
  have hl := World.block_lt_of_cell? _ _ hc
  have e : w'.heap[b]? = w.heap[b]? := hG.block b hl (fun e => by have := (hO.lt b e.symm).1; omega)
  rw [← hc]
  unfold World.cell?
  simp only [e]
theorem below_mark {a w w' : World} {base : Nat} {v : Value} {zs : List Int} (h : Below a.heap.size a w) (hb : a.heap.size ≤ base) (ho : OwnI w base v zs) (hg : w.grownBy w' v.ownBlock) : Below a.heap.size a w' :=
  h.grown hg h.size (fun k e => Nat.le_trans hb (ho.lt k e).1)
theorem OwnI.keptM {w w' : World} {base : Nat} {v v' : Value} {zs : List Int} (h : OwnI w base v zs) (hg : w.grownBy w' v'.ownBlock) (hne : v.ownBlock = none ∨ v.ownBlock ≠ v'.ownBlock) : OwnI w' base v zs := World.ownsRow.kept h hg hne
/-- A call that hands back a new slice of integers. -/
def NewL (w : World) (zs : List Int) (e : Ending) (w' : World) : Prop :=
  ∃ a c, e = .returned (.slice a zs.length c) ∧ OwnI w' w.heap.size (.slice a zs.length c) zs ∧ Below w.heap.size w w'
theorem newL_mk {w w' : World} {v : Value} {zs : List Int} (h : OwnI w' w.heap.size v zs) (hb : Below w.heap.size w w') : NewL w zs (.returned v) w' := by
  obtain ⟨a, c, rfl⟩ := h.shape
  exact ⟨a, c, rfl, h, hb⟩
theorem map_take_next {f : Int → Int} {zs : List Int} {k : Nat} (h : k < zs.length) : (zs.take (k + 1)).map f = (zs.take k).map f ++ [f (zs.getD k 0)] := by
  rw [List.take_succ_eq_append_getElem h, List.map_append, List.getD_eq_getElem?_getD, List.getElem?_eq_getElem h]; rfl
theorem map_take_len {f : Int → Int} {zs : List Int} {k : Nat} (h : k ≤ zs.length) : ((zs.take k).map f).length = k := by simp; omega
/-- An owned slice, seen from a later base. -/
theorem OwnI.base {w : World} {b b' : Nat} {v : Value} {zs : List Int} (h : OwnI w b v zs) (hb : b' ≤ b) : OwnI w b' v zs := by
  obtain ⟨h1, h2⟩ := h
  refine ⟨h1, ?_⟩
  rcases h2 with h2 | ⟨g, cap, cur, h3, h4, h5⟩
  · exact .inl h2
  · exact .inr ⟨g, cap, cur, h3, Nat.le_trans hb h4, h5⟩
/-- An append to a slice of the call's own: its array is the elder one, or a new one. -/
theorem wpList_append_new {P : Program} (w : World) {ops : Array Oper} {rest : List Oper} {o : Oper} {a : Act} {Q : Exit → Act → World → Prop} (hgd : o.guard = none) (s x : Operand) (t : TypeId)
    (ho : o.op = .call { callee := .builtin .append, args := #[s, x], argTypes := #[t, t] })
    (base : Nat) (e : TypeId) (i : TypeInfo) (z : Value) (size bytes : Nat) (ht : P.underlying t = some (.slice e)) (hi : P.info? e = some i) (hz : i.zero = some z)
    (hsize : i.size = size) (hby : i.bytes = bytes) (hzs : z.cells.size = size) (hsz : 0 < size)
    (v : Value) (n : Nat) (xs : List Value) (hs : a.eval s = v) (hown : w.ownsRow base e size v n xs)
    (ad : Addr) (m c : Nat) (news : List Value) (hx : a.eval x = .slice (some ad) m c) (hl : news.length = m * size) (hnews : ∀ j u, news[j]? = some u → w.cell? (ad.add j) = some u) (h1 : ∀ u ∈ news, u.oneCell' = true)
    (h63 : n + m ≤ maxLen) (hbytes : (n + m) * bytes ≤ 140737488355328) (hbase : base ≤ w.heap.size) (hm : 0 < m)
    (h : ∀ v' w', w'.ownsRow base e size v' (n + m) (xs ++ news) → w.grownBy w' v.ownBlock → (∀ g, v'.ownBlock = some g → v.ownBlock = some g ∨ w.heap.size ≤ g) → wpList P ops Q rest (a.put o.dst v') w') :
    wpList P ops Q (o :: rest) a w := by
  have grow : ∀ v' w', w'.ownsRow w.heap.size e size v' (n + m) (xs ++ news) → w.grownBy w' none → wpList P ops Q rest (a.put o.dst v') w' := by
    intro v' w' r1 r2
    have r0 := r1
    obtain ⟨k1, k2⟩ := r1
    refine h v' w' ⟨k1, ?_⟩ ⟨r2.os, r2.tape, r2.output, r2.size, fun k hk _ => r2.block k hk (by simp)⟩ (fun g hg => .inr (r0.lt g hg).1)
    rcases k2 with k2 | ⟨g, cap, cur, k3, k4, k5⟩
    · exact .inl k2
    · exact .inr ⟨g, cap, cur, k3, Nat.le_trans hbase k4, k5⟩
  have hown0 := hown
  rcases hown.2 with ⟨hv, rfl⟩ | ⟨g, cap, cur, hv, hbg, hg, hnc, hcm, hcs, htake⟩
  · have hx0 : xs = [] := List.eq_nil_of_length_eq_zero (by simpa using hown.1)
    subst hx0
    exact wpList_append_grows w hgd s x t ho e i z size bytes ht hi hz hsize hby hzs hsz none 0 0 [] (hs.trans hv) (fun _ => ⟨rfl, rfl⟩) (by simp) (fun b hb => by cases hb) ad m c news hx hl hnews h1 (by omega) h63 hbytes grow
  · by_cases hroom : n + m ≤ cap
    · refine wpList_append_fits w hgd s x t ho base e i size ht hi hsize g n cap xs (hs.trans hv) (hv ▸ hown) ad m c news hx hl hnews h1 hroom fun w' r1 r2 => ?_
      refine h _ w' r1 (by rw [hv]; exact r2) (fun g' hg' => .inl ?_)
      rw [hv]; exact hg'
    · exact wpList_append_grows w hgd s x t ho e i z size bytes ht hi hz hsize hby hzs hsz (some ⟨g, 0, none⟩) n cap xs (hs.trans hv) (fun hb => by cases hb) hown.1 (fun b hb => by
        injection hb with hb; subst hb
        exact hown0.cells (g := g) (by rw [hv]; rfl)) ad m c news hx hl hnews h1 (by omega) h63 hbytes grow
/-- Two slices have different arrays. -/
def Apart (v v' : Value) : Prop := ∀ g, v.ownBlock = some g → v'.ownBlock ≠ some g
theorem Apart.ne {v v' : Value} (h : Apart v v') : v.ownBlock = none ∨ v.ownBlock ≠ v'.ownBlock := by
  rcases ho : v.ownBlock with _ | g
  · exact .inl rfl
  · exact .inr fun e => h g ho e.symm
theorem Apart.symm {v v' : Value} (h : Apart v v') : Apart v' v := fun g hg e => h g e hg
theorem Apart.next {w : World} {base N : Nat} {u v v' : Value} {zs : List Int} (h : Apart v u) (hu : OwnI w base u zs) (hn : ∀ g, v'.ownBlock = some g → v.ownBlock = some g ∨ N ≤ g) (hN : w.heap.size ≤ N) : Apart v' u := by
  intro g hg e
  rcases hn g hg with h1 | h1
  · exact h g h1 e
  · have := (hu.lt g e).2; omega
theorem apart_new {w w' : World} {base base' : Nat} {v v' : Value} {zs zs' : List Int} (h : OwnI w base v zs) (h' : OwnI w' base' v' zs') (hb : w.heap.size ≤ base') : Apart v v' := by
  intro g hg e
  have h1 := (h.lt g hg).2
  have h2 := (h'.lt g e).1
  omega
theorem blk_own {w w' : World} {g base : Nat} {o : Obj} {v : Value} {zs : List Int} (h : w.heap[g]? = some o) (ho : OwnI w base v zs) (hg : w.grownBy w' v.ownBlock) (hb : g < base) : w'.heap[g]? = some o :=
  (hg.block g (blk_lt h) (fun e => by have := (ho.lt g e.symm).1; omega)).trans h
end Go.Proofs.Ytklhaanapembdaa
