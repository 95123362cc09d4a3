/- The plain law of what stands: among all conditions there is an upper bound, and the reference's indexes give the program's answer; no program in sight; condition: valid blocks. -/
import Derived.Test.YtklhaanapembdaaM04
import Derived.Test.YtklhaanapembdaaFindP

namespace Go.Proofs.Ytklhaanapembdaa

theorem bstep_hh {S : Bnds} {c : Cnd} (h : S.hh = true ∨ c.b < 0) : (bstep S c).hh = true := by
  unfold bstep
  split
  · rename_i ht
    simp only [takesL, Bool.and_eq_true, decide_eq_true_eq] at ht
    rcases h with h | h
    · exact h
    · omega
  · split
    · rfl
    · rename_i ht
      have h2 : S.hh = true := by
        rcases h with h | h
        · exact h
        · cases e : S.hh
          · exact absurd (by simp [takesH, h, e]) ht
          · rfl
      split <;> exact h2
theorem foldl_hh : ∀ (l : List Cnd) (S : Bnds), (S.hh = true ∨ ∃ c ∈ l, c.b < 0) → (l.foldl bstep S).hh = true
  | [], S, h => by
    rcases h with h | ⟨c, hc, _⟩
    · exact h
    · cases hc
  | x :: l, S, h => by
    refine foldl_hh l (bstep S x) ?_
    rcases h with h | ⟨c, hc, hb⟩
    · exact .inl (bstep_hh (.inl h))
    · rcases List.mem_cons.1 hc with rfl | hc
      · exact .inl (bstep_hh (.inr hb))
      · exact .inr ⟨c, hc, hb⟩
theorem sumS_ge {ls : List Int} (h : ∀ i, i < ls.length → 1 ≤ ls.getD i 0) (k : Nat) (hk : k < ls.length) : ls.getD 0 0 ≤ sumS ls (k + 1) := by
  induction k with
  | zero => simp [sumS]
  | succ k ih =>
    have := ih (by omega)
    have := h (k + 1) hk
    simp only [sumS] at *
    omega
/-- The last joints with the first give an upper bound. -/
theorem last_cnd {ls lo hi : List Int} (h2 : 2 ≤ ls.length) (h : ∀ i, i < ls.length → 1 ≤ ls.getD i 0) : (cnd ls lo hi ls.length (ls.length - 1) 0 1).b < 0 := by
  obtain ⟨n, hn⟩ : ∃ n, ls.length = n + 2 := ⟨ls.length - 2, by omega⟩
  have e0 := momAt_up ls 0
  have e1 := momAt_up ls (n + 1)
  have g := sumS_ge h n (by omega)
  have p := h (n + 1) (by omega)
  have p0 := h 0 (by omega)
  simp only [cnd, cB]
  rw [hn, show n + 2 - 1 = n + 1 by omega]
  have s0 : sumS ls 0 = 0 := rfl
  have q1 : ((n + 2 : Nat) : Int) - ((n + 1 : Nat) : Int) = 1 := by omega
  have q2 : ((1 : Nat) : Int) - ((0 : Nat) : Int) = 1 := by omega
  rw [q1, q2]
  rw [show n + 1 + 1 = n + 2 by omega] at e1
  rw [show 0 + 1 = 1 by omega] at e0
  omega
theorem qAll_last (ls lo hi : List Int) (h2 : 2 ≤ ls.length) : cnd ls lo hi ls.length (ls.length - 1) 0 1 ∈ qAll ls lo hi (ls.length + 1) (ls.length + 1) := by
  simp only [qAll, qJ, qK, qP, List.mem_flatMap, List.mem_map, List.mem_range]
  exact ⟨ls.length, by omega, ls.length - 1, by omega, 0, by omega, 0, by omega, rfl⟩
theorem bfind_hh {ls lo hi : List Int} (hv : blkB ls lo hi = true) : (bfind ls lo hi).hh = true := by
  obtain ⟨v1, v2, v3, v4, _⟩ := blkB_t hv
  unfold bfind bfold
  rw [v4]
  exact foldl_hh _ _ (.inr ⟨_, qAll_last ls lo hi v1, last_cnd v1 fun i hi => (v3 i hi).1⟩)
/-- What the reference finds. -/
def ffind (ls lo hi : List Int) : Fnd := ffold (qAll ls lo hi lo.length lo.length) (qAll ls lo hi lo.length lo.length).length
theorem alike_find (ls lo hi : List Int) : Alike (qAll ls lo hi lo.length lo.length) (qAll ls lo hi lo.length lo.length).length (bfind ls lo hi) (ffind ls lo hi) := by
  have h := alike_all (qAll ls lo hi lo.length lo.length) _ (Nat.le_refl _)
  rw [List.take_length] at h
  exact h
theorem bfold_good : ∀ (l : List Cnd) (S : Bnds), goodS S → (∀ c ∈ l, goodC c) → goodS (l.foldl bstep S)
  | [], _, h, _ => h
  | x :: l, S, h, hl => bfold_good l (bstep S x) (goodS_step h (hl x (List.mem_cons_self ..))) fun c hc => hl c (List.mem_cons_of_mem _ hc)
theorem bfind_good {ls lo hi : List Int} (hv : blkB ls lo hi = true) : goodS (bfind ls lo hi) := by
  obtain ⟨v1, v2, v3, v4, _⟩ := blkB_t hv
  unfold bfind bfold
  rw [v4]
  exact bfold_good _ _ goodS0 fun c hc => qAll_good hv hc
/-- The reference's answer from its indexes. -/
def standF (l : List Cnd) (F : Fnd) : Bool := !decide (0 ≤ F.never) && !decide (0 ≤ (at0 l F.high).a) && (decide (F.low < 0) || !lessC (at0 l F.high).a (at0 l F.high).b (at0 l F.low).a (at0 l F.low).b)
theorem less_up' {xa xb ya yb : Int} (hx : xb < 0) (hy : 0 < yb) (h1 : xa < 0) (h2 : ya ≤ 0) : lessC xa xb ya yb = false := by
  unfold lessC
  rw [if_pos hx, if_neg (by omega)]
  have e1 : (yb.natAbs : Int) = yb := by omega
  have e2 : (xb.natAbs : Int) = -xb := by omega
  rw [e1, e2]
  have : 0 ≤ (-xa) * yb := Int.mul_nonneg (by omega) (by omega)
  have : ya * (-xb) ≤ 0 := Int.mul_nonpos_of_nonpos_of_nonneg h2 (by omega)
  exact decide_eq_false (by omega)
theorem stand_same {ls lo hi : List Int} (hv : blkB ls lo hi = true) : standF (qAll ls lo hi lo.length lo.length) (ffind ls lo hi) = standB (bfind ls lo hi) := by
  obtain ⟨h1, h2, h3⟩ := alike_find ls lo hi
  have hh := bfind_hh hv
  generalize qAll ls lo hi lo.length lo.length = l at *
  generalize bfind ls lo hi = S at *
  generalize ffind ls lo hi = F at *
  rcases h2 with ⟨a, _⟩ | ⟨_, a, b, c, d⟩
  · rw [hh] at a; cases a
  unfold standF standB
  rw [hh, c]
  have en : decide (0 ≤ F.never) = S.hn := by
    rcases h1 with ⟨x, y⟩ | ⟨x, y, _⟩
    · rw [x]; exact decide_eq_false (by omega)
    · rw [x]; exact decide_eq_true y
  have eh : (!decide (0 ≤ S.high.a)) = (!true || decide (S.high.a < 0)) := by
    by_cases q : S.high.a < 0
    · rw [decide_eq_true q, decide_eq_false (by omega)]; rfl
    · rw [decide_eq_false q, decide_eq_true (by omega)]; rfl
  rw [en, eh]
  by_cases q : S.high.a < 0
  · rcases h3 with ⟨x, y⟩ | ⟨x, y, z, u, v, t⟩
    · rw [x, decide_eq_true (show (-1 : Int) < 0 by omega)]
      rcases y with y | ⟨y, y1, y2⟩
      · rw [y]; simp
      · rw [less_up' d y1 q y2]; simp
    · rw [u, x, decide_eq_false (show ¬ F.low < 0 by omega)]
      simp
  · rw [decide_eq_false q]; simp
end Go.Proofs.Ytklhaanapembdaa
/- Plain functions: what CanStand, CurvatureBounds, LeastThrust and WhyNot answer; no program in sight. -/
namespace Go.Proofs.Ytklhaanapembdaa
def canV (ls lo hi : List Int) : Bool := blkB ls lo hi && standB (bfind ls lo hi)
/-- The code of what wants an arch that stands. -/
def csC (ls lo hi : List Int) : Int := if blkB ls lo hi = true then (if standB (bfind ls lo hi) = true then 0 else 10) else 1
/-- The bounds of the curvature. -/
def loN (S : Bnds) : Int := if S.hl = true ∧ 0 < S.low.a then lwN S.low.a S.low.b else 0
def loD (S : Bnds) : Int := if S.hl = true ∧ 0 < S.low.a then lwD S.low.a S.low.b else 1
def sN (S : Bnds) : Int := lwN (-S.high.a) (-S.high.b)
def sD (S : Bnds) : Int := lwD (-S.high.a) (-S.high.b)
def cvLN (ls lo hi : List Int) : Int := if canV ls lo hi = true then loN (bfind ls lo hi) else 0
def cvLD (ls lo hi : List Int) : Int := if canV ls lo hi = true then loD (bfind ls lo hi) else 0
def cvHN (ls lo hi : List Int) : Int := if canV ls lo hi = true then sN (bfind ls lo hi) else 0
def cvHD (ls lo hi : List Int) : Int := if canV ls lo hi = true then sD (bfind ls lo hi) else 0
/-- The least thrust. -/
def ltN (ls lo hi : List Int) : Int := if canV ls lo hi = true then lwN (sD (bfind ls lo hi)) (2 * sN (bfind ls lo hi)) else 0
def ltD (ls lo hi : List Int) : Int := if canV ls lo hi = true then lwD (sD (bfind ls lo hi)) (2 * sN (bfind ls lo hi)) else 0
theorem canV_t {ls lo hi : List Int} (h : canV ls lo hi = true) : blkB ls lo hi = true ∧ standB (bfind ls lo hi) = true := by simpa [canV] using h
theorem cs_bad {ls lo hi : List Int} (h : blkB ls lo hi = false) : csC ls lo hi = 1 := by simp [csC, h]
theorem cs_cracked {ls lo hi : List Int} (h : blkB ls lo hi = true) (h2 : standB (bfind ls lo hi) = false) : csC ls lo hi = 10 := by simp [csC, h, h2]
theorem cs_ok {ls lo hi : List Int} (h : blkB ls lo hi = true) (h2 : standB (bfind ls lo hi) = true) : csC ls lo hi = 0 := by simp [csC, h, h2]
theorem canV_bad {ls lo hi : List Int} (h : blkB ls lo hi = false) : canV ls lo hi = false := by simp [canV, h]
theorem canV_eq {ls lo hi : List Int} (h : blkB ls lo hi = true) : canV ls lo hi = standB (bfind ls lo hi) := by simp [canV, h]
theorem cv_no {ls lo hi : List Int} (h : canV ls lo hi = false) : cvLN ls lo hi = 0 ∧ cvLD ls lo hi = 0 ∧ cvHN ls lo hi = 0 ∧ cvHD ls lo hi = 0 ∧ ltN ls lo hi = 0 ∧ ltD ls lo hi = 0 := by simp [cvLN, cvLD, cvHN, cvHD, ltN, ltD, h]
theorem cv_yes {ls lo hi : List Int} (h : canV ls lo hi = true) : cvLN ls lo hi = loN (bfind ls lo hi) ∧ cvLD ls lo hi = loD (bfind ls lo hi) ∧ cvHN ls lo hi = sN (bfind ls lo hi) ∧ cvHD ls lo hi = sD (bfind ls lo hi) ∧ ltN ls lo hi = lwN (sD (bfind ls lo hi)) (2 * sN (bfind ls lo hi)) ∧ ltD ls lo hi = lwD (sD (bfind ls lo hi)) (2 * sN (bfind ls lo hi)) := by simp [cvLN, cvLD, cvHN, cvHD, ltN, ltD, h]
/-- An arch that stands has a negative upper condition. -/
theorem stand_neg {S : Bnds} (h : standB S = true) (hh : S.hh = true) : S.high.a < 0 ∧ S.hn = false ∧ (S.hl = true → lessC S.high.a S.high.b S.low.a S.low.b = false) := by
  simp only [standB, Bool.and_eq_true, Bool.not_eq_true', Bool.or_eq_true, decide_eq_true_eq, Bool.and_eq_false_iff] at h
  obtain ⟨⟨h1, h2⟩, h3⟩ := h
  refine ⟨?_, h1, fun hl => ?_⟩
  · rcases h2 with h2 | h2
    · rw [hh] at h2; cases h2
    · exact h2
  · rcases h3 with (h3 | h3) | h3
    · rw [hl] at h3; cases h3
    · rw [hh] at h3; cases h3
    · exact h3
/-- The numbers of the upper bound are small. -/
theorem s_bd {S : Bnds} (hg : goodS S) (hh : S.hh = true) (ha : S.high.a < 0) : 1 ≤ sN S ∧ sN S ≤ 1000000 ∧ 1 ≤ sD S ∧ sD S ≤ 1000000000 := by
  obtain ⟨g1, g2, g3, g4, g5⟩ := hg.2.1 hh
  refine ⟨lwN_pos _ _ (by omega), Int.le_trans (lwN_le _ _ (by omega)) (by omega), lwD_pos _ _ (by omega), Int.le_trans (lwD_le _ _ (by omega)) (by omega)⟩
end Go.Proofs.Ytklhaanapembdaa
