/- The plain law of FnPatternTurns, the second part: diagonals and dark bricks of turned patterns; no program in sight. -/
import Derived.Test.YtlkdkidpbjpkhaaPtP
namespace Go.Proofs.Ytlkdkidpbjpkhaa
open Go.RowKit

theorem seg_0 {ss : List ByteArray} (h : patB ss = true) {st : Int} (hst : st = 1 ∨ st = -1) {L : Nat} (h1 : 1 ≤ L) (hs : Seg (tuL ss 0) st L) : Seg ss (-st) L := by
  obtain ⟨y, x, hy, hx, hc⟩ := hs
  rw [tuL_len] at hy
  rw [(tuL_pat h 0).2] at hx
  have hl := hc (L - 1) (by omega)
  rw [tuL_len] at hl
  refine ⟨((y : Int) + st * ((L - 1 : Nat) : Int)).toNat, patN ss - x - L, by rcases hst with rfl | rfl <;> omega, by omega, fun n hn => ?_⟩
  obtain ⟨c1, c2, c3⟩ := hc (L - 1 - n) (by omega)
  rw [tuL_len] at c2
  have e : (((y : Int) + st * ((L - 1 : Nat) : Int)).toNat : Int) + -st * (n : Int) = (y : Int) + st * ((L - 1 - n : Nat) : Int) := by rcases hst with rfl | rfl <;> omega
  rw [e]
  refine ⟨c1, c2, ?_⟩
  rw [tuL_bt h 0 _ _ (by omega) (by omega), if_pos rfl, if_neg (by decide)] at c3
  rw [← c3]
  congr 1; omega
theorem seg_1 {ss : List ByteArray} (h : patB ss = true) {st : Int} (hst : st = 1 ∨ st = -1) {L : Nat} (h1 : 1 ≤ L) (hs : Seg (tuL ss 1) st L) : Seg ss (-st) L := by
  obtain ⟨y, x, hy, hx, hc⟩ := hs
  rw [tuL_len] at hy
  rw [(tuL_pat h 1).2] at hx
  refine ⟨ss.length - 1 - y, x, by omega, hx, fun n hn => ?_⟩
  obtain ⟨c1, c2, c3⟩ := hc n hn
  rw [tuL_len] at c2
  rw [tuL_bt h 1 _ _ (by omega) (by omega), if_neg (by decide), if_pos rfl] at c3
  have e : (((ss.length - 1 - y : Nat) : Int) + -st * (n : Int)) = (ss.length : Int) - 1 - ((y : Int) + st * (n : Int)) := by rcases hst with rfl | rfl <;> omega
  rw [e]
  refine ⟨by omega, by omega, ?_⟩
  rw [← c3]
  congr 1; omega
theorem seg_2 {ss : List ByteArray} (h : patB ss = true) {st : Int} (hst : st = 1 ∨ st = -1) {L : Nat} (h1 : 1 ≤ L) (hs : Seg (tuL ss 2) st L) : Seg ss st L := by
  have e : tuL (tuL ss 2) 1 = tuL ss 0 := by
    rw [← tuL_01 ss, tuL_tuL]
  have h2 := tuL_pat h 2
  have hs2 : Seg (tuL (tuL ss 0) 1) st L := by rw [tuL_01]; exact hs
  have := seg_0 h (st := -st) (by omega) h1 (seg_1 (tuL_pat h 0).1 hst h1 hs2)
  rwa [Int.neg_neg] at this
/-- Diagonals of turned patterns. -/
theorem di_turn {ss : List ByteArray} (h : patB ss = true) :
    (diG (tuL ss 0) 1 = diG ss (-1) ∧ diG (tuL ss 0) (-1) = diG ss 1) ∧ (diG (tuL ss 1) 1 = diG ss (-1) ∧ diG (tuL ss 1) (-1) = diG ss 1) ∧ (diG (tuL ss 2) 1 = diG ss 1 ∧ diG (tuL ss 2) (-1) = diG ss (-1)) := by
  have k0 : ∀ st : Int, st = 1 ∨ st = -1 → ∀ xs, patB xs = true → diG (tuL xs 0) st ≤ diG xs (-st) := fun st hst xs hx => diG_le fun L h1 hs => seg_0 hx hst h1 hs
  have k1 : ∀ st : Int, st = 1 ∨ st = -1 → ∀ xs, patB xs = true → diG (tuL xs 1) st ≤ diG xs (-st) := fun st hst xs hx => diG_le fun L h1 hs => seg_1 hx hst h1 hs
  have k2 : ∀ st : Int, st = 1 ∨ st = -1 → ∀ xs, patB xs = true → diG (tuL xs 2) st ≤ diG xs st := fun st hst xs hx => diG_le fun L h1 hs => seg_2 hx hst h1 hs
  have p0 := (tuL_pat h 0).1
  have p1 := (tuL_pat h 1).1
  have p2 := (tuL_pat h 2).1
  have a1 := k0 1 (.inl rfl) ss h
  have a2 := k0 (-1) (.inr rfl) ss h
  have a3 := k0 1 (.inl rfl) _ p0
  have a4 := k0 (-1) (.inr rfl) _ p0
  have b1 := k1 1 (.inl rfl) ss h
  have b2 := k1 (-1) (.inr rfl) ss h
  have b3 := k1 1 (.inl rfl) _ p1
  have b4 := k1 (-1) (.inr rfl) _ p1
  have c1 := k2 1 (.inl rfl) ss h
  have c2 := k2 (-1) (.inr rfl) ss h
  have c3 := k2 1 (.inl rfl) _ p2
  have c4 := k2 (-1) (.inr rfl) _ p2
  rw [tuL_tuL] at a3 a4 b3 b4 c3 c4
  simp only [Int.neg_neg] at a2 a4 b2 b4
  exact ⟨⟨by omega, by omega⟩, ⟨by omega, by omega⟩, ⟨by omega, by omega⟩⟩
/-- The dark bricks of rows. -/
def cnD (s : ByteArray) : Nat := s.data.toList.count 35
def dkS : List ByteArray → Nat
  | [] => 0
  | s :: t => cnD s + dkS t
theorem dkS_append (xs ys : List ByteArray) : dkS (xs ++ ys) = dkS xs + dkS ys := by
  induction xs with
  | nil => simp [dkS]
  | cons s t ih => simp only [List.cons_append, dkS, ih]; omega
theorem dkS_reverse (xs : List ByteArray) : dkS xs.reverse = dkS xs := by
  induction xs with
  | nil => rfl
  | cons s t ih => rw [List.reverse_cons, dkS_append, ih]; simp only [dkS]; omega
theorem rowK_cn (s : ByteArray) : rowK s s.size = (cnD s : Int) := by
  unfold rowK cnD
  rw [List.take_of_length_le (by simp)]
theorem darkK_dk (ss : List ByteArray) (k : Nat) (hk : k ≤ ss.length) : darkK ss k = (dkS (ss.take k) : Int) := by
  induction k with
  | zero => rfl
  | succ k ih =>
    simp only [darkK]
    rw [ih (by omega), rowK_cn, List.take_succ_eq_append_getElem (by omega), dkS_append]
    have e : ss.getD k ByteArray.empty = ss[k] := by rw [List.getD_eq_getElem?_getD, List.getElem?_eq_getElem (by omega)]; rfl
    rw [e]
    simp only [dkS]
    omega
theorem dark_dk (ss : List ByteArray) : darkK ss ss.length = (dkS ss : Int) := by rw [darkK_dk ss _ (Nat.le_refl _), List.take_length]
theorem cnD_tu (kind : Int) (s : ByteArray) : cnD (tuF kind s) = cnD s := by
  unfold tuF
  split
  · rfl
  · unfold cnD revS; simp
theorem dkS_tuM (ss : List ByteArray) (kind : Int) : dkS (tuM ss kind ss.length) = dkS ss := by
  have : ∀ k, k ≤ ss.length → dkS (tuM ss kind k) = dkS (ss.take k) := by
    intro k hk
    induction k with
    | zero => rfl
    | succ k ih =>
      rw [tuM_next, dkS_append, ih (by omega), List.take_succ_eq_append_getElem (by omega), dkS_append]
      have e : ss.getD k ByteArray.empty = ss[k] := by rw [List.getD_eq_getElem?_getD, List.getElem?_eq_getElem (by omega)]; rfl
      rw [e]
      simp only [dkS, cnD_tu]
  rw [this _ (Nat.le_refl _), List.take_length]
theorem dk_tu (ss : List ByteArray) (kind : Int) : dkS (tuL ss kind) = dkS ss := by
  by_cases h : kind = 0
  · subst h; rw [← tuL_0]; exact dkS_tuM ss 0
  · rw [← tuL_1 ss h, dkS_reverse]; exact dkS_tuM ss kind
theorem dark_turn (ss : List ByteArray) (kind : Int) : darkK (tuL ss kind) (tuL ss kind).length = darkK ss ss.length := by
  rw [dark_dk, dark_dk, dk_tu]
/-- A dark place counts. -/
theorem cn_pos {ss : List ByteArray} {y x : Nat} (h : bt ss y x = 35) : 1 ≤ cnD (ss.getD y ByteArray.empty) := by
  have hm : (35 : UInt8) ∈ (ss.getD y ByteArray.empty).data.toList := by
    unfold bt at h
    rw [List.getD_eq_getElem?_getD] at h
    rcases hi : (ss.getD y ByteArray.empty).data.toList[x]? with _ | c
    · rw [hi] at h; exact absurd h (by decide)
    · rw [hi] at h
      have h' : c = 35 := h
      subst h'
      exact List.mem_of_getElem? hi
  exact List.count_pos_iff.2 hm
theorem cn_is {ss : List ByteArray} {y : Nat} (h : 1 ≤ cnD (ss.getD y ByteArray.empty)) : ∃ x, x < (ss.getD y ByteArray.empty).size ∧ bt ss y x = 35 := by
  have hm := List.count_pos_iff.1 (show 0 < List.count (35 : UInt8) (ss.getD y ByteArray.empty).data.toList from h)
  obtain ⟨x, hx, e⟩ := List.mem_iff_getElem.1 hm
  refine ⟨x, by simpa using hx, ?_⟩
  unfold bt
  rw [List.getD_eq_getElem?_getD, List.getElem?_eq_getElem hx, e]; rfl
theorem dk_rows (ss : List ByteArray) (y L : Nat) (hl : y + L ≤ ss.length) (h : ∀ m, m < L → 1 ≤ cnD (ss.getD (y + m) ByteArray.empty)) : (L : Int) ≤ darkK ss (y + L) := by
  induction L with
  | zero =>
    rw [darkK_dk ss _ (by omega)]; omega
  | succ L ih =>
    have h1 := ih (by omega) fun m hm => h m (by omega)
    have h2 := h L (by omega)
    have h3 : darkK ss (y + L + 1) = darkK ss (y + L) + rowK (ss.getD (y + L) ByteArray.empty) (ss.getD (y + L) ByteArray.empty).size := rfl
    rw [rowK_cn] at h3
    rw [show y + (L + 1) = y + L + 1 by omega, h3]
    omega
theorem darkK_mono (ss : List ByteArray) (i j : Nat) (h : i ≤ j) : darkK ss i ≤ darkK ss j := by
  induction j with
  | zero => obtain rfl : i = 0 := by omega
            exact Int.le_refl _
  | succ j ih =>
    by_cases e : i = j + 1
    · subst e; exact Int.le_refl _
    · have h1 := ih (by omega)
      have h3 : darkK ss (j + 1) = darkK ss j + rowK (ss.getD j ByteArray.empty) (ss.getD j ByteArray.empty).size := rfl
      rw [rowK_cn] at h3
      omega
theorem di_dark {ss : List ByteArray} {st : Int} (hst : st = 1 ∨ st = -1) : diG ss st ≤ darkK ss ss.length := by
  by_cases h0 : diG ss st = 0
  · rw [h0, dark_dk]; omega
  · obtain ⟨L, h1, h2, y, x, hy, hx, hc⟩ := seg_is st h0
    rw [h2]
    have hl := hc (L - 1) (by omega)
    rcases hst with rfl | rfl
    · refine Int.le_trans (dk_rows ss y L (by omega) fun m hm => ?_) (darkK_mono ss _ _ (by omega))
      have := (hc m hm).2.2
      rw [show ((y : Int) + 1 * (m : Int)).toNat = y + m by omega] at this
      exact cn_pos this
    · refine Int.le_trans (dk_rows ss (y - (L - 1)) L (by omega) fun m hm => ?_) (darkK_mono ss _ _ (by omega))
      have := (hc (L - 1 - m) (by omega)).2.2
      rw [show ((y : Int) + -1 * ((L - 1 - m : Nat) : Int)).toNat = y - (L - 1) + m by omega] at this
      exact cn_pos this
theorem dk_zero {ss : List ByteArray} (h : dkS ss = 0) (y : Nat) (hy : y < ss.length) : cnD (ss.getD y ByteArray.empty) = 0 := by
  induction ss generalizing y with
  | nil => simp at hy
  | cons s t ih =>
    simp only [dkS] at h
    cases y with
    | zero => show cnD s = 0; omega
    | succ y => exact ih (by omega) y (by simpa using hy)
theorem dk_pos {ss : List ByteArray} (h : dkS ss ≠ 0) : ∃ y, y < ss.length ∧ 1 ≤ cnD (ss.getD y ByteArray.empty) := by
  induction ss with
  | nil => exact absurd rfl h
  | cons s t ih =>
    by_cases hs : cnD s = 0
    · simp only [dkS] at h
      obtain ⟨y, hy, hc⟩ := ih (by omega)
      exact ⟨y + 1, by simpa using hy, hc⟩
    · exact ⟨0, by simp, by show 1 ≤ cnD s; omega⟩
theorem di_zero {ss : List ByteArray} (h : patB ss = true) {st : Int} (hst : st = 1 ∨ st = -1) : (darkK ss ss.length = 0) ↔ (diG ss st = 0) := by
  obtain ⟨v1, v2, v3, v4, v5⟩ := patB_t h
  constructor
  · intro h0
    have := di_dark (ss := ss) hst
    have := diG_nonneg ss st
    omega
  · intro h0
    rw [dark_dk]
    by_cases hd : dkS ss = 0
    · omega
    · obtain ⟨y, hy, hc⟩ := dk_pos hd
      obtain ⟨x, hx, hb⟩ := cn_is hc
      rw [(v5 y hy).1] at hx
      have : Seg ss st 1 := ⟨y, x, hy, by omega, fun n hn => by
        obtain rfl : n = 0 := by omega
        rw [show ((y : Int) + st * ((0 : Nat) : Int)) = (y : Int) by simp]
        exact ⟨by omega, by omega, by simpa using hb⟩⟩
      have := seg_le this (Nat.le_refl _)
      omega
end Go.Proofs.Ytlkdkidpbjpkhaa
