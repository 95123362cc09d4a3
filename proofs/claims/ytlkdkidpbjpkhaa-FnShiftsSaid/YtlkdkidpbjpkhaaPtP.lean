/- The plain law of FnPatternTurns: two equal turns restore a pattern, both turns together are the third one, the dark bricks stay, diagonals change their direction with one turn; no program in sight. -/
import Derived.Test.YtlkdkidpbjpkhaaTuS
import Derived.Test.YtlkdkidpbjpkhaaDiagP
import Derived.Test.YtlkdkidpbjpkhaaPatD
namespace Go.Proofs.Ytlkdkidpbjpkhaa
open Go.RowKit

/-- The byte at a place. -/
def bt (ss : List ByteArray) (y x : Nat) : UInt8 := (ss.getD y ByteArray.empty).data.toList.getD x 0
theorem revS_rev (s : ByteArray) : revS (revS s) = s := by
  unfold revS; simp
theorem revS_bt (s : ByteArray) (x : Nat) (hx : x < s.size) : (revS s).data.toList.getD x 0 = s.data.toList.getD (s.size - 1 - x) 0 := by
  have hx' : x < s.data.toList.length := by simpa using hx
  unfold revS
  rw [List.getD_eq_getElem?_getD, List.getD_eq_getElem?_getD, List.toList_toArray, List.getElem?_reverse hx']
  simp
theorem tuF_tuF (kind : Int) (s : ByteArray) : tuF kind (tuF kind s) = s := by
  unfold tuF
  split
  · rfl
  · exact revS_rev s
theorem tuF_only {s : ByteArray} (h : onlyB s = true) (kind : Int) : onlyB (tuF kind s) = true := by
  unfold tuF
  split
  · exact h
  · exact onlyB_of fun c hc => onlyB_all h c (by simpa [revS] using hc)
theorem tuL_pat {ss : List ByteArray} (h : patB ss = true) (kind : Int) : patB (tuL ss kind) = true ∧ patN (tuL ss kind) = patN ss := by
  obtain ⟨v1, v2, v3, v4, v5⟩ := patB_t h
  refine patB_of (by rw [tuL_len]; exact v1) (by rw [tuL_len]; exact v2) v3 v4 fun s hs => ?_
  obtain ⟨y, hy, rfl⟩ := List.mem_map.1 hs
  have hy' : y < ss.length := by simpa using hy
  refine ⟨tuRow_size h kind y hy', tuF_only ?_ kind⟩
  exact (v5 _ (by split <;> omega)).2
/-- Lists of one length with equal rows. -/
theorem list_eq {xs ys : List ByteArray} (hl : xs.length = ys.length) (h : ∀ y, y < xs.length → xs.getD y ByteArray.empty = ys.getD y ByteArray.empty) : xs = ys := by
  apply List.ext_getElem hl
  intro i h1 h2
  have := h i h1
  rw [List.getD_eq_getElem?_getD, List.getD_eq_getElem?_getD, List.getElem?_eq_getElem h1, List.getElem?_eq_getElem h2] at this
  exact this
theorem tuL_tuL (ss : List ByteArray) (kind : Int) : tuL (tuL ss kind) kind = ss := by
  refine list_eq (by rw [tuL_len, tuL_len]) fun y hy => ?_
  rw [tuL_len, tuL_len] at hy
  rw [tuL_get _ _ _ (by rw [tuL_len]; exact hy)]
  unfold tuRow
  rw [tuL_len]
  by_cases hk : kind = 0
  · rw [if_pos hk, tuL_get _ _ _ hy]
    unfold tuRow
    rw [if_pos hk, tuF_tuF]
  · rw [if_neg hk, tuL_get _ _ _ (by omega)]
    unfold tuRow
    rw [if_neg hk, tuF_tuF]
    congr 1; omega
theorem tuL_01 (ss : List ByteArray) : tuL (tuL ss 0) 1 = tuL ss 2 := by
  refine list_eq (by rw [tuL_len, tuL_len, tuL_len]) fun y hy => ?_
  rw [tuL_len, tuL_len] at hy
  rw [tuL_get _ _ _ (by rw [tuL_len]; exact hy), tuL_get _ _ _ hy]
  unfold tuRow
  rw [tuL_len, if_neg (by decide), tuL_get _ _ _ (by omega)]
  unfold tuRow tuF
  simp
/-- The bytes of a turned pattern. -/
theorem tuL_bt {ss : List ByteArray} (h : patB ss = true) (kind : Int) (y x : Nat) (hy : y < ss.length) (hx : x < patN ss) : bt (tuL ss kind) y x = bt ss (if kind = 0 then y else ss.length - 1 - y) (if kind = 1 then x else patN ss - 1 - x) := by
  obtain ⟨v1, v2, v3, v4, v5⟩ := patB_t h
  unfold bt
  rw [tuL_get ss kind y hy]
  unfold tuRow
  have hm : (if kind = 0 then y else ss.length - 1 - y) < ss.length := by split <;> omega
  generalize (if kind = 0 then y else ss.length - 1 - y) = m at *
  have hs := (v5 m hm).1
  unfold tuF
  by_cases hk : kind = 1
  · rw [if_pos hk, if_pos hk]
  · rw [if_neg hk, if_neg hk, revS_bt _ _ (by rw [hs]; exact hx), hs]
/-- A dark stretch of a diagonal. -/
def Seg (ss : List ByteArray) (st : Int) (L : Nat) : Prop := ∃ y x : Nat, y < ss.length ∧ x + L ≤ patN ss ∧ ∀ n, n < L → 0 ≤ (y : Int) + st * n ∧ (y : Int) + st * n < ss.length ∧ bt ss ((y : Int) + st * n).toNat (x + n) = 35
theorem dgC_t {ss : List ByteArray} {st : Int} {y x n : Nat} : dgC ss st y x n = true ↔ (x + n < patN ss ∧ 0 ≤ (y : Int) + st * n ∧ (y : Int) + st * n < ss.length ∧ bt ss ((y : Int) + st * n).toNat (x + n) = 35) := by
  unfold dgC bt
  simp only [Bool.and_eq_true, decide_eq_true_eq]
  constructor
  · rintro ⟨a, ⟨b, c⟩, d⟩; exact ⟨a, b, c, d⟩
  · rintro ⟨a, b, c, d⟩; exact ⟨a, ⟨b, c⟩, d⟩
theorem rn_all {c : Nat → Bool} (f n L : Nat) (h : L ≤ rn c f n) : ∀ m, n ≤ m → m < L → c m = true := by
  induction f generalizing n with
  | zero => intro m h1 h2; simp [rn] at h; omega
  | succ f ih =>
    intro m h1 h2
    simp only [rn] at h
    split at h
    · rename_i hc
      by_cases e : m = n
      · subst e; exact hc
      · exact ih (n + 1) h m (by omega) h2
    · omega
theorem rn_reach {c : Nat → Bool} (f n L : Nat) (hL : L ≤ n + f) (h : ∀ m, n ≤ m → m < L → c m = true) (hn : n ≤ L) : L ≤ rn c f n := by
  induction f generalizing n with
  | zero => simp [rn]; omega
  | succ f ih =>
    simp only [rn]
    by_cases e : n = L
    · subst e
      split
      · have := rn_le c f (n + 1)
        have hh : n + 1 ≤ rn c f (n + 1) := by
          clear ih hL h hn this
          induction f generalizing n with
          | zero => simp [rn]
          | succ f ih => simp only [rn]; split; exact Nat.le_trans (by omega) (ih (n + 1) (by assumption)); omega
        omega
      · omega
    · rw [if_pos (h n (Nat.le_refl _) (by omega))]
      exact ih (n + 1) (by omega) (fun m h1 h2 => h m (by omega) h2) (by omega)
/-- The greatest run: as long as the longest dark stretch. -/
theorem dgX_ge (ss : List ByteArray) (st : Int) (y : Nat) (b : Int) (k : Nat) : b ≤ dgX ss st y b k ∧ ∀ x, x < k → (dgN ss st y x : Int) ≤ dgX ss st y b k := by
  induction k with
  | zero => exact ⟨Int.le_refl _, fun x hx => by omega⟩
  | succ k ih =>
    obtain ⟨h1, h2⟩ := ih
    simp only [dgX, mxI]
    constructor
    · split <;> omega
    · intro x hx
      by_cases e : x = k
      · subst e; split <;> omega
      · have := h2 x (by omega)
        split <;> omega
theorem dgX_is (ss : List ByteArray) (st : Int) (y : Nat) (b : Int) (k : Nat) : dgX ss st y b k = b ∨ ∃ x, x < k ∧ dgX ss st y b k = dgN ss st y x := by
  induction k with
  | zero => exact .inl rfl
  | succ k ih =>
    simp only [dgX, mxI]
    split
    · exact .inr ⟨k, by omega, rfl⟩
    · rcases ih with h | ⟨x, hx, h⟩
      · exact .inl h
      · exact .inr ⟨x, by omega, h⟩
theorem dgY_ge (ss : List ByteArray) (st : Int) (k : Nat) : 0 ≤ dgY ss st k ∧ ∀ y x, y < k → x < patN ss → (dgN ss st y x : Int) ≤ dgY ss st k := by
  induction k with
  | zero => exact ⟨Int.le_refl _, fun y x hy => by omega⟩
  | succ k ih =>
    obtain ⟨h1, h2⟩ := ih
    obtain ⟨g1, g2⟩ := dgX_ge ss st k (dgY ss st k) (patN ss)
    simp only [dgY]
    refine ⟨by omega, fun y x hy hx => ?_⟩
    by_cases e : y = k
    · subst e; exact g2 x hx
    · have := h2 y x (by omega) hx
      omega
theorem dgY_is (ss : List ByteArray) (st : Int) (k : Nat) : dgY ss st k = 0 ∨ ∃ y x, y < k ∧ x < patN ss ∧ dgY ss st k = dgN ss st y x := by
  induction k with
  | zero => exact .inl rfl
  | succ k ih =>
    simp only [dgY]
    rcases dgX_is ss st k (dgY ss st k) (patN ss) with h | ⟨x, hx, h⟩
    · rw [h]
      rcases ih with h | ⟨y, x, hy, hx, h⟩
      · exact .inl h
      · exact .inr ⟨y, x, by omega, hx, h⟩
    · exact .inr ⟨k, x, by omega, hx, h⟩
theorem seg_le {ss : List ByteArray} {st : Int} {L : Nat} (h : Seg ss st L) (h1 : 1 ≤ L) : (L : Int) ≤ diG ss st := by
  obtain ⟨y, x, hy, hx, hc⟩ := h
  have h2 := (dgY_ge ss st ss.length).2 y x hy (by omega)
  have h3 : L ≤ dgN ss st y x := rn_reach (c := dgC ss st y x) (patN ss) 0 L (by omega) (fun m _ hm => dgC_t.2 ⟨by omega, hc m hm⟩) (by omega)
  unfold diG; omega
theorem seg_is {ss : List ByteArray} (st : Int) (h0 : diG ss st ≠ 0) : ∃ L : Nat, 1 ≤ L ∧ diG ss st = L ∧ Seg ss st L := by
  rcases dgY_is ss st ss.length with h | ⟨y, x, hy, hx, h⟩
  · exact absurd h h0
  · have h1 : diG ss st = dgN ss st y x := h
    refine ⟨dgN ss st y x, by omega, h1, y, x, hy, ?_, fun n hn => ?_⟩
    · have hN : 1 ≤ dgN ss st y x := by omega
      have := dgC_t.1 (rn_all (c := dgC ss st y x) (patN ss) 0 (dgN ss st y x) (Nat.le_refl _) (dgN ss st y x - 1) (by omega) (by omega))
      omega
    · have := dgC_t.1 (rn_all (c := dgC ss st y x) (patN ss) 0 (dgN ss st y x) (Nat.le_refl _) n (by omega) hn)
      exact this.2
theorem diG_nonneg (ss : List ByteArray) (st : Int) : 0 ≤ diG ss st := (dgY_ge ss st ss.length).1
/-- Where stretches are alike, so are the greatest runs. -/
theorem diG_le {xs ys : List ByteArray} {st st' : Int} (h : ∀ L, 1 ≤ L → Seg xs st L → Seg ys st' L) : diG xs st ≤ diG ys st' := by
  by_cases h0 : diG xs st = 0
  · rw [h0]; exact diG_nonneg _ _
  · obtain ⟨L, h1, h2, h3⟩ := seg_is st h0
    rw [h2]; exact seg_le (h L h1 h3) h1
end Go.Proofs.Ytlkdkidpbjpkhaa
