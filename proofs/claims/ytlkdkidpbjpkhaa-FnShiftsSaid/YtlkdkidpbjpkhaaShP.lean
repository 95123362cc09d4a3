/- The plain law of shifted patterns: a shifted row by its bytes, when a shifted pattern is another one, and the list of all shifts; no program in sight. -/
import Derived.Test.YtlkdkidpbjpkhaaPatS
namespace Go.Proofs.Ytlkdkidpbjpkhaa
open Go.RowKit

/-- The truncating remainder made positive. -/
theorem modT (a n : Int) (hn : 0 < n) : ((a.tmod n) + n).tmod n = a % n := by
  have h1 : (a.tmod n + n) % n = a % n := by
    rw [Int.add_emod_right, Int.tmod_eq_emod]
    split
    · simp
    · rw [show (n.natAbs : Int) = n by omega, Int.sub_emod_right, Int.emod_emod_of_dvd _ (Int.dvd_refl n)]
  have h2 : 0 ≤ a.tmod n + n := by
    have := Int.tmod_eq_emod (a := a) (b := n)
    have h3 := Int.emod_nonneg a (show n ≠ 0 by omega)
    split at this <;> omega
  rw [Int.tmod_eq_emod_of_nonneg h2, h1]
/-- A byte of the shifted pattern. -/
def shB (ss : List ByteArray) (r u : Int) (y x : Nat) : UInt8 := (ss.getD (((y : Int) - u) % (ss.length : Int)).toNat ByteArray.empty).data.toList.getD (((x : Int) - r) % (patN ss : Int)).toNat 0
/-- The shifted pattern is another one of the same size. -/
def isRow (a b : List ByteArray) (r u : Int) (y : Nat) : Bool := (List.range (patN a)).all fun x => decide (shB a r u y x = (b.getD y ByteArray.empty).data.toList.getD x 0)
def isB (a b : List ByteArray) (r u : Int) : Bool := (List.range a.length).all fun y => isRow a b r u y
theorem isB_t {a b : List ByteArray} {r u : Int} (h : isB a b r u = true) (y x : Nat) (hy : y < a.length) (hx : x < patN a) : shB a r u y x = (b.getD y ByteArray.empty).data.toList.getD x 0 := by
  have h1 := List.all_eq_true.1 h y (by simpa using hy)
  exact of_decide_eq_true (List.all_eq_true.1 h1 x (by simpa using hx))
theorem isB_mk {a b : List ByteArray} {r u : Int} (h : ∀ y x, y < a.length → x < patN a → shB a r u y x = (b.getD y ByteArray.empty).data.toList.getD x 0) : isB a b r u = true :=
  List.all_eq_true.2 fun y hy => List.all_eq_true.2 fun x hx => decide_eq_true (h y x (by simpa using hy) (by simpa using hx))
theorem isB_no {a b : List ByteArray} {r u : Int} {y x : Nat} (hy : y < a.length) (hx : x < patN a) (h : ¬ shB a r u y x = (b.getD y ByteArray.empty).data.toList.getD x 0) : isB a b r u = false := by
  cases e : isB a b r u
  · rfl
  · exact absurd (isB_t e y x hy hx) h
/-- A row that is turned by k. -/
def rotS (s : ByteArray) (k : Nat) : ByteArray := s.extract k s.size ++ s.extract 0 k
theorem rotS_size (s : ByteArray) (k : Nat) (hk : k ≤ s.size) : (rotS s k).size = s.size := by
  unfold rotS; simp; omega
theorem rotS_get (s : ByteArray) (k x : Nat) (hk : k ≤ s.size) (hx : x < s.size) : (rotS s k).data.toList.getD x 0 = s.data.toList.getD (if x + k < s.size then x + k else x + k - s.size) 0 := by
  unfold rotS
  rw [List.getD_eq_getElem?_getD, List.getD_eq_getElem?_getD]
  congr 1
  simp only [ByteArray.data_append, ByteArray.data_extract, Array.toList_append, Array.toList_extract, List.extract_eq_take_drop]
  have hl : s.data.toList.length = s.size := by simp
  split
  · rw [List.getElem?_append_left (by simp; omega), List.getElem?_take_of_lt (by omega), List.getElem?_drop]
    congr 1; omega
  · rw [List.getElem?_append_right (by simp; omega), List.getElem?_take_of_lt (by simp; omega), List.getElem?_drop]
    congr 1
    simp; omega
/-- A shifted row, and the shifted pattern. -/
def shRow (ss : List ByteArray) (r u : Int) (y : Nat) : ByteArray := rotS (ss.getD (((y : Int) - u) % (ss.length : Int)).toNat ByteArray.empty) (patN ss - (r % (patN ss : Int)).toNat)
def shL (ss : List ByteArray) (r u : Int) : List ByteArray := (List.range ss.length).map (shRow ss r u)
theorem shL_len (ss : List ByteArray) (r u : Int) : (shL ss r u).length = ss.length := by simp [shL]
theorem shL_get (ss : List ByteArray) (r u : Int) (y : Nat) (hy : y < ss.length) : (shL ss r u).getD y ByteArray.empty = shRow ss r u y := by
  simp [shL, List.getD_eq_getElem?_getD, hy]
theorem modN {a n : Int} (hn : 0 < n) : 0 ≤ a % n ∧ a % n < n := ⟨Int.emod_nonneg a (by omega), Int.emod_lt_of_pos a hn⟩
theorem shRow_size {ss : List ByteArray} (h : patB ss = true) (r u : Int) (y : Nat) : (shRow ss r u y).size = patN ss := by
  obtain ⟨v1, v2, v3, v4, v5⟩ := patB_t h
  have m1 := modN (a := (y : Int) - u) (n := (ss.length : Int)) (by omega)
  have hs := (v5 (((y : Int) - u) % (ss.length : Int)).toNat (by omega)).1
  unfold shRow
  rw [rotS_size _ _ (by rw [hs]; omega), hs]
theorem shRow_get {ss : List ByteArray} (h : patB ss = true) (r u : Int) (y x : Nat) (hx : x < patN ss) : (shRow ss r u y).data.toList.getD x 0 = shB ss r u y x := by
  obtain ⟨v1, v2, v3, v4, v5⟩ := patB_t h
  have m1 := modN (a := (y : Int) - u) (n := (ss.length : Int)) (by omega)
  have m2 := modN (a := r) (n := (patN ss : Int)) (by omega)
  have hs := (v5 (((y : Int) - u) % (ss.length : Int)).toNat (by omega)).1
  unfold shRow shB
  rw [rotS_get _ _ _ (by rw [hs]; omega) (by rw [hs]; exact hx), hs]
  congr 1
  have e : ((x : Int) - r) % (patN ss : Int) = ((x : Int) - r % (patN ss : Int)) % (patN ss : Int) := by rw [Int.sub_emod, Int.sub_emod (x : Int) (r % (patN ss : Int)), Int.emod_emod_of_dvd _ (Int.dvd_refl _)]
  rw [e]
  generalize r % (patN ss : Int) = q at *
  by_cases hq : q ≤ (x : Int)
  · rw [Int.emod_eq_of_lt (by omega) (by omega)]
    split <;> omega
  · rw [← Int.add_emod_right, Int.emod_eq_of_lt (by omega) (by omega)]
    split <;> omega
/-- A byte array by its bytes. -/
theorem bytes_eq {s t : ByteArray} (hl : s.size = t.size) (h : ∀ x, x < s.size → s.data.toList.getD x 0 = t.data.toList.getD x 0) : s = t := by
  apply ByteArray.ext
  apply Array.toList_inj.1
  apply List.ext_getElem
  · simpa using hl
  · intro i h1 h2
    have := h i (by simpa using h1)
    rw [List.getD_eq_getElem?_getD, List.getD_eq_getElem?_getD, List.getElem?_eq_getElem h1, List.getElem?_eq_getElem h2] at this
    exact this
/-- The program's comparison of lists is the reference's comparison of bytes. -/
theorem same_is {a b : List ByteArray} (ha : patB a = true) (hl : b.length = a.length) (hw : ∀ y, y < a.length → (b.getD y ByteArray.empty).size = patN a) (r u : Int) : sameB (shL a r u) b = isB a b r u := by
  cases e : isB a b r u
  · cases g : sameB (shL a r u) b
    · rfl
    · obtain ⟨_, g2⟩ := sameB_t g
      rw [shL_len] at g2
      have : isB a b r u = true := isB_mk fun y x hy hx => by
        rw [← shRow_get ha r u y x hx, ← shL_get a r u y hy, g2 y hy]
      rw [this] at e; cases e
  · refine sameB_mk (by rw [shL_len, hl]) fun y hy => ?_
    rw [shL_len] at hy
    rw [shL_get a r u y hy]
    refine bytes_eq (by rw [shRow_size ha, hw y hy]) fun x hx => ?_
    rw [shRow_size ha] at hx
    rw [shRow_get ha r u y x hx]
    exact isB_t e y x hy hx
/-- All shifts that make one pattern into another, in order: those of the first r columns of a round, those of the first rounds. -/
def fR (a b : List ByteArray) (u : Nat) (acc : List (Nat × Nat)) : Nat → List (Nat × Nat)
  | 0 => acc
  | r + 1 => if isB a b r u = true then fR a b u acc r ++ [(r, u)] else fR a b u acc r
def fU (a b : List ByteArray) : Nat → List (Nat × Nat)
  | 0 => []
  | u + 1 => fR a b u (fU a b u) (patN a)
def fL (a b : List ByteArray) : List (Nat × Nat) := fU a b a.length
theorem fR_len (a b : List ByteArray) (u : Nat) (acc : List (Nat × Nat)) (r : Nat) : (fR a b u acc r).length ≤ acc.length + r := by
  induction r with
  | zero => simp [fR]
  | succ r ih =>
    simp only [fR]
    split
    · simp; omega
    · omega
theorem fU_len (a b : List ByteArray) (u : Nat) : (fU a b u).length ≤ u * patN a := by
  induction u with
  | zero => simp [fU]
  | succ u ih =>
    have := fR_len a b u (fU a b u) (patN a)
    rw [Nat.succ_mul]
    simp only [fU]; omega
theorem fR_head (a b : List ByteArray) (u : Nat) (acc : List (Nat × Nat)) {p : Nat × Nat} (r k : Nat) (h : (fR a b u acc r).head? = some p) (hk : r ≤ k) : (fR a b u acc k).head? = some p := by
  induction k with
  | zero => obtain rfl : r = 0 := by omega
            exact h
  | succ k ih =>
    by_cases e : r = k + 1
    · subst e; exact h
    · have := ih (by omega)
      simp only [fR]
      split
      · rw [List.head?_append, this]; rfl
      · exact this
theorem fU_head (a b : List ByteArray) {p : Nat × Nat} (u k : Nat) (h : (fU a b u).head? = some p) (hk : u ≤ k) : (fU a b k).head? = some p := by
  induction k with
  | zero => obtain rfl : u = 0 := by omega
            exact h
  | succ k ih =>
    by_cases e : u = k + 1
    · subst e; exact h
    · exact fR_head a b k (fU a b k) 0 (patN a) (ih (by omega)) (Nat.zero_le _)
/-- The first shift. -/
theorem fL_first {a b : List ByteArray} {r u : Nat} (hu : u < a.length) (hr : r < patN a) (h0 : fR a b u (fU a b u) r = []) (h : isB a b r u = true) : (fL a b).head? = some (r, u) := by
  refine fU_head a b (u + 1) a.length ?_ (by omega)
  show (fR a b u (fU a b u) (patN a)).head? = some (r, u)
  refine fR_head a b u (fU a b u) (r + 1) (patN a) ?_ (by omega)
  simp [fR, h, h0]
end Go.Proofs.Ytlkdkidpbjpkhaa
