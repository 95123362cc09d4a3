/- The plain law of turned patterns; no program in sight. -/
import Derived.Test.YtlkdkidpbjpkhaaShT
namespace Go.Proofs.Ytlkdkidpbjpkhaa
open Go.RowKit

/-- A row from the other side. -/
def revS (s : ByteArray) : ByteArray := ⟨s.data.toList.reverse.toArray⟩
theorem revS_size (s : ByteArray) : (revS s).size = s.size := by
  show (s.data.toList.reverse.toArray).size = s.data.size
  simp
/-- A row of a pattern with a turn, and the pattern with a turn. -/
def tuF (kind : Int) (s : ByteArray) : ByteArray := if kind = 1 then s else revS s
def tuRow (ss : List ByteArray) (kind : Int) (y : Nat) : ByteArray := tuF kind (ss.getD (if kind = 0 then y else ss.length - 1 - y) ByteArray.empty)
def tuL (ss : List ByteArray) (kind : Int) : List ByteArray := (List.range ss.length).map (tuRow ss kind)
/-- The rows turned one by one, in their order. -/
def tuM (ss : List ByteArray) (kind : Int) (k : Nat) : List ByteArray := (List.range k).map fun y => tuF kind (ss.getD y ByteArray.empty)
theorem tuM_len (ss : List ByteArray) (kind : Int) (k : Nat) : (tuM ss kind k).length = k := by simp [tuM]
theorem tuM_next (ss : List ByteArray) (kind : Int) (k : Nat) : tuM ss kind (k + 1) = tuM ss kind k ++ [tuF kind (ss.getD k ByteArray.empty)] := by simp [tuM, List.range_succ]
theorem tuL_len (ss : List ByteArray) (kind : Int) : (tuL ss kind).length = ss.length := by simp [tuL]
theorem tuL_0 (ss : List ByteArray) : tuM ss 0 ss.length = tuL ss 0 := by simp [tuM, tuL, tuRow]
theorem tuL_1 (ss : List ByteArray) {kind : Int} (h : kind ≠ 0) : (tuM ss kind ss.length).reverse = tuL ss kind := by
  apply List.ext_getElem
  · simp [tuM, tuL]
  · intro i h1 h2
    rw [List.getElem_reverse]
    simp [tuM, tuL, tuRow, h]
theorem tuF_size (kind : Int) (s : ByteArray) : (tuF kind s).size = s.size := by
  unfold tuF; split
  · rfl
  · exact revS_size s
theorem tuL_get (ss : List ByteArray) (kind : Int) (y : Nat) (hy : y < ss.length) : (tuL ss kind).getD y ByteArray.empty = tuRow ss kind y := by
  simp [tuL, List.getD_eq_getElem?_getD, hy]
theorem tuRow_size {ss : List ByteArray} (h : patB ss = true) (kind : Int) (y : Nat) (hy : y < ss.length) : (tuRow ss kind y).size = patN ss := by
  obtain ⟨v1, v2, v3, v4, v5⟩ := patB_t h
  unfold tuRow
  rw [tuF_size]
  exact (v5 _ (by split <;> omega)).1
theorem tuL_size {ss : List ByteArray} (h : patB ss = true) (kind : Int) : ∀ s ∈ tuL ss kind, s.size ≤ maxLen := fun s hs => by
  obtain ⟨y, hy, rfl⟩ := List.mem_map.1 hs
  rw [tuRow_size h kind y (by simpa using hy)]
  have := (patB_t h).2.2.2.1
  unfold maxLen; omega
theorem tuM_size {ss : List ByteArray} (h : patB ss = true) (kind : Int) (k : Nat) (hk : k ≤ ss.length) : ∀ s ∈ tuM ss kind k, s.size ≤ maxLen := fun s hs => by
  obtain ⟨y, hy, rfl⟩ := List.mem_map.1 hs
  obtain ⟨v1, v2, v3, v4, v5⟩ := patB_t h
  have hy' : y < k := by simpa using hy
  rw [tuF_size, (v5 y (by omega)).1]
  unfold maxLen; omega
theorem revS_of (s : ByteArray) : (⟨s.data.toList.reverse.toArray⟩ : ByteArray) = revS s := rfl
theorem sameS_of (s : ByteArray) : (⟨s.data.toList.toArray⟩ : ByteArray) = s := by cases s; simp
/-- The pattern with a turn, or nothing, the code, and whether a shift makes it. -/
def tuC (ss : List ByteArray) (kind : Int) : Int := if patB ss = false then 1 else if inB kind 0 2 = false then 2 else 0
def tuI (ss : List ByteArray) (kind : Int) : List ByteArray := if patB ss = true ∧ inB kind 0 2 = true then tuL ss kind else []
def tuK (ss : List ByteArray) (kind : Int) : Bool := if patB ss = true ∧ inB kind 0 2 = true then hdB (fL ss (tuL ss kind)) else false
theorem tuI_len (ss : List ByteArray) (kind : Int) : (tuI ss kind).length ≤ 1000000 := by
  unfold tuI
  split
  · have := (patB_t (by rename_i h; exact h.1)).2.1
    rw [tuL_len]; omega
  · simp
theorem tu_1 {ss : List ByteArray} {kind : Int} (h : patB ss = false) : tuC ss kind = 1 ∧ tuI ss kind = [] ∧ tuK ss kind = false := by simp [tuC, tuI, tuK, h]
theorem tu_2 {ss : List ByteArray} {kind : Int} (h : patB ss = true) (h2 : inB kind 0 2 = false) : tuC ss kind = 2 ∧ tuI ss kind = [] ∧ tuK ss kind = false := by simp [tuC, tuI, tuK, h, h2]
theorem tu_0 {ss : List ByteArray} {kind : Int} (h : patB ss = true) (h2 : inB kind 0 2 = true) : tuC ss kind = 0 ∧ tuI ss kind = tuL ss kind ∧ tuK ss kind = hdB (fL ss (tuL ss kind)) := by simp [tuC, tuI, tuK, h, h2]
theorem revU_next {bs : List UInt8} {k m : Nat} (h : m + k + 1 = bs.length) : bs.reverse.take (k + 1) = bs.reverse.take k ++ [bs.getD m 0] := by
  have hk : k < bs.reverse.length := by simp; omega
  rw [List.take_succ_eq_append_getElem hk, List.getElem_reverse, List.getD_eq_getElem?_getD, List.getElem?_eq_getElem (show m < bs.length by omega)]
  have : bs.length - 1 - k = m := by omega
  simp [this]
theorem revU_len {bs : List UInt8} {k : Nat} (h : k ≤ bs.length) : (bs.reverse.take k).length = k := by simp; omega
end Go.Proofs.Ytlkdkidpbjpkhaa
