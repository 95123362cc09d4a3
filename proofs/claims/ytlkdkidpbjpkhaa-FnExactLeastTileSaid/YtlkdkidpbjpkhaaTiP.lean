/- The plain law of the least tile; no program in sight. -/
import Derived.Test.YtlkdkidpbjpkhaaShT
import Derived.Test.YtlkdkidpbjpkhaaDiagP
namespace Go.Proofs.Ytlkdkidpbjpkhaa
open Go.RowKit

/-- A width, and a height, of a tile. -/
def cW (ss : List ByteArray) (n : Nat) : Bool := decide (patN ss % n = 0) && isB ss ss (n : Int) 0
def cH (ss : List ByteArray) (n : Nat) : Bool := decide (ss.length % n = 0) && isB ss ss 0 (n : Int)
theorem cW_all {ss : List ByteArray} (h : patB ss = true) : cW ss (patN ss) = true := by
  obtain ⟨v1, v2, v3, v4, v5⟩ := patB_t h
  unfold cW
  rw [Nat.mod_self, isB_mk fun y x hy hx => ?_]
  · rfl
  · unfold shB
    rw [Int.sub_zero, Int.emod_eq_of_lt (by omega) (by omega), Int.sub_emod_right, Int.emod_eq_of_lt (by omega) (by omega)]
    simp
theorem cH_all {ss : List ByteArray} (h : patB ss = true) : cH ss ss.length = true := by
  obtain ⟨v1, v2, v3, v4, v5⟩ := patB_t h
  unfold cH
  rw [Nat.mod_self, isB_mk fun y x hy hx => ?_]
  · rfl
  · unfold shB
    rw [Int.sub_zero, Int.sub_emod_right, Int.emod_eq_of_lt (by omega) (by omega), Int.emod_eq_of_lt (by omega) (by omega)]
    simp
def tiW (ss : List ByteArray) : Nat := rn (fun n => !cW ss n) (patN ss - 1) 1
def tiH (ss : List ByteArray) : Nat := rn (fun n => !cH ss n) (ss.length - 1) 1
theorem rn_ge (c : Nat → Bool) (f n : Nat) : n ≤ rn c f n := by
  induction f generalizing n with
  | zero => simp [rn]
  | succ f ih =>
    simp only [rn]
    split
    · have := ih (n + 1); omega
    · omega
theorem tiW_bd {ss : List ByteArray} (h : patB ss = true) : 1 ≤ tiW ss ∧ tiW ss ≤ patN ss := by
  obtain ⟨v1, v2, v3, v4, v5⟩ := patB_t h
  have a := rn_le (fun n => !cW ss n) (patN ss - 1) 1
  have b := rn_ge (fun n => !cW ss n) (patN ss - 1) 1
  unfold tiW; omega
theorem tiH_bd {ss : List ByteArray} (h : patB ss = true) : 1 ≤ tiH ss ∧ tiH ss ≤ ss.length := by
  obtain ⟨v1, v2, v3, v4, v5⟩ := patB_t h
  have a := rn_le (fun n => !cH ss n) (ss.length - 1) 1
  have b := rn_ge (fun n => !cH ss n) (ss.length - 1) 1
  unfold tiH; omega
/-- A round of the search. -/
theorem tiW_no {ss : List ByteArray} (h : patB ss = true) {n : Nat} (hn : n ≤ patN ss) (hI : rn (fun n => !cW ss n) (patN ss - n) n = tiW ss) (hc : cW ss n = false) : n + 1 ≤ patN ss ∧ rn (fun n => !cW ss n) (patN ss - (n + 1)) (n + 1) = tiW ss := by
  have hne : n ≠ patN ss := fun e => by rw [e, cW_all h] at hc; cases hc
  have hlt : n < patN ss := by omega
  exact ⟨hlt, by rw [← rn_yes (c := fun n => !cW ss n) (by simp [hc]) hlt]; exact hI⟩
theorem tiW_yes {ss : List ByteArray} {n : Nat} (hI : rn (fun n => !cW ss n) (patN ss - n) n = tiW ss) (hc : cW ss n = true) : n = tiW ss := by
  rw [← hI]
  exact (rn_no (c := fun n => !cW ss n) (by simp [hc]) _).symm
theorem tiH_no {ss : List ByteArray} (h : patB ss = true) {n : Nat} (hn : n ≤ ss.length) (hI : rn (fun n => !cH ss n) (ss.length - n) n = tiH ss) (hc : cH ss n = false) : n + 1 ≤ ss.length ∧ rn (fun n => !cH ss n) (ss.length - (n + 1)) (n + 1) = tiH ss := by
  have hne : n ≠ ss.length := fun e => by rw [e, cH_all h] at hc; cases hc
  have hlt : n < ss.length := by omega
  exact ⟨hlt, by rw [← rn_yes (c := fun n => !cH ss n) (by simp [hc]) hlt]; exact hI⟩
theorem tiH_yes {ss : List ByteArray} {n : Nat} (hI : rn (fun n => !cH ss n) (ss.length - n) n = tiH ss) (hc : cH ss n = true) : n = tiH ss := by
  rw [← hI]
  exact (rn_no (c := fun n => !cH ss n) (by simp [hc]) _).symm
theorem cW_a {ss : List ByteArray} {n : Nat} (h : patN ss % n ≠ 0) : cW ss n = false := by unfold cW; rw [decide_eq_false h]; rfl
theorem cW_b {ss : List ByteArray} {n : Nat} (h : patN ss % n = 0) : cW ss n = isB ss ss (n : Int) 0 := by unfold cW; rw [decide_eq_true h]; rfl
theorem cH_a {ss : List ByteArray} {n : Nat} (h : ss.length % n ≠ 0) : cH ss n = false := by unfold cH; rw [decide_eq_false h]; rfl
theorem cH_b {ss : List ByteArray} {n : Nat} (h : ss.length % n = 0) : cH ss n = isB ss ss 0 (n : Int) := by unfold cH; rw [decide_eq_true h]; rfl
/-- The tile. -/
def tiL (ss : List ByteArray) (w k : Nat) : List ByteArray := (List.range k).map fun y => (ss.getD y ByteArray.empty).extract 0 w
theorem tiL_len (ss : List ByteArray) (w k : Nat) : (tiL ss w k).length = k := by simp [tiL]
theorem tiL_next (ss : List ByteArray) (w k : Nat) : tiL ss w (k + 1) = tiL ss w k ++ [(ss.getD k ByteArray.empty).extract 0 w] := by simp [tiL, List.range_succ]
theorem tiL_size (ss : List ByteArray) (w k : Nat) (hw : w ≤ 1000000) : ∀ s ∈ tiL ss w k, s.size ≤ maxLen := fun s hs => by
  obtain ⟨y, hy, rfl⟩ := List.mem_map.1 hs
  simp only [ByteArray.size_extract]
  unfold maxLen; omega
def tiI (ss : List ByteArray) : List ByteArray := if patB ss = true then tiL ss (tiW ss) (tiH ss) else []
theorem tiI_len (ss : List ByteArray) : (tiI ss).length ≤ 1000000 := by
  unfold tiI
  split
  · have h := tiH_bd (ss := ss) (by assumption)
    have := (patB_t (ss := ss) (by assumption)).2.1
    rw [tiL_len]; omega
  · simp
theorem ti_no {ss : List ByteArray} (h : patB ss = false) : tiI ss = [] := by simp [tiI, h]
theorem ti_yes {ss : List ByteArray} (h : patB ss = true) : tiI ss = tiL ss (tiW ss) (tiH ss) := by simp [tiI, h]
theorem rem_nat (a b : Nat) : (a : Int).tmod (b : Int) = ((a % b : Nat) : Int) := by
  rw [Int.tmod_eq_emod_of_nonneg (by omega)]; rfl
end Go.Proofs.Ytlkdkidpbjpkhaa
