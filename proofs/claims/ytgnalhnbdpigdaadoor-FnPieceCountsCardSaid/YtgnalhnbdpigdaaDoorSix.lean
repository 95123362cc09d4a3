/- Contracts of the laws' own small functions f6big, f6ints (on equal lists) and f6sum; memory as before; condition: the slices can be read. -/
import Derived.Test.YtgnalhnbdpigdaaDoorSlice
namespace Go.Proofs.YtgnalhnbdpigdaaDoor
set_option linter.unusedVariables false
open Go.RowKit

def bigB (n : Nat) : Bool := decide (4096 < n)
set_option maxHeartbeats 1000000 in
theorem f6big_any (a : Option Addr) (len cap : Nat) (w : World) (h : len ≤ maxLen) :
    Calls Tryd.prog 8 #[.slice a len cap] w fun e w' => e = .returned (.bool (bigB len)) ∧ w = w' := by
  unfold maxLen at h
  by_cases h1 : 4096 < len
  · have HE := Lib.hid (show bigB len = true by simp [bigB, h1])
    have g1 : (4096 : Int) < (len : Int) := by omega
    go_enter Tryd.func8, Tryd.ntmps8
    go_wp2
    go_ret
    exact ⟨ret_bool (by rw [HE.out]), rfl⟩
  · have HE := Lib.hid (show bigB len = false by simp [bigB, h1])
    have g1 : ¬ (4096 : Int) < (len : Int) := by omega
    go_enter Tryd.func8, Tryd.ntmps8
    go_wp2
    go_ret
    exact ⟨ret_bool (by rw [HE.out]), rfl⟩
set_option maxHeartbeats 2000000 in
theorem f6ints_same (a a' : Option Addr) (len cap cap' : Nat) (zs : List Int) (w : World) (h : IsRow .i64 w a len cap zs) (h' : IsRow .i64 w a' len cap' zs) :
    Calls Tryd.prog 29 #[.slice a len cap, .slice a' len cap'] w fun e w' => e = .returned (.bool true) ∧ Below w.heap.size w w' := by
  have hm : len ≤ maxLen := Nat.le_trans h.2.1 h.2.2.1
  unfold maxLen at hm
  have H := Lib.hid h
  have H' := Lib.hid h'
  clear h h'
  go_enter Tryd.func29, Tryd.ntmps29
  go_wp2
  go_loopw [5] (fun i wr => ∃ k : Nat, k ≤ len ∧ i = .int .i64 (k : Int) ∧ Below w.heap.size w wr) (fun i _ => (len - intOf i).toNat)
  case atStart => exact ⟨0, by omega, rfl, Below.refl _ _⟩
  case round =>
    obtain ⟨k, hk, rfl, hB⟩ := hrel
    by_cases hlt : k < len
    · obtain ⟨b, o, rfl, hb, hc⟩ := (H.out.below hB).cell hlt
      obtain ⟨b', o', rfl, hb', hc'⟩ := (H'.out.below hB).cell hlt
      generalize zs.getD k 0 = x at *
      have hlt' : (k : Int) < (len : Int) := by omega
      go_wp2
      go_quiet (fail)
      go_wp2
      go_roundw
      case rel => exact ⟨k + 1, by omega, by go_num, below_drewN hB _⟩
      case measure => simp [intOf]; omega
    · go_wp2
      go_ret
      exact ⟨rfl, hB⟩
/-- The sum of the first k. -/
def preQ (ys : List Int) : Nat → Int
  | 0 => 0
  | k + 1 => preQ ys k + ys.getD k 0
theorem preQ_bd {ys : List Int} {B : Int} {n : Nat} (h : ∀ k, k < n → 0 ≤ ys.getD k 0 ∧ ys.getD k 0 ≤ B) (k : Nat) (hk : k ≤ n) : 0 ≤ preQ ys k ∧ preQ ys k ≤ k * B := by
  induction k with
  | zero => simp [preQ]
  | succ k ih =>
    have h1 := ih (by omega)
    have h2 := h k (by omega)
    have e : (((k + 1 : Nat) : Int)) * B = (k : Int) * B + B := by rw [Int.natCast_add, Int.add_mul]; simp
    simp only [preQ]
    rw [e]
    omega
set_option maxHeartbeats 1000000 in
theorem f6sum_same (a : Option Addr) (len cap : Nat) (ys : List Int) (w : World) (h : IsRow .i64 w a len cap ys) (hlen : len ≤ 1048576) (hb : ∀ k, k < len → 0 ≤ ys.getD k 0 ∧ ys.getD k 0 ≤ 1000000000) :
    Calls Tryd.prog 32 #[.slice a len cap] w fun e w' => e = .returned (.int .i64 (preQ ys len)) ∧ w = w' := by
  have hl := h.1
  have H := Lib.hid h
  have HB := Lib.hid (fun k (hk : k ≤ len) => preQ_bd (n := len) hb k hk)
  have HE := Lib.hid hb
  clear h hb hl
  go_enter Tryd.func32, Tryd.ntmps32
  go_wp2
  go_loop [3, 4] (fun s i => ∃ k : Nat, k ≤ len ∧ i = .int .i64 (k : Int) ∧ s = .int .i64 (preQ ys k)) (fun _ i => (len - intOf i).toNat)
  case atStart => exact ⟨0, by omega, rfl, rfl⟩
  case round =>
    obtain ⟨k, hk, rfl, rfl⟩ := hrel
    by_cases hlt : k < len
    · obtain ⟨b, o, rfl, hb, hc⟩ := H.out.cell hlt
      have hlt' : (k : Int) < (len : Int) := by omega
      obtain ⟨x1, x2⟩ := HB.out k (by omega)
      obtain ⟨x3, x4⟩ := HE.out k hlt
      have HS := Lib.hid (show preQ ys (k + 1) = preQ ys k + ys.getD k 0 from rfl)
      generalize ys.getD k 0 = x at *
      generalize preQ ys k = s at *
      have hk9 : (k : Int) * 1000000000 ≤ 1048576 * 1000000000 := Int.mul_le_mul_of_nonneg_right (by omega) (by omega)
      go_wp2
      go_round
      case rel => exact ⟨k + 1, by omega, by go_num, by rw [HS.out]⟩
      case measure => first | (simp [intOf]; done) | (simp [intOf]; omega)
    · obtain rfl : k = len := by omega
      go_wp2
      go_ret
      exact ⟨rfl, rfl⟩
theorem f6sum_any (a : Option Addr) (len cap : Nat) (ys : List Int) (w : World) (h : IsRow .i64 w a len cap ys) (hlen : len ≤ 1048576) (hb : ∀ k, k < len → 0 ≤ ys.getD k 0 ∧ ys.getD k 0 ≤ 1000000000) :
    Calls Tryd.prog 32 #[.slice a len cap] w fun e w' => e = .returned (.int .i64 (preQ ys len)) ∧ Below w.heap.size w w' :=
  (f6sum_same a len cap ys w h hlen hb).mono fun e w' ⟨he, hw⟩ => ⟨he, hw ▸ Below.refl _ _⟩
end Go.Proofs.YtgnalhnbdpigdaaDoor
