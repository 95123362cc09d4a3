/- Contracts of the small functions on numbers, ranges and fractions that both the program and the reference use; each says what a call returns, and that it turns no old memory. -/
import Derived.Test.YtgnalhnbdpigdaaDoorBase
namespace Go.Proofs.YtgnalhnbdpigdaaDoor
open Go.RowKit

set_option maxHeartbeats 400000 in
theorem within_any (n lo hi : Int) (w : World) :
    Calls Tryd.prog 53 #[.int .i64 n, .int .i64 lo, .int .i64 hi] w fun e w' => e = .returned (.bool (inB n lo hi)) ∧ w = w' := by
  by_cases h1 : lo ≤ n <;> by_cases h2 : n ≤ hi <;>
  · go_enter Tryd.func53, Tryd.ntmps53
    go_wp2
    go_ret
    exact ⟨by simp [inB, h1, h2], rfl⟩
set_option maxHeartbeats 400000 in
theorem l00In_any (n lo hi : Int) (w : World) :
    Calls Tryd.prog 55 #[.int .i64 n, .int .i64 lo, .int .i64 hi] w fun e w' => e = .returned (.bool (inB n lo hi)) ∧ w = w' := by
  by_cases h1 : lo ≤ n <;> by_cases h2 : n ≤ hi <;>
  · go_enter Tryd.func55, Tryd.ntmps55
    go_wp2
    go_ret
    exact ⟨by simp [inB, h1, h2], rfl⟩
set_option maxHeartbeats 400000 in
theorem gcd_any (a b : Int) (w : World) (ha : -9223372036854775807 ≤ a) (ha' : a ≤ 9223372036854775807) (hb : -9223372036854775807 ≤ b) (hb' : b ≤ 9223372036854775807) :
    Calls Tryd.prog 67 #[.int .i64 a, .int .i64 b] w fun e w' => e = .returned (.int .i64 (Int.gcd a b)) ∧ Below w.heap.size w w' := by
  go_enter Tryd.func67, Tryd.ntmps67
  go_wp2
  go_loopw [0, 1] (fun x y wr => ∃ p q : Int, x = .int .i64 p ∧ y = .int .i64 q ∧ Int.gcd p q = Int.gcd a b ∧ -9223372036854775807 ≤ p ∧ p ≤ 9223372036854775807 ∧ -9223372036854775807 ≤ q ∧ q ≤ 9223372036854775807 ∧ Below w.heap.size w wr) (fun _ y _ => (intOf y).natAbs)
  case atStart => exact ⟨a, b, rfl, rfl, rfl, ha, ha', hb, hb', Below.refl _ _⟩
  case round =>
    obtain ⟨p, q, rfl, rfl, hg, h1, h2, h3, h4, hB⟩ := hrel
    have HG : Hid (Int.gcd p q = Int.gcd a b) := hg
    clear hg
    by_cases hq : q = 0
    · subst hq
      have HE : Hid ((p.natAbs : Int) = Int.gcd a b) := by have h := HG.out; simp at h; show _ = _; rw [h]
      clear HG
      go_wp2
      all_goals
        go_ret
        exact ⟨ret_int (by rw [← HE.out]; omega), hB⟩
    · have HS := gcd_step p q
      have HL := tmod_lt p q hq
      have H1 : Hid (Int.gcd q (p.tmod q) = Int.gcd a b) := by show _ = _; rw [HS]; exact HG.out
      have H2 : Hid ((p.tmod q).natAbs < q.natAbs) := HL
      have H3 : -9223372036854775807 ≤ p.tmod q := by omega
      have H4 : p.tmod q ≤ 9223372036854775807 := by omega
      clear HS HL HG
      go_wp2
      go_quiet (fail)
      go_wp2
      go_roundw
      case rel => exact ⟨q, p.tmod q, rfl, rfl, H1.out, h3, h4, H3, H4, below_drewN hB _⟩
      case measure => exact H2.out
set_option maxHeartbeats 400000 in
theorem l02Gcd_any (a b : Int) (w : World) (ha : 0 ≤ a) (ha' : a ≤ 9223372036854775807) (hb : 0 ≤ b) (hb' : b ≤ 9223372036854775807) :
    Calls Tryd.prog 68 #[.int .i64 a, .int .i64 b] w fun e w' => e = .returned (.int .i64 (Int.gcd a b)) ∧ w = w' := by
  go_enter Tryd.func68, Tryd.ntmps68
  go_wp2
  go_loop [0, 1, 5] (fun x y _ => ∃ p q : Int, x = .int .i64 p ∧ y = .int .i64 q ∧ Int.gcd p q = Int.gcd a b ∧ 0 ≤ p ∧ p ≤ 9223372036854775807 ∧ 0 ≤ q ∧ q ≤ 9223372036854775807) (fun _ y _ => (intOf y).natAbs)
  case atStart => exact ⟨a, b, rfl, rfl, rfl, ha, ha', hb, hb'⟩
  case round =>
    obtain ⟨p, q, rfl, rfl, hg, h1, h2, h3, h4⟩ := hrel
    have HG : Hid (Int.gcd p q = Int.gcd a b) := hg
    clear hg
    by_cases hq : q = 0
    · subst hq
      have HE : Hid ((p.natAbs : Int) = Int.gcd a b) := by have h := HG.out; simp at h; show _ = _; rw [h]
      clear HG
      go_wp2
      go_ret
      exact ⟨ret_int (by rw [← HE.out]; omega), rfl⟩
    · have HS := gcd_step p q
      have e : p.tmod q = p % q := Int.tmod_eq_emod_of_nonneg h1
      rw [e] at HS
      have H1 : Hid (Int.gcd q (p % q) = Int.gcd a b) := by show _ = _; rw [HS]; exact HG.out
      have H3 : 0 ≤ p % q := Int.emod_nonneg _ hq
      have H5 : p % q < q := Int.emod_lt_of_pos _ (by omega)
      have H2 : Hid ((p % q).natAbs < q.natAbs) := by show _ < _; omega
      have H4 : p % q ≤ 9223372036854775807 := by omega
      clear HS HG e
      go_wp2
      go_round
      case rel => exact ⟨q, p % q, rfl, rfl, H1.out, h3, h4, H3, H4⟩
      case measure => exact H2.out
set_option maxHeartbeats 400000 in
theorem lowest_any (n d : Int) (w : World) (hn : -9223372036854775807 ≤ n) (hn' : n ≤ 9223372036854775807) (hd : 0 < d) (hd' : d ≤ 9223372036854775807) :
    Calls Tryd.prog 56 #[.int .i64 n, .int .i64 d] w fun e w' => e = .returned (.agg #[.int .i64 (lwN n d), .int .i64 (lwD n d)]) ∧ Below w.heap.size w w' := by
  have hg0 := gcd_ge n d hd
  have HD := Lib.hid (lwD_eq n d hd)
  go_enter Tryd.func56, Tryd.ntmps56
  go_wp2_with fail
  refine (gcd_any _ _ _ (by omega) (by omega) (by omega) (by omega)).mono ?_
  rintro e w1 ⟨rfl, hb⟩
  obtain ⟨hc, hf⟩ := bcell hb
  have hz : w.heap.size < w1.heap.size := by have := hb.size; simp at this; omega
  go_wp2
  go_region
  all_goals
    go_wp2
    refine bodyPost_ret (v := .agg #[.int .i64 (lwN n d), .int .i64 (lwD n d)]) (by rw [HD.out]; simp [results, Tryd.results56, go_sem, hc, lwN]) rfl ⟨rfl, ?_⟩
    exact (((below_call ((Below.refl _ _).alloc (Nat.le_refl _) _) hb).drew).setCell (by simp) _).setCell (by simp) _
set_option maxHeartbeats 400000 in
theorem l02Size_any (n : Int) (w : World) (hn : -9223372036854775807 ≤ n) (hn' : n ≤ 9223372036854775807) :
    Calls Tryd.prog 69 #[.int .i64 n] w fun e w' => e = .returned (.int .i64 (n.natAbs : Int)) ∧ w = w' := by
  go_enter Tryd.func69, Tryd.ntmps69
  go_wp2
  all_goals
    go_ret
    exact ⟨ret_int (by omega), rfl⟩
set_option maxHeartbeats 400000 in
theorem l02Make_any (n d : Int) (w : World) (hn : -9223372036854775807 ≤ n) (hn' : n ≤ 9223372036854775807) (hd : 0 < d) (hd' : d ≤ 9223372036854775807) :
    Calls Tryd.prog 58 #[.int .i64 n, .int .i64 d] w fun e w' => e = .returned (.agg #[.int .i64 (lwN n d), .int .i64 (lwD n d)]) ∧ Below w.heap.size w w' := by
  have hg0 := gcd_ge n d hd
  have HD := Lib.hid (lwD_eq n d hd)
  have HG := Lib.hid (show Int.gcd (n.natAbs : Int) d = Int.gcd n d by simp [Int.gcd])
  go_enter Tryd.func58, Tryd.ntmps58
  go_wp2_with fail
  refine (l02Size_any _ _ (by omega) (by omega)).mono ?_
  rintro e w1 ⟨rfl, rfl⟩
  go_wp2_with fail
  refine (l02Gcd_any _ _ _ (by omega) (by omega) (by omega) (by omega)).mono ?_
  rintro e w1 ⟨rfl, rfl⟩
  rw [HG.out]
  go_wp2
  go_region
  all_goals
    go_wp2
    refine bodyPost_ret (v := .agg #[.int .i64 (lwN n d), .int .i64 (lwD n d)]) (by rw [HD.out]; simp [results, Tryd.results58, go_sem, lwN]) rfl ⟨rfl, ?_⟩
    exact (by repeat (first | exact Below.refl _ _ | assumption | refine Below.drew ?_ | refine below_drewN ?_ _ | refine Below.alloc ?_ (by first | omega | (simp; done) | (simp; omega)) _ | refine Below.setCell ?_ (by first | omega | (simp; done) | (simp; omega)) _))
end Go.Proofs.YtgnalhnbdpigdaaDoor
