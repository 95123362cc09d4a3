/- Contracts of the functions on single marks (markOf, nearestMark and their twins of the reference): what each call returns; no memory turns. -/
import Derived.Test.YtgpcehokdfehjaaDoorGaugeC
import Derived.Test.YtgpcehokdfehjaaDoorSlice
namespace Go.Proofs.YtgpcehokdfehjaaDoor
open Go.RowKit

/-- A number over another, rounded to the nearest integer. -/
def rndI (n d : Int) : Int := (2 * n + d) / (2 * d)
set_option maxHeartbeats 400000 in
theorem rounded_any (n d : Int) (w : World) (h1 : 0 ≤ n) (h2 : n ≤ 1000000000000000000) (h3 : 1 ≤ d) (h4 : d ≤ 1000000000000000000) :
    Calls Tryd.prog 61 #[.int .i64 n, .int .i64 d] w fun e w' => e = .returned (.int .i64 (rndI n d)) ∧ w = w' := by
  have HR := Lib.hid (show rndI n d = (2 * n + d) / (2 * d) from rfl)
  go_enter Tryd.func61, Tryd.ntmps61
  go_wp2
  go_ret
  exact ⟨ret_int (by rw [HR.out]), rfl⟩
/-- A mark. -/
def markI (H c k : Int) : Int := rndI (k * H) c
theorem rnd_bd {n d : Int} (h1 : 0 ≤ n) (h3 : 1 ≤ d) : 0 ≤ rndI n d ∧ rndI n d ≤ 2 * n + d := by
  unfold rndI
  exact ⟨Int.ediv_nonneg (by omega) (by omega), Int.ediv_le_self _ (by omega)⟩
theorem mark_bd {H c k : Int} (h1 : 0 ≤ H) (h2 : H ≤ 6000) (c1 : 1 ≤ c) (c2 : c ≤ 40) (k1 : 0 ≤ k) (k2 : k ≤ 40) : 0 ≤ markI H c k ∧ markI H c k ≤ 1000000 := by
  obtain ⟨m1, m2⟩ := mul_bd (a := k) (b := H) (A := 40) (B := 6000) k1 k2 h1 h2
  obtain ⟨r1, r2⟩ := rnd_bd (n := k * H) (d := c) m1 c1
  unfold markI
  omega
set_option maxHeartbeats 400000 in
theorem markOf_any (H c k : Int) (w : World) (h1 : 0 ≤ H) (h2 : H ≤ 6000) (c1 : 1 ≤ c) (c2 : c ≤ 40) (k1 : 0 ≤ k) (k2 : k ≤ 40) :
    Calls Tryd.prog 48 #[.int .i64 H, .int .i64 c, .int .i64 k] w fun e w' => e = .returned (.int .i64 (markI H c k)) ∧ w = w' := by
  obtain ⟨m1, m2⟩ := mul_bd (a := k) (b := H) (A := 40) (B := 6000) k1 k2 h1 h2
  go_enter Tryd.func48, Tryd.ntmps48
  go_wp2_with fail
  refine (rounded_any _ _ _ (by omega) (by omega) (by omega) (by omega)).mono ?_
  rintro e1 w1 ⟨rfl, rfl⟩
  go_wp2
  go_ret
  exact ⟨rfl, rfl⟩
set_option maxHeartbeats 400000 in
theorem l10Mark_any (H c k : Int) (w : World) (h1 : 0 ≤ H) (h2 : H ≤ 6000) (c1 : 1 ≤ c) (c2 : c ≤ 40) (k1 : 0 ≤ k) (k2 : k ≤ 40) :
    Calls Tryd.prog 25 #[.int .i64 H, .int .i64 c, .int .i64 k] w fun e w' => e = .returned (.int .i64 (markI H c k)) ∧ w = w' := by
  obtain ⟨m1, m2⟩ := mul_bd (a := 2 * k) (b := H) (A := 80) (B := 6000) (by omega) (by omega) h1 h2
  have HR := Lib.hid (show markI H c k = (2 * k * H + c) / (2 * c) by unfold markI rndI; rw [Int.mul_assoc])
  go_enter Tryd.func25, Tryd.ntmps25
  go_wp2
  go_ret
  exact ⟨ret_int (by rw [HR.out]), rfl⟩
/-- How far a mark is from a level. -/
def farI (H c v k : Int) : Int := ((markI H c k - v).natAbs : Int)
/-- The first of the marks 0 .. n that is nearest to a level. -/
def nearK (H c v : Int) : Nat → Int
  | 0 => 0
  | n + 1 => if farI H c v ((n : Int) + 1) < farI H c v (nearK H c v n) then (n : Int) + 1 else nearK H c v n
theorem nearK_bd (H c v : Int) (n : Nat) : 0 ≤ nearK H c v n ∧ nearK H c v n ≤ n := by
  induction n with
  | zero => simp [nearK]
  | succ n ih => unfold nearK; split <;> omega
theorem nearK_yes {H c v : Int} {n : Nat} (h : farI H c v ((n : Int) + 1) < farI H c v (nearK H c v n)) : nearK H c v (n + 1) = (n : Int) + 1 := if_pos h
theorem nearK_no {H c v : Int} {n : Nat} (h : ¬ farI H c v ((n : Int) + 1) < farI H c v (nearK H c v n)) : nearK H c v (n + 1) = nearK H c v n := if_neg h
def nearI (H c v : Int) : Int := nearK H c v c.toNat
def lvOff (H c v : Int) : Int := farI H c v (nearI H c v)
set_option maxHeartbeats 2000000 in
theorem nearestMark_any (H c v : Int) (w : World) (h1 : 0 ≤ H) (h2 : H ≤ 6000) (c1 : 1 ≤ c) (c2 : c ≤ 40) (v1 : 0 ≤ v) (v2 : v ≤ 6000) :
    Calls Tryd.prog 42 #[.int .i64 H, .int .i64 c, .int .i64 v] w fun e w' => e = .returned (.int .i64 (nearI H c v)) ∧ w = w' := by
  obtain ⟨n, rfl⟩ := Int.eq_ofNat_of_zero_le (show 0 ≤ c by omega)
  have HR := Lib.hid (show nearI H n v = nearK H n v n by simp [nearI])
  have HZ := Lib.hid (show nearK H n v 0 = 0 from rfl)
  go_enter Tryd.func42, Tryd.ntmps42
  go_wp2_with fail
  go_loop [7, 8] (fun b i => ∃ k : Nat, k ≤ n ∧ i = .int .i64 ((k : Int) + 1) ∧ b = .int .i64 (nearK H n v k)) (fun _ i => (n + 1 - intOf i).toNat)
  case atStart => exact ⟨0, by omega, rfl, by rw [HZ.out]⟩
  case round =>
    obtain ⟨k, hk, rfl, rfl⟩ := hrel
    by_cases hlt : k < n
    · have hlt' : (k : Int) + 1 ≤ (n : Int) := by omega
      obtain ⟨n1, n2⟩ := nearK_bd H n v k
      obtain ⟨x1, x2⟩ := mark_bd (k := (k : Int) + 1) h1 h2 c1 c2 (by omega) (by omega)
      obtain ⟨y1, y2⟩ := mark_bd (k := nearK H n v k) h1 h2 c1 c2 (by omega) (by omega)
      have FX := Lib.hid (show ((markI H n ((k : Int) + 1) - v).natAbs : Int) = farI H n v ((k : Int) + 1) from rfl)
      have FY := Lib.hid (show ((markI H n (nearK H n v k) - v).natAbs : Int) = farI H n v (nearK H n v k) from rfl)
      by_cases hf : farI H n v ((k : Int) + 1) < farI H n v (nearK H n v k)
      · have HN := Lib.hid (nearK_yes hf)
        generalize nearK H n v k = b at *
        go_wp2_with fail
        refine (markOf_any _ _ _ _ h1 h2 c1 c2 (by omega) (by omega)).mono ?_
        rintro e1 w1 ⟨rfl, rfl⟩
        go_wp2_with fail
        refine (apart_any _ _ _ (by omega) (by omega) (by omega) (by omega)).mono ?_
        rintro e2 w2 ⟨rfl, rfl⟩
        rw [FX.out]
        go_wp2_with fail
        refine (markOf_any _ _ _ _ h1 h2 c1 c2 (by omega) (by omega)).mono ?_
        rintro e3 w3 ⟨rfl, rfl⟩
        go_wp2_with fail
        refine (apart_any _ _ _ (by omega) (by omega) (by omega) (by omega)).mono ?_
        rintro e4 w4 ⟨rfl, rfl⟩
        rw [FY.out]
        go_wp2
        go_round
        case rel => exact ⟨k + 1, by omega, by go_num, by rw [HN.out]⟩
        case measure => simp [intOf]; omega
      · have HN := Lib.hid (nearK_no hf)
        generalize nearK H n v k = b at *
        go_wp2_with fail
        refine (markOf_any _ _ _ _ h1 h2 c1 c2 (by omega) (by omega)).mono ?_
        rintro e1 w1 ⟨rfl, rfl⟩
        go_wp2_with fail
        refine (apart_any _ _ _ (by omega) (by omega) (by omega) (by omega)).mono ?_
        rintro e2 w2 ⟨rfl, rfl⟩
        rw [FX.out]
        go_wp2_with fail
        refine (markOf_any _ _ _ _ h1 h2 c1 c2 (by omega) (by omega)).mono ?_
        rintro e3 w3 ⟨rfl, rfl⟩
        go_wp2_with fail
        refine (apart_any _ _ _ (by omega) (by omega) (by omega) (by omega)).mono ?_
        rintro e4 w4 ⟨rfl, rfl⟩
        rw [FY.out]
        go_wp2
        go_round
        case rel => exact ⟨k + 1, by omega, by go_num, by rw [HN.out]⟩
        case measure => simp [intOf]; omega
    · obtain rfl : k = n := by omega
      have hlt' : ¬ (k : Int) + 1 ≤ (k : Int) := by omega
      clear hlt
      go_wp2
      go_ret
      exact ⟨ret_int (by rw [HR.out]), rfl⟩
set_option maxHeartbeats 2000000 in
theorem l10Nearest_any (H c v : Int) (w : World) (h1 : 0 ≤ H) (h2 : H ≤ 6000) (c1 : 1 ≤ c) (c2 : c ≤ 40) (v1 : 0 ≤ v) (v2 : v ≤ 6000) :
    Calls Tryd.prog 44 #[.int .i64 H, .int .i64 c, .int .i64 v] w fun e w' => e = .returned (.int .i64 (nearI H c v)) ∧ w = w' := by
  obtain ⟨n, rfl⟩ := Int.eq_ofNat_of_zero_le (show 0 ≤ c by omega)
  have HR := Lib.hid (show nearI H n v = nearK H n v n by simp [nearI])
  have HZ := Lib.hid (show nearK H n v 0 = 0 from rfl)
  go_enter Tryd.func44, Tryd.ntmps44
  go_wp2_with fail
  go_loop [7, 8] (fun b i => ∃ k : Nat, k ≤ n ∧ i = .int .i64 ((k : Int) + 1) ∧ b = .int .i64 (nearK H n v k)) (fun _ i => (n + 1 - intOf i).toNat)
  case atStart => exact ⟨0, by omega, rfl, by rw [HZ.out]⟩
  case round =>
    obtain ⟨k, hk, rfl, rfl⟩ := hrel
    by_cases hlt : k < n
    · have hlt' : (k : Int) + 1 ≤ (n : Int) := by omega
      obtain ⟨n1, n2⟩ := nearK_bd H n v k
      obtain ⟨x1, x2⟩ := mark_bd (k := (k : Int) + 1) h1 h2 c1 c2 (by omega) (by omega)
      obtain ⟨y1, y2⟩ := mark_bd (k := nearK H n v k) h1 h2 c1 c2 (by omega) (by omega)
      have FX := Lib.hid (show ((markI H n ((k : Int) + 1) - v).natAbs : Int) = farI H n v ((k : Int) + 1) from rfl)
      have FY := Lib.hid (show ((markI H n (nearK H n v k) - v).natAbs : Int) = farI H n v (nearK H n v k) from rfl)
      by_cases hf : farI H n v ((k : Int) + 1) < farI H n v (nearK H n v k)
      · have HN := Lib.hid (nearK_yes hf)
        generalize nearK H n v k = b at *
        go_wp2_with fail
        refine (l10Mark_any _ _ _ _ h1 h2 c1 c2 (by omega) (by omega)).mono ?_
        rintro e1 w1 ⟨rfl, rfl⟩
        go_wp2_with fail
        refine (l02Size_any _ _ (by omega) (by omega)).mono ?_
        rintro e2 w2 ⟨rfl, rfl⟩
        rw [FX.out]
        go_wp2_with fail
        refine (l10Mark_any _ _ _ _ h1 h2 c1 c2 (by omega) (by omega)).mono ?_
        rintro e3 w3 ⟨rfl, rfl⟩
        go_wp2_with fail
        refine (l02Size_any _ _ (by omega) (by omega)).mono ?_
        rintro e4 w4 ⟨rfl, rfl⟩
        rw [FY.out]
        go_wp2
        go_round
        case rel => exact ⟨k + 1, by omega, by go_num, by rw [HN.out]⟩
        case measure => simp [intOf]; omega
      · have HN := Lib.hid (nearK_no hf)
        generalize nearK H n v k = b at *
        go_wp2_with fail
        refine (l10Mark_any _ _ _ _ h1 h2 c1 c2 (by omega) (by omega)).mono ?_
        rintro e1 w1 ⟨rfl, rfl⟩
        go_wp2_with fail
        refine (l02Size_any _ _ (by omega) (by omega)).mono ?_
        rintro e2 w2 ⟨rfl, rfl⟩
        rw [FX.out]
        go_wp2_with fail
        refine (l10Mark_any _ _ _ _ h1 h2 c1 c2 (by omega) (by omega)).mono ?_
        rintro e3 w3 ⟨rfl, rfl⟩
        go_wp2_with fail
        refine (l02Size_any _ _ (by omega) (by omega)).mono ?_
        rintro e4 w4 ⟨rfl, rfl⟩
        rw [FY.out]
        go_wp2
        go_round
        case rel => exact ⟨k + 1, by omega, by go_num, by rw [HN.out]⟩
        case measure => simp [intOf]; omega
    · obtain rfl : k = n := by omega
      have hlt' : ¬ (k : Int) + 1 ≤ (k : Int) := by omega
      clear hlt
      go_wp2
      go_ret
      exact ⟨ret_int (by rw [HR.out]), rfl⟩
end Go.Proofs.YtgpcehokdfehjaaDoor
