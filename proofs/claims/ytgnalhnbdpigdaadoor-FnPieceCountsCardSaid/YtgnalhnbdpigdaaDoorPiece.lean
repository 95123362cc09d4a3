/- Contracts of the functions on numbers of bricks, packs, bags and mortar, program and reference: what each call returns, as plain functions on integers; no old memory turns. -/
import Derived.Test.YtgnalhnbdpigdaaDoorFmt
namespace Go.Proofs.YtgnalhnbdpigdaaDoor
open Go.RowKit

set_option maxHeartbeats 400000 in
theorem isOrder_any (n : Int) (w : World) :
    Calls Tryd.prog 48 #[.int .i64 n] w fun e w' => e = .returned (.bool (inB n 0 1000000)) ∧ w = w' := by
  go_enter Tryd.func48, Tryd.ntmps48
  go_wp2_with (go_at_call 53; refine (within_any _ _ _ _).mono ?_; rintro e w' ⟨rfl, rfl⟩)
  go_ret
  exact ⟨rfl, rfl⟩
set_option maxHeartbeats 400000 in
theorem l11Many_any (n : Int) (w : World) :
    Calls Tryd.prog 49 #[.int .i64 n] w fun e w' => e = .returned (.bool (inB n 0 1000000)) ∧ w = w' := by
  go_enter Tryd.func49, Tryd.ntmps49
  go_wp2_with (go_at_call 55; refine (l00In_any _ _ _ _).mono ?_; rintro e w' ⟨rfl, rfl⟩)
  go_ret
  exact ⟨rfl, rfl⟩
def rupI (n d : Int) : Int := (n + d - 1) / d
set_option maxHeartbeats 400000 in
theorem roundedUp_any (n d : Int) (w : World) (h1 : 0 ≤ n) (h2 : n ≤ 1000000000000000000) (h3 : 1 ≤ d) (h4 : d ≤ 1000000000000000000) :
    Calls Tryd.prog 54 #[.int .i64 n, .int .i64 d] w fun e w' => e = .returned (.int .i64 (rupI n d)) ∧ w = w' := by
  go_enter Tryd.func54, Tryd.ntmps54
  go_wp2
  go_ret
  exact ⟨rfl, rfl⟩
theorem rupI_bd {n d : Int} (h1 : 0 ≤ n) (h3 : 1 ≤ d) : 0 ≤ rupI n d ∧ rupI n d ≤ n ∧ n ≤ rupI n d * d ∧ (1 ≤ rupI n d → (rupI n d - 1) * d < n) := by
  unfold rupI
  have a := Int.mul_ediv_add_emod (n + d - 1) d
  have b := Int.emod_nonneg (n + d - 1) (show d ≠ 0 by omega)
  have c := Int.emod_lt_of_pos (n + d - 1) (show 0 < d by omega)
  have hq : 0 ≤ (n + d - 1) / d := Int.ediv_nonneg (by omega) (by omega)
  generalize (n + d - 1) / d = q at *
  have e : q * d = d * q := Int.mul_comm q d
  have f : (q - 1) * d = d * q - d := by rw [Int.sub_mul, Int.one_mul, e]
  refine ⟨hq, ?_, by omega, by intro _; omega⟩
  -- q ≤ n: else n + d - 1 ≥ d * (n + 1)
  by_cases hn : q ≤ n
  · exact hn
  · exfalso
    have h5 : d * (n + 1) ≤ d * q := Int.mul_le_mul_of_nonneg_left (by omega) (by omega)
    have h6 : d * (n + 1) = d * n + d := by rw [Int.mul_add, Int.mul_one]
    have h7 : 1 * n ≤ d * n := Int.mul_le_mul_of_nonneg_right h3 h1
    omega

def wasteI (b p : Int) : Int × Int := if inB b 0 1000000 && inB p 0 1000 then ((b * (1000 + p) + 999) / 1000, 0) else (0, 2)
theorem wasteI_yes {b p : Int} (h : inB b 0 1000000 = true) (h1 : inB p 0 1000 = true) : wasteI b p = ((b * (1000 + p) + 999) / 1000, 0) := by simp [wasteI, h, h1]
theorem wasteI_no {b p : Int} (h : inB b 0 1000000 = false ∨ (inB b 0 1000000 = true ∧ inB p 0 1000 = false)) : wasteI b p = (0, 2) := by
  unfold wasteI; rw [if_neg]; rcases h with h | ⟨h, h1⟩
  · simp [h]
  · simp [h1]
theorem two_f {x y : Bool} (h : ¬ (x = true ∧ y = true)) : x = false ∨ (x = true ∧ y = false) := by cases x <;> cases y <;> simp_all
set_option maxHeartbeats 1000000 in
theorem withWaste_any (b p : Int) (w : World) :
    Calls Tryd.prog 19 #[.int .i64 b, .int .i64 p] w fun e w' => e = .returned (.tuple #[.int .i64 (wasteI b p).1, .int .i64 (wasteI b p).2]) ∧ w = w' := by
  by_cases hv : inB b 0 1000000 = true ∧ inB p 0 1000 = true
  · obtain ⟨h1, h2⟩ := hv
    obtain ⟨b1, b2⟩ := inB_t h1
    obtain ⟨b3, b4⟩ := inB_t h2
    obtain ⟨m1, m2⟩ := mul_bd (a := b) (b := 1000 + p) (A := 1000000) (B := 2000) b1 b2 (by omega) (by omega)
    have HR := Lib.hid (wasteI_yes h1 h2)
    have HE := Lib.hid (show rupI (b * (1000 + p)) 1000 = (b * (1000 + p) + 999) / 1000 by unfold rupI; congr 1; omega)
    go_enter Tryd.func19, Tryd.ntmps19
    go_wp2_with (first | (go_at_call 53; refine (within_any _ _ _ _).mono ?_; rintro e w' ⟨rfl, rfl⟩) | (go_at_call 48; refine (isOrder_any _ _).mono ?_; rintro e w' ⟨rfl, rfl⟩))
    refine (roundedUp_any _ _ _ (by omega) (by omega) (by omega) (by omega)).mono ?_
    rintro e1 w1 ⟨rfl, rfl⟩
    rw [HE.out]
    go_wp2
    go_ret2
    exact ⟨by rw [HR.out]; rfl, rfl⟩
  · have hv' := two_f hv
    have HR := Lib.hid (wasteI_no hv')
    clear hv
    rcases hv' with h1 | ⟨h1, h2⟩
    all_goals
      go_enter Tryd.func19, Tryd.ntmps19
      go_wp2_with (first | (go_at_call 53; refine (within_any _ _ _ _).mono ?_; rintro e w' ⟨rfl, rfl⟩) | (go_at_call 48; refine (isOrder_any _ _).mono ?_; rintro e w' ⟨rfl, rfl⟩))
      go_ret2
      exact ⟨by rw [HR.out]; rfl, rfl⟩
set_option maxHeartbeats 1000000 in
theorem specWithWaste_any (b p : Int) (w : World) :
    Calls Tryd.prog 20 #[.int .i64 b, .int .i64 p] w fun e w' => e = .returned (.tuple #[.int .i64 (wasteI b p).1, .int .i64 (wasteI b p).2]) ∧ w = w' := by
  by_cases hv : inB b 0 1000000 = true ∧ inB p 0 1000 = true
  · obtain ⟨h1, h2⟩ := hv
    obtain ⟨b1, b2⟩ := inB_t h1
    obtain ⟨b3, b4⟩ := inB_t h2
    obtain ⟨m1, m2⟩ := mul_bd (a := b) (b := 1000 + p) (A := 1000000) (B := 2000) b1 b2 (by omega) (by omega)
    have HR := Lib.hid (wasteI_yes h1 h2)
    go_enter Tryd.func20, Tryd.ntmps20
    go_wp2_with (first | (go_at_call 55; refine (l00In_any _ _ _ _).mono ?_; rintro e w' ⟨rfl, rfl⟩) | (go_at_call 49; refine (l11Many_any _ _).mono ?_; rintro e w' ⟨rfl, rfl⟩))
    go_ret2
    exact ⟨by rw [HR.out]; rfl, rfl⟩
  · have hv' := two_f hv
    have HR := Lib.hid (wasteI_no hv')
    clear hv
    rcases hv' with h1 | ⟨h1, h2⟩
    all_goals
      go_enter Tryd.func20, Tryd.ntmps20
      go_wp2_with (first | (go_at_call 55; refine (l00In_any _ _ _ _).mono ?_; rintro e w' ⟨rfl, rfl⟩) | (go_at_call 49; refine (l11Many_any _ _).mono ?_; rintro e w' ⟨rfl, rfl⟩))
      go_ret2
      exact ⟨by rw [HR.out]; rfl, rfl⟩

def packsI (b p : Int) : Int × Int × Int := if inB b 0 1000000 && inB p 1 1000 then (rupI b p, rupI b p * p - b, 0) else (0, 0, 2)
theorem packsI_yes {b p : Int} (h : inB b 0 1000000 = true) (h1 : inB p 1 1000 = true) : packsI b p = (rupI b p, rupI b p * p - b, 0) := by simp [packsI, h, h1]
theorem packsI_no {b p : Int} (h : inB b 0 1000000 = false ∨ (inB b 0 1000000 = true ∧ inB p 1 1000 = false)) : packsI b p = (0, 0, 2) := by
  unfold packsI; rw [if_neg]; rcases h with h | ⟨h, h1⟩
  · simp [h]
  · simp [h1]
end Go.Proofs.YtgnalhnbdpigdaaDoor
