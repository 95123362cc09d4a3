/- Contracts of the functions on rings and arches, program and reference: what each call returns, as plain functions on integers; no old memory turns. -/
import Derived.Test.YtjafjkndigchcaaNum
namespace Go.Proofs.Ytjafjkndigchcaa
open Go.RowKit

/-- The numbers of a ring are in their ranges. -/
def ringB (r d b j : Int) : Bool := inB r 50 5000 && inB d 50 1000 && inB b 30 250 && inB j 1 20
theorem ringB_t {r d b j : Int} (h : ringB r d b j = true) : 50 ≤ r ∧ r ≤ 5000 ∧ 50 ≤ d ∧ d ≤ 1000 ∧ 30 ≤ b ∧ b ≤ 250 ∧ 1 ≤ j ∧ j ≤ 20 := by
  simp only [ringB, inB, Bool.and_eq_true, decide_eq_true_eq] at h; omega

set_option maxHeartbeats 400000 in
theorem validRing_any (r d b j : Int) (w : World) :
    Calls Try.prog 19 #[.agg #[.int .i64 r, .int .i64 d, .int .i64 b, .int .i64 j]] w fun e w' => e = .returned (.bool (ringB r d b j)) ∧ Below w.heap.size w w' := by
  go_enter Try.func19, Try.ntmps19
  go_wp2_with (go_at_call 45; refine (within_any _ _ _ _).mono ?_; rintro e w' ⟨rfl, rfl⟩)
  all_goals
    go_ret
    exact ⟨ret_bool (by simp [ringB, *]), (by repeat (first | exact Below.refl _ _ | assumption | refine Below.drew ?_ | refine below_drewN ?_ _ | refine Below.alloc ?_ (by first | omega | (simp; done) | (simp; omega)) _ | refine Below.setCell ?_ (by first | omega | (simp; done) | (simp; omega)) _))⟩
set_option maxHeartbeats 400000 in
theorem l12Ok_any (r d b j : Int) (w : World) :
    Calls Try.prog 44 #[.agg #[.int .i64 r, .int .i64 d, .int .i64 b, .int .i64 j]] w fun e w' => e = .returned (.bool (ringB r d b j)) ∧ Below w.heap.size w w' := by
  go_enter Try.func44, Try.ntmps44
  go_wp2_with (go_at_call 48; refine (l00In_any _ _ _ _).mono ?_; rintro e w' ⟨rfl, rfl⟩)
  all_goals
    go_ret
    exact ⟨ret_bool (by simp [ringB, *]), (by repeat (first | exact Below.refl _ _ | assumption | refine Below.drew ?_ | refine below_drewN ?_ _ | refine Below.alloc ?_ (by first | omega | (simp; done) | (simp; omega)) _ | refine Below.setCell ?_ (by first | omega | (simp; done) | (simp; omega)) _))⟩
set_option maxHeartbeats 400000 in
theorem specValidRing_any (r d b j : Int) (w : World) :
    Calls Try.prog 17 #[.agg #[.int .i64 r, .int .i64 d, .int .i64 b, .int .i64 j]] w fun e w' => e = .returned (.bool (ringB r d b j)) ∧ Below w.heap.size w w' := by
  go_enter Try.func17, Try.ntmps17
  go_wp2_with fail
  refine (l12Ok_any _ _ _ _ _).mono ?_
  rintro e1 w1 ⟨rfl, hb1⟩
  obtain ⟨hc1, hf1⟩ := bcell hb1
  have hz1 := hb1.size
  try simp at hz1
  have ha1 : Below w.heap.size w w1 := below_call (by repeat (first | exact Below.refl _ _ | assumption | refine Below.drew ?_ | refine below_drewN ?_ _ | refine Below.alloc ?_ (by first | omega | (simp; done) | (simp; omega)) _ | refine Below.setCell ?_ (by first | omega | (simp; done) | (simp; omega)) _)) hb1
  go_wp2
  go_ret
  exact ⟨rfl, (by repeat (first | exact Below.refl _ _ | assumption | refine Below.drew ?_ | refine below_drewN ?_ _ | refine Below.alloc ?_ (by first | omega | (simp; done) | (simp; omega)) _ | refine Below.setCell ?_ (by first | omega | (simp; done) | (simp; omega)) _))⟩
set_option maxHeartbeats 400000 in
theorem toRing_any (r d b j : Int) (w : World) :
    Calls Try.prog 18 #[.agg #[.int .i64 r, .int .i64 d, .int .i64 b, .int .i64 j]] w fun e w' => e = .returned (.agg #[.int .i64 r, .int .i64 d, .int .i64 b, .int .i64 j]) ∧ Below w.heap.size w w' := by
  go_enter Try.func18, Try.ntmps18
  go_wp2
  refine bodyPost_ret (v := .agg #[.int .i64 r, .int .i64 d, .int .i64 b, .int .i64 j]) (by simp [results, Try.results18, go_sem]) rfl ⟨rfl, ?_⟩
  exact (by repeat (first | exact Below.refl _ _ | assumption | refine Below.drew ?_ | refine below_drewN ?_ _ | refine Below.alloc ?_ (by first | omega | (simp; done) | (simp; omega)) _ | refine Below.setCell ?_ (by first | omega | (simp; done) | (simp; omega)) _))

def oddI (n : Int) : Int := n - 1 + n % 2
def ringQ (r b j : Int) : Int := r * 355 / (113 * (b + j))
theorem ringQ_lo {r b j : Int} (hr : 0 ≤ r) (hb : 0 ≤ b) (hj : 0 ≤ j) : 0 ≤ ringQ r b j := Int.ediv_nonneg (by omega) (by omega)
theorem ringQ_hi {r b j : Int} (hr : 0 ≤ r) : ringQ r b j ≤ r * 355 := Int.ediv_le_self _ (by omega)
/-- What BricksIn returns. -/
def bricksInI (r d b j : Int) : Int × Int := if ringB r d b j then (if ringQ r b j < 1 then (0, 3) else (oddI (ringQ r b j), 0)) else (0, 1)
theorem bricksInI_no {r d b j : Int} (h : ringB r d b j = false) : bricksInI r d b j = (0, 1) := by simp [bricksInI, h]
theorem bricksInI_few {r d b j : Int} (h : ringB r d b j = true) (hq : ringQ r b j < 1) : bricksInI r d b j = (0, 3) := by simp [bricksInI, h, hq]
theorem bricksInI_yes {r d b j : Int} (h : ringB r d b j = true) (hq : 1 ≤ ringQ r b j) : bricksInI r d b j = (oddI (ringQ r b j), 0) := by
  have : ¬ ringQ r b j < 1 := by omega
  simp [bricksInI, h, this]

set_option maxHeartbeats 400000 in
theorem odd_any (n : Int) (w : World) (h : 0 ≤ n) (h' : n ≤ 1000000000) :
    Calls Try.prog 52 #[.int .i64 n] w fun e w' => e = .returned (.int .i64 (oddI n)) ∧ w = w' := by
  go_enter Try.func52, Try.ntmps52
  go_wp2
  go_ret
  exact ⟨rfl, rfl⟩
def l12OddI (n : Int) : Int := if n < 1 then 0 else oddI n
theorem l12OddI_few {n : Int} (h : n < 1) : l12OddI n = 0 := if_pos h
theorem l12OddI_yes {n : Int} (h : 1 ≤ n) : l12OddI n = oddI n := if_neg (by omega)
set_option maxHeartbeats 400000 in
theorem l12Odd_any (n : Int) (w : World) (h : 0 ≤ n) (h' : n ≤ 1000000000) :
    Calls Try.prog 49 #[.int .i64 n] w fun e w' => e = .returned (.int .i64 (l12OddI n)) ∧ w = w' := by
  by_cases h1 : n < 1
  · have HE := Lib.hid (l12OddI_few h1)
    go_enter Try.func49, Try.ntmps49
    go_wp2
    go_ret
    exact ⟨ret_int (by rw [HE.out]), rfl⟩
  · have HE := Lib.hid (l12OddI_yes (n := n) (by omega))
    go_enter Try.func49, Try.ntmps49
    go_wp2
    go_ret
    exact ⟨ret_int (by rw [HE.out]; rfl), rfl⟩
set_option maxHeartbeats 1000000 in
theorem bricksIn_any (r d b j : Int) (w : World) :
    Calls Try.prog 27 #[.agg #[.int .i64 r, .int .i64 d, .int .i64 b, .int .i64 j]] w fun e w' => e = .returned (.tuple #[.int .i64 (bricksInI r d b j).1, .int .i64 (bricksInI r d b j).2]) ∧ Below w.heap.size w w' := by
  by_cases hv : ringB r d b j = true
  · obtain ⟨h1, h2, h3, h4, h5, h6, h7, h8⟩ := ringB_t hv
    have hq0 : 0 ≤ r * 355 / (113 * (b + j)) := ringQ_lo (by omega) (by omega) (by omega)
    have hq1 : r * 355 / (113 * (b + j)) ≤ 1775000 := Int.le_trans (ringQ_hi (by omega)) (by omega)
    by_cases hq : ringQ r b j < 1
    · have HR := Lib.hid (bricksInI_few hv hq)
      have hq2 : ¬ 1 ≤ r * 355 / (113 * (b + j)) := by show ¬ 1 ≤ ringQ r b j; omega
      have hq3 : oddI (r * 355 / (113 * (b + j))) < 1 := by unfold oddI; omega
      go_enter Try.func27, Try.ntmps27
      go_wp2_with fail
      refine (validRing_any _ _ _ _ _).mono ?_
      rintro e1 w1 ⟨rfl, hb1⟩
      obtain ⟨hc1, hf1⟩ := bcell hb1
      have hz1 := hb1.size
      try simp at hz1
      have hz1_0 : w.heap.size < w1.heap.size := by omega
      have ha1 : Below w.heap.size w w1 := below_call (by repeat (first | exact Below.refl _ _ | assumption | refine Below.drew ?_ | refine below_drewN ?_ _ | refine Below.alloc ?_ (by first | omega | (simp; done) | (simp; omega)) _ | refine Below.setCell ?_ (by first | omega | (simp; done) | (simp; omega)) _)) hb1
      go_wp2_with fail
      refine (odd_any _ _ (by omega) (by omega)).mono ?_
      rintro e2 w2 ⟨rfl, rfl⟩
      go_wp2
      go_ret2
      exact ⟨by rw [HR.out]; rfl, (by repeat (first | exact Below.refl _ _ | assumption | refine Below.drew ?_ | refine below_drewN ?_ _ | refine Below.alloc ?_ (by first | omega | (simp; done) | (simp; omega)) _ | refine Below.setCell ?_ (by first | omega | (simp; done) | (simp; omega)) _))⟩
    · have HR := Lib.hid (bricksInI_yes hv (by omega))
      have hq2 : 1 ≤ r * 355 / (113 * (b + j)) := by show 1 ≤ ringQ r b j; omega
      have hq3 : 1 ≤ oddI (r * 355 / (113 * (b + j))) := by unfold oddI; omega
      go_enter Try.func27, Try.ntmps27
      go_wp2_with fail
      refine (validRing_any _ _ _ _ _).mono ?_
      rintro e1 w1 ⟨rfl, hb1⟩
      obtain ⟨hc1, hf1⟩ := bcell hb1
      have hz1 := hb1.size
      try simp at hz1
      have hz1_0 : w.heap.size < w1.heap.size := by omega
      have ha1 : Below w.heap.size w w1 := below_call (by repeat (first | exact Below.refl _ _ | assumption | refine Below.drew ?_ | refine below_drewN ?_ _ | refine Below.alloc ?_ (by first | omega | (simp; done) | (simp; omega)) _ | refine Below.setCell ?_ (by first | omega | (simp; done) | (simp; omega)) _)) hb1
      go_wp2_with fail
      refine (odd_any _ _ (by omega) (by omega)).mono ?_
      rintro e2 w2 ⟨rfl, rfl⟩
      go_wp2
      go_ret2
      exact ⟨by rw [HR.out]; rfl, (by repeat (first | exact Below.refl _ _ | assumption | refine Below.drew ?_ | refine below_drewN ?_ _ | refine Below.alloc ?_ (by first | omega | (simp; done) | (simp; omega)) _ | refine Below.setCell ?_ (by first | omega | (simp; done) | (simp; omega)) _))⟩
  · have hv' : ringB r d b j = false := by simpa using hv
    have HR := Lib.hid (bricksInI_no hv')
    clear hv
    go_enter Try.func27, Try.ntmps27
    go_wp2_with fail
    refine (validRing_any _ _ _ _ _).mono ?_
    rintro e1 w1 ⟨rfl, hb1⟩
    obtain ⟨hc1, hf1⟩ := bcell hb1
    have hz1 := hb1.size
    try simp at hz1
    have hz1_0 : w.heap.size < w1.heap.size := by omega
    have ha1 : Below w.heap.size w w1 := below_call (by repeat (first | exact Below.refl _ _ | assumption | refine Below.drew ?_ | refine below_drewN ?_ _ | refine Below.alloc ?_ (by first | omega | (simp; done) | (simp; omega)) _ | refine Below.setCell ?_ (by first | omega | (simp; done) | (simp; omega)) _)) hb1
    go_wp2
    go_ret2
    exact ⟨by rw [HR.out]; rfl, (by repeat (first | exact Below.refl _ _ | assumption | refine Below.drew ?_ | refine below_drewN ?_ _ | refine Below.alloc ?_ (by first | omega | (simp; done) | (simp; omega)) _ | refine Below.setCell ?_ (by first | omega | (simp; done) | (simp; omega)) _))⟩

set_option maxHeartbeats 1000000 in
theorem l12Count_any (r d b j : Int) (w : World) :
    Calls Try.prog 53 #[.agg #[.int .i64 r, .int .i64 d, .int .i64 b, .int .i64 j]] w fun e w' => e = .returned (.tuple #[.int .i64 (bricksInI r d b j).1, .int .i64 (bricksInI r d b j).2]) ∧ Below w.heap.size w w' := by
  by_cases hv : ringB r d b j = true
  · obtain ⟨h1, h2, h3, h4, h5, h6, h7, h8⟩ := ringB_t hv
    have hq0 : 0 ≤ r * 355 / (113 * (b + j)) := ringQ_lo (by omega) (by omega) (by omega)
    have hq1 : r * 355 / (113 * (b + j)) ≤ 1775000 := Int.le_trans (ringQ_hi (by omega)) (by omega)
    have HC := Lib.hid (Int.mul_comm 355 r)
    by_cases hq : ringQ r b j < 1
    · have HR := Lib.hid (bricksInI_few hv hq)
      have HO := Lib.hid (l12OddI_few hq)
      have hq2 : ¬ 1 ≤ r * 355 / (113 * (b + j)) := by show ¬ 1 ≤ ringQ r b j; omega
      go_enter Try.func53, Try.ntmps53
      go_wp2_with fail
      refine (l12Ok_any _ _ _ _ _).mono ?_
      rintro e1 w1 ⟨rfl, hb1⟩
      obtain ⟨hc1, hf1⟩ := bcell hb1
      have hz1 := hb1.size
      try simp at hz1
      have hz1_0 : w.heap.size < w1.heap.size := by omega
      have ha1 : Below w.heap.size w w1 := below_call (by repeat (first | exact Below.refl _ _ | assumption | refine Below.drew ?_ | refine below_drewN ?_ _ | refine Below.alloc ?_ (by first | omega | (simp; done) | (simp; omega)) _ | refine Below.setCell ?_ (by first | omega | (simp; done) | (simp; omega)) _)) hb1
      go_wp2_with fail
      rw [HC.out]
      refine (l12Odd_any _ _ (by omega) (by omega)).mono ?_
      rintro e2 w2 ⟨rfl, rfl⟩
      rw [show l12OddI (r * 355 / (113 * (b + j))) = 0 from HO.out]
      go_wp2
      go_ret2
      exact ⟨by rw [HR.out]; rfl, (by repeat (first | exact Below.refl _ _ | assumption | refine Below.drew ?_ | refine below_drewN ?_ _ | refine Below.alloc ?_ (by first | omega | (simp; done) | (simp; omega)) _ | refine Below.setCell ?_ (by first | omega | (simp; done) | (simp; omega)) _))⟩
    · have HR := Lib.hid (bricksInI_yes hv (by omega))
      have HO := Lib.hid (l12OddI_yes (n := ringQ r b j) (by omega))
      have hq2 : 1 ≤ r * 355 / (113 * (b + j)) := by show 1 ≤ ringQ r b j; omega
      have hq3 : 1 ≤ oddI (r * 355 / (113 * (b + j))) := by unfold oddI; omega
      go_enter Try.func53, Try.ntmps53
      go_wp2_with fail
      refine (l12Ok_any _ _ _ _ _).mono ?_
      rintro e1 w1 ⟨rfl, hb1⟩
      obtain ⟨hc1, hf1⟩ := bcell hb1
      have hz1 := hb1.size
      try simp at hz1
      have hz1_0 : w.heap.size < w1.heap.size := by omega
      have ha1 : Below w.heap.size w w1 := below_call (by repeat (first | exact Below.refl _ _ | assumption | refine Below.drew ?_ | refine below_drewN ?_ _ | refine Below.alloc ?_ (by first | omega | (simp; done) | (simp; omega)) _ | refine Below.setCell ?_ (by first | omega | (simp; done) | (simp; omega)) _)) hb1
      go_wp2_with fail
      rw [HC.out]
      refine (l12Odd_any _ _ (by omega) (by omega)).mono ?_
      rintro e2 w2 ⟨rfl, rfl⟩
      rw [show l12OddI (r * 355 / (113 * (b + j))) = oddI (ringQ r b j) from HO.out]
      have hq4 : 1 ≤ oddI (ringQ r b j) := hq3
      go_wp2
      go_ret2
      exact ⟨by rw [HR.out]; rfl, (by repeat (first | exact Below.refl _ _ | assumption | refine Below.drew ?_ | refine below_drewN ?_ _ | refine Below.alloc ?_ (by first | omega | (simp; done) | (simp; omega)) _ | refine Below.setCell ?_ (by first | omega | (simp; done) | (simp; omega)) _))⟩
  · have hv' : ringB r d b j = false := by simpa using hv
    have HR := Lib.hid (bricksInI_no hv')
    clear hv
    go_enter Try.func53, Try.ntmps53
    go_wp2_with fail
    refine (l12Ok_any _ _ _ _ _).mono ?_
    rintro e1 w1 ⟨rfl, hb1⟩
    obtain ⟨hc1, hf1⟩ := bcell hb1
    have hz1 := hb1.size
    try simp at hz1
    have hz1_0 : w.heap.size < w1.heap.size := by omega
    have ha1 : Below w.heap.size w w1 := below_call (by repeat (first | exact Below.refl _ _ | assumption | refine Below.drew ?_ | refine below_drewN ?_ _ | refine Below.alloc ?_ (by first | omega | (simp; done) | (simp; omega)) _ | refine Below.setCell ?_ (by first | omega | (simp; done) | (simp; omega)) _)) hb1
    go_wp2
    go_ret2
    exact ⟨by rw [HR.out]; rfl, (by repeat (first | exact Below.refl _ _ | assumption | refine Below.drew ?_ | refine below_drewN ?_ _ | refine Below.alloc ?_ (by first | omega | (simp; done) | (simp; omega)) _ | refine Below.setCell ?_ (by first | omega | (simp; done) | (simp; omega)) _))⟩

set_option maxHeartbeats 400000 in
theorem specBricksIn_any (r d b j : Int) (w : World) :
    Calls Try.prog 26 #[.agg #[.int .i64 r, .int .i64 d, .int .i64 b, .int .i64 j]] w fun e w' => e = .returned (.tuple #[.int .i64 (bricksInI r d b j).1, .int .i64 (bricksInI r d b j).2]) ∧ Below w.heap.size w w' := by
  go_enter Try.func26, Try.ntmps26
  go_wp2_with fail
  refine (l12Count_any _ _ _ _ _).mono ?_
  rintro e1 w1 ⟨rfl, hb1⟩
  obtain ⟨hc1, hf1⟩ := bcell hb1
  have hz1 := hb1.size
  try simp at hz1
  have hz1_0 : w.heap.size < w1.heap.size := by omega
  have ha1 : Below w.heap.size w w1 := below_call (by repeat (first | exact Below.refl _ _ | assumption | refine Below.drew ?_ | refine below_drewN ?_ _ | refine Below.alloc ?_ (by first | omega | (simp; done) | (simp; omega)) _ | refine Below.setCell ?_ (by first | omega | (simp; done) | (simp; omega)) _)) hb1
  go_wp2
  go_ret2
  exact ⟨rfl, (by repeat (first | exact Below.refl _ _ | assumption | refine Below.drew ?_ | refine below_drewN ?_ _ | refine Below.alloc ?_ (by first | omega | (simp; done) | (simp; omega)) _ | refine Below.setCell ?_ (by first | omega | (simp; done) | (simp; omega)) _))⟩

/-- What InnerLength returns. -/
def innerI (r d b j : Int) : Int × Int × Int := if ringB r d b j then (lwN (r * 355) 113, lwD (r * 355) 113, 0) else (0, 0, 1)
theorem innerI_no {r d b j : Int} (h : ringB r d b j = false) : innerI r d b j = (0, 0, 1) := by simp [innerI, h]
theorem innerI_yes {r d b j : Int} (h : ringB r d b j = true) : innerI r d b j = (lwN (r * 355) 113, lwD (r * 355) 113, 0) := by simp [innerI, h]
set_option maxHeartbeats 1000000 in
theorem innerLength_any (r d b j : Int) (w : World) :
    Calls Try.prog 35 #[.agg #[.int .i64 r, .int .i64 d, .int .i64 b, .int .i64 j]] w fun e w' => e = .returned (.tuple #[.agg #[.int .i64 (innerI r d b j).1, .int .i64 (innerI r d b j).2.1], .int .i64 (innerI r d b j).2.2]) ∧ Below w.heap.size w w' := by
  by_cases hv : ringB r d b j = true
  · obtain ⟨h1, h2, h3, h4, h5, h6, h7, h8⟩ := ringB_t hv
    have HR := Lib.hid (innerI_yes hv)
    go_enter Try.func35, Try.ntmps35
    go_wp2_with fail
    refine (validRing_any _ _ _ _ _).mono ?_
    rintro e1 w1 ⟨rfl, hb1⟩
    obtain ⟨hc1, hf1⟩ := bcell hb1
    have hz1 := hb1.size
    try simp at hz1
    have hz1_0 : w.heap.size < w1.heap.size := by omega
    have hz1_1 : w.heap.size + 1 < w1.heap.size := by omega
    have ha1 : Below w.heap.size w w1 := below_call (by repeat (first | exact Below.refl _ _ | assumption | refine Below.drew ?_ | refine below_drewN ?_ _ | refine Below.alloc ?_ (by first | omega | (simp; done) | (simp; omega)) _ | refine Below.setCell ?_ (by first | omega | (simp; done) | (simp; omega)) _)) hb1
    go_wp2_with fail
    refine (lowest_any _ _ _ (by omega) (by omega) (by omega) (by omega)).mono ?_
    rintro e2 w2 ⟨rfl, hb2⟩
    obtain ⟨hc2, hf2⟩ := bcell hb2
    have hz2 := hb2.size
    try simp at hz2
    have hz2_0 : w.heap.size < w2.heap.size := by omega
    have hz2_1 : w.heap.size + 1 < w2.heap.size := by omega
    have ha2 : Below w.heap.size w w2 := below_call (by repeat (first | exact Below.refl _ _ | assumption | refine Below.drew ?_ | refine below_drewN ?_ _ | refine Below.alloc ?_ (by first | omega | (simp; done) | (simp; omega)) _ | refine Below.setCell ?_ (by first | omega | (simp; done) | (simp; omega)) _)) hb2
    go_wp2
    refine bodyPost_ret (v := .tuple #[.agg #[.int .i64 (lwN (r * 355) 113), .int .i64 (lwD (r * 355) 113)], .int .i64 0]) (by simp [results, Try.results35, go_sem, *]) rfl ⟨by rw [HR.out], (by repeat (first | exact Below.refl _ _ | assumption | refine Below.drew ?_ | refine below_drewN ?_ _ | refine Below.alloc ?_ (by first | omega | (simp; done) | (simp; omega)) _ | refine Below.setCell ?_ (by first | omega | (simp; done) | (simp; omega)) _))⟩
  · have hv' : ringB r d b j = false := by simpa using hv
    have HR := Lib.hid (innerI_no hv')
    clear hv
    go_enter Try.func35, Try.ntmps35
    go_wp2_with fail
    refine (validRing_any _ _ _ _ _).mono ?_
    rintro e1 w1 ⟨rfl, hb1⟩
    obtain ⟨hc1, hf1⟩ := bcell hb1
    have hz1 := hb1.size
    try simp at hz1
    have hz1_0 : w.heap.size < w1.heap.size := by omega
    have hz1_1 : w.heap.size + 1 < w1.heap.size := by omega
    have ha1 : Below w.heap.size w w1 := below_call (by repeat (first | exact Below.refl _ _ | assumption | refine Below.drew ?_ | refine below_drewN ?_ _ | refine Below.alloc ?_ (by first | omega | (simp; done) | (simp; omega)) _ | refine Below.setCell ?_ (by first | omega | (simp; done) | (simp; omega)) _)) hb1
    go_wp2
    refine bodyPost_ret (v := .tuple #[.agg #[.int .i64 0, .int .i64 0], .int .i64 1]) (by simp [results, Try.results35, go_sem, *]) rfl ⟨by rw [HR.out], (by repeat (first | exact Below.refl _ _ | assumption | refine Below.drew ?_ | refine below_drewN ?_ _ | refine Below.alloc ?_ (by first | omega | (simp; done) | (simp; omega)) _ | refine Below.setCell ?_ (by first | omega | (simp; done) | (simp; omega)) _))⟩

set_option maxHeartbeats 1000000 in
theorem specInnerLength_any (r d b j : Int) (w : World) :
    Calls Try.prog 34 #[.agg #[.int .i64 r, .int .i64 d, .int .i64 b, .int .i64 j]] w fun e w' => e = .returned (.tuple #[.agg #[.int .i64 (innerI r d b j).1, .int .i64 (innerI r d b j).2.1], .int .i64 (innerI r d b j).2.2]) ∧ Below w.heap.size w w' := by
  by_cases hv : ringB r d b j = true
  · obtain ⟨h1, h2, h3, h4, h5, h6, h7, h8⟩ := ringB_t hv
    have HR := Lib.hid (innerI_yes hv)
    have HC := Lib.hid (Int.mul_comm 355 r)
    go_enter Try.func34, Try.ntmps34
    go_wp2_with fail
    refine (l12Ok_any _ _ _ _ _).mono ?_
    rintro e1 w1 ⟨rfl, hb1⟩
    obtain ⟨hc1, hf1⟩ := bcell hb1
    have hz1 := hb1.size
    try simp at hz1
    have hz1_0 : w.heap.size < w1.heap.size := by omega
    have hz1_1 : w.heap.size + 1 < w1.heap.size := by omega
    have ha1 : Below w.heap.size w w1 := below_call (by repeat (first | exact Below.refl _ _ | assumption | refine Below.drew ?_ | refine below_drewN ?_ _ | refine Below.alloc ?_ (by first | omega | (simp; done) | (simp; omega)) _ | refine Below.setCell ?_ (by first | omega | (simp; done) | (simp; omega)) _)) hb1
    go_wp2_with fail
    rw [HC.out]
    refine (l02Make_any _ _ _ (by omega) (by omega) (by omega) (by omega)).mono ?_
    rintro e2 w2 ⟨rfl, hb2⟩
    obtain ⟨hc2, hf2⟩ := bcell hb2
    have hz2 := hb2.size
    try simp at hz2
    have hz2_0 : w.heap.size < w2.heap.size := by omega
    have hz2_1 : w.heap.size + 1 < w2.heap.size := by omega
    have ha2 : Below w.heap.size w w2 := below_call (by repeat (first | exact Below.refl _ _ | assumption | refine Below.drew ?_ | refine below_drewN ?_ _ | refine Below.alloc ?_ (by first | omega | (simp; done) | (simp; omega)) _ | refine Below.setCell ?_ (by first | omega | (simp; done) | (simp; omega)) _)) hb2
    go_wp2
    refine bodyPost_ret (v := .tuple #[.agg #[.int .i64 (lwN (r * 355) 113), .int .i64 (lwD (r * 355) 113)], .int .i64 0]) (by simp [results, Try.results34, go_sem, *]) rfl ⟨by rw [HR.out], (by repeat (first | exact Below.refl _ _ | assumption | refine Below.drew ?_ | refine below_drewN ?_ _ | refine Below.alloc ?_ (by first | omega | (simp; done) | (simp; omega)) _ | refine Below.setCell ?_ (by first | omega | (simp; done) | (simp; omega)) _))⟩
  · have hv' : ringB r d b j = false := by simpa using hv
    have HR := Lib.hid (innerI_no hv')
    clear hv
    go_enter Try.func34, Try.ntmps34
    go_wp2_with fail
    refine (l12Ok_any _ _ _ _ _).mono ?_
    rintro e1 w1 ⟨rfl, hb1⟩
    obtain ⟨hc1, hf1⟩ := bcell hb1
    have hz1 := hb1.size
    try simp at hz1
    have hz1_0 : w.heap.size < w1.heap.size := by omega
    have hz1_1 : w.heap.size + 1 < w1.heap.size := by omega
    have ha1 : Below w.heap.size w w1 := below_call (by repeat (first | exact Below.refl _ _ | assumption | refine Below.drew ?_ | refine below_drewN ?_ _ | refine Below.alloc ?_ (by first | omega | (simp; done) | (simp; omega)) _ | refine Below.setCell ?_ (by first | omega | (simp; done) | (simp; omega)) _)) hb1
    go_wp2
    refine bodyPost_ret (v := .tuple #[.agg #[.int .i64 0, .int .i64 0], .int .i64 1]) (by simp [results, Try.results34, go_sem, *]) rfl ⟨by rw [HR.out], (by repeat (first | exact Below.refl _ _ | assumption | refine Below.drew ?_ | refine below_drewN ?_ _ | refine Below.alloc ?_ (by first | omega | (simp; done) | (simp; omega)) _ | refine Below.setCell ?_ (by first | omega | (simp; done) | (simp; omega)) _))⟩

/-- The thickness of the joints of n bricks at a radius. -/
def jointN (x n b : Int) : Int := lwN (x * 355 - 113 * n * b) (113 * n)
def jointD (x n b : Int) : Int := lwD (x * 355 - 113 * n * b) (113 * n)
set_option maxHeartbeats 1000000 in
theorem jointOf_any (r d b j x n : Int) (w : World) (hx : 0 ≤ x) (hx' : x ≤ 10000) (hn : 1 ≤ n) (hn' : n ≤ 2000000) (hb : 0 ≤ b) (hb' : b ≤ 250) :
    Calls Try.prog 58 #[.agg #[.int .i64 r, .int .i64 d, .int .i64 b, .int .i64 j], .int .i64 x, .int .i64 n] w fun e w' => e = .returned (.agg #[.int .i64 (jointN x n b), .int .i64 (jointD x n b)]) ∧ Below w.heap.size w w' := by
  obtain ⟨m1, m2⟩ := mul_bd (a := 113 * n) (b := b) (A := 226000000) (B := 250) (by omega) (by omega) hb hb'
  go_enter Try.func58, Try.ntmps58
  go_wp2_with fail
  refine (lowest_any _ _ _ (by omega) (by omega) (by omega) (by omega)).mono ?_
  rintro e1 w1 ⟨rfl, hb1⟩
  obtain ⟨hc1, hf1⟩ := bcell hb1
  have hz1 := hb1.size
  try simp at hz1
  have hz1_0 : w.heap.size < w1.heap.size := by omega
  have hz1_1 : w.heap.size + 1 < w1.heap.size := by omega
  have ha1 : Below w.heap.size w w1 := below_call (by repeat (first | exact Below.refl _ _ | assumption | refine Below.drew ?_ | refine below_drewN ?_ _ | refine Below.alloc ?_ (by first | omega | (simp; done) | (simp; omega)) _ | refine Below.setCell ?_ (by first | omega | (simp; done) | (simp; omega)) _)) hb1
  go_wp2
  refine bodyPost_ret (v := .agg #[.int .i64 (jointN x n b), .int .i64 (jointD x n b)]) (by simp [results, Try.results58, go_sem, jointN, jointD, *]) rfl ⟨rfl, (by repeat (first | exact Below.refl _ _ | assumption | refine Below.drew ?_ | refine below_drewN ?_ _ | refine Below.alloc ?_ (by first | omega | (simp; done) | (simp; omega)) _ | refine Below.setCell ?_ (by first | omega | (simp; done) | (simp; omega)) _))⟩
set_option maxHeartbeats 1000000 in
theorem l12Joint_any (x b n : Int) (w : World) (hx : 0 ≤ x) (hx' : x ≤ 10000) (hn : 1 ≤ n) (hn' : n ≤ 2000000) (hb : 0 ≤ b) (hb' : b ≤ 250) :
    Calls Try.prog 59 #[.int .i64 x, .int .i64 b, .int .i64 n] w fun e w' => e = .returned (.agg #[.int .i64 (jointN x n b), .int .i64 (jointD x n b)]) ∧ Below w.heap.size w w' := by
  obtain ⟨m1, m2⟩ := mul_bd (a := 113 * n) (b := b) (A := 226000000) (B := 250) (by omega) (by omega) hb hb'
  have HC := Lib.hid (Int.mul_comm 355 x)
  go_enter Try.func59, Try.ntmps59
  go_wp2_with fail
  rw [HC.out]
  refine (l02Make_any _ _ _ (by omega) (by omega) (by omega) (by omega)).mono ?_
  rintro e1 w1 ⟨rfl, hb1⟩
  obtain ⟨hc1, hf1⟩ := bcell hb1
  have hz1 := hb1.size
  try simp at hz1
  have hz1_0 : w.heap.size < w1.heap.size := by omega
  have ha1 : Below w.heap.size w w1 := below_call (by repeat (first | exact Below.refl _ _ | assumption | refine Below.drew ?_ | refine below_drewN ?_ _ | refine Below.alloc ?_ (by first | omega | (simp; done) | (simp; omega)) _ | refine Below.setCell ?_ (by first | omega | (simp; done) | (simp; omega)) _)) hb1
  go_wp2
  refine bodyPost_ret (v := .agg #[.int .i64 (jointN x n b), .int .i64 (jointD x n b)]) (by simp [results, Try.results59, go_sem, jointN, jointD, *]) rfl ⟨rfl, (by repeat (first | exact Below.refl _ _ | assumption | refine Below.drew ?_ | refine below_drewN ?_ _ | refine Below.alloc ?_ (by first | omega | (simp; done) | (simp; omega)) _ | refine Below.setCell ?_ (by first | omega | (simp; done) | (simp; omega)) _))⟩

theorem bricksInI_code (r d b j : Int) : ((bricksInI r d b j).2 = 0 ∧ ringB r d b j = true ∧ 1 ≤ (bricksInI r d b j).1 ∧ (bricksInI r d b j).1 ≤ 1775000) ∨ ((bricksInI r d b j).2 ≠ 0) := by
  by_cases hv : ringB r d b j = true
  · obtain ⟨h1, h2, h3, h4, h5, h6, h7, h8⟩ := ringB_t hv
    have hq1 : ringQ r b j ≤ r * 355 := ringQ_hi (by omega)
    by_cases hq : ringQ r b j < 1
    · right; rw [bricksInI_few hv hq]; decide
    · left; rw [bricksInI_yes hv (by omega)]; refine ⟨rfl, hv, ?_, ?_⟩ <;> simp only [oddI] <;> omega
  · right; rw [bricksInI_no (by simpa using hv)]; decide

end Go.Proofs.Ytjafjkndigchcaa
