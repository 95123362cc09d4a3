/- Contracts of the functions on flat arches, program and reference: what each call returns, as plain functions on integers; no old memory turns. -/
import Derived.Test.YtjafjkndigchcaaArch
namespace Go.Proofs.Ytjafjkndigchcaa
open Go.RowKit

def leanB (s n k : Int) : Bool := inB s 0 500 && inB n 1 400 && inB k 0 n
theorem leanB_t {s n k : Int} (h : leanB s n k = true) : inB s 0 500 = true ∧ inB n 1 400 = true ∧ inB k 0 n = true ∧ 0 ≤ s ∧ s ≤ 500 ∧ 1 ≤ n ∧ n ≤ 400 ∧ 0 ≤ k ∧ k ≤ n := by
  simp only [leanB, Bool.and_eq_true] at h
  obtain ⟨⟨h1, h2⟩, h3⟩ := h
  have := inB_t h1; have := inB_t h2; have := inB_t h3
  exact ⟨h1, h2, h3, by omega, by omega, by omega, by omega, by omega, by omega⟩
theorem leanB_f {s n k : Int} (h : leanB s n k = false) : inB s 0 500 = false ∨ (inB s 0 500 = true ∧ inB n 1 400 = false) ∨ (inB s 0 500 = true ∧ inB n 1 400 = true ∧ inB k 0 n = false) := by
  by_cases h1 : inB s 0 500 = true
  · by_cases h2 : inB n 1 400 = true
    · simp only [leanB, h1, h2, Bool.true_and] at h
      exact .inr (.inr ⟨h1, h2, h⟩)
    · exact .inr (.inl ⟨h1, by simpa using h2⟩)
  · exact .inl (by simpa using h1)
def leanI (s n k : Int) : Int × Int × Int := if leanB s n k then (if n % 2 = 0 then (0, 0, 6) else (lwN ((2 * k - n) * s) n, lwD ((2 * k - n) * s) n, 0)) else (0, 0, 2)
theorem leanI_yes {s n k : Int} (h : leanB s n k = true) (h2 : ¬ n % 2 = 0) : leanI s n k = (lwN ((2 * k - n) * s) n, lwD ((2 * k - n) * s) n, 0) := by
  unfold leanI; rw [if_pos h, if_neg h2]
theorem leanI_even {s n k : Int} (h : leanB s n k = true) (h2 : n % 2 = 0) : leanI s n k = (0, 0, 6) := by
  unfold leanI; rw [if_pos h, if_pos h2]
theorem leanI_no {s n k : Int} (h : leanB s n k = false) : leanI s n k = (0, 0, 2) := by simp [leanI, h]
theorem lean_bounds {s n k : Int} (b1 : 0 ≤ s) (b2 : s ≤ 500) (b3 : 1 ≤ n) (b4 : n ≤ 400) (b5 : 0 ≤ k) (b6 : k ≤ n) : -200000 ≤ (2 * k - n) * s ∧ (2 * k - n) * s ≤ 200000 := by
  have h1 := mul_bd (a := 2 * k) (b := s) (A := 800) (B := 500) (by omega) (by omega) b1 b2
  have h2 := mul_bd (a := n) (b := s) (A := 400) (B := 500) (by omega) (by omega) b1 b2
  have h3 := mul_bd (a := n - k) (b := s) (A := 400) (B := 500) (by omega) (by omega) b1 b2
  have h4 := mul_bd (a := k) (b := s) (A := 400) (B := 500) (by omega) (by omega) b1 b2
  have e : (2 * k - n) * s = k * s - (n - k) * s := by rw [← Int.sub_mul]; congr 1; omega
  rw [e]; omega
set_option maxHeartbeats 1000000 in
theorem leanOf_any (s n k : Int) (w : World) :
    Calls Try.prog 31 #[.int .i64 s, .int .i64 n, .int .i64 k] w fun e w' => e = .returned (.tuple #[.agg #[.int .i64 (leanI s n k).1, .int .i64 (leanI s n k).2.1], .int .i64 (leanI s n k).2.2]) ∧ Below w.heap.size w w' := by
  by_cases hv : leanB s n k = true
  · obtain ⟨h1, h2, h3, b1, b2, b3, b4, b5, b6⟩ := leanB_t hv
    by_cases h4 : n % 2 = 0
    · have HR := Lib.hid (leanI_even hv h4)
      have h5 : (n % 2 == 0) = true := by simpa using h4
      clear hv h4
      go_enter Try.func31, Try.ntmps31
      go_wp2_with (go_at_call 45; refine (within_any _ _ _ _).mono ?_; rintro e w' ⟨rfl, rfl⟩)
      refine bodyPost_ret (v := .tuple #[.agg #[.int .i64 0, .int .i64 0], .int .i64 6]) (by simp [results, Try.results31, go_sem]) rfl ⟨by rw [HR.out], (by repeat (first | exact Below.refl _ _ | assumption | refine Below.drew ?_ | refine below_drewN ?_ _ | refine Below.alloc ?_ (by first | omega | (simp; done) | (simp; omega)) _ | refine Below.setCell ?_ (by first | omega | (simp; done) | (simp; omega)) _))⟩
    · have HR := Lib.hid (leanI_yes hv h4)
      have h5 : (n % 2 == 0) = false := by simpa using h4
      obtain ⟨m1, m2⟩ := lean_bounds b1 b2 b3 b4 b5 b6
      clear hv h4
      go_enter Try.func31, Try.ntmps31
      go_wp2_with (go_at_call 45; refine (within_any _ _ _ _).mono ?_; rintro e w' ⟨rfl, rfl⟩)
      refine (lowest_any _ _ _ (by omega) (by omega) (by omega) (by omega)).mono ?_
      rintro e1 w1 ⟨rfl, hb1⟩
      obtain ⟨hc1, hf1⟩ := bcell hb1
      have hz1 := hb1.size
      try simp at hz1
      have hz1_0 : w.heap.size < w1.heap.size := by omega
      have ha1 : Below w.heap.size w w1 := below_call (by repeat (first | exact Below.refl _ _ | assumption | refine Below.drew ?_ | refine below_drewN ?_ _ | refine Below.alloc ?_ (by first | omega | (simp; done) | (simp; omega)) _ | refine Below.setCell ?_ (by first | omega | (simp; done) | (simp; omega)) _)) hb1
      go_wp2
      refine bodyPost_ret (v := .tuple #[.agg #[.int .i64 (lwN ((2 * k - n) * s) n), .int .i64 (lwD ((2 * k - n) * s) n)], .int .i64 0]) (by simp [results, Try.results31, go_sem, *]) rfl ⟨by rw [HR.out], (by repeat (first | exact Below.refl _ _ | assumption | refine Below.drew ?_ | refine below_drewN ?_ _ | refine Below.alloc ?_ (by first | omega | (simp; done) | (simp; omega)) _ | refine Below.setCell ?_ (by first | omega | (simp; done) | (simp; omega)) _))⟩
  · have hv' : leanB s n k = false := by simpa using hv
    have HR := Lib.hid (leanI_no hv')
    clear hv
    rcases leanB_f hv' with h1 | ⟨h1, h2⟩ | ⟨h1, h2, h3⟩
    all_goals
      clear hv'
      go_enter Try.func31, Try.ntmps31
      go_wp2_with (go_at_call 45; refine (within_any _ _ _ _).mono ?_; rintro e w' ⟨rfl, rfl⟩)
      refine bodyPost_ret (v := .tuple #[.agg #[.int .i64 0, .int .i64 0], .int .i64 2]) (by simp [results, Try.results31, go_sem]) rfl ⟨by rw [HR.out], (by repeat (first | exact Below.refl _ _ | assumption | refine Below.drew ?_ | refine below_drewN ?_ _ | refine Below.alloc ?_ (by first | omega | (simp; done) | (simp; omega)) _ | refine Below.setCell ?_ (by first | omega | (simp; done) | (simp; omega)) _))⟩
set_option maxHeartbeats 1000000 in
theorem specLeanOf_any (s n k : Int) (w : World) :
    Calls Try.prog 33 #[.int .i64 s, .int .i64 n, .int .i64 k] w fun e w' => e = .returned (.tuple #[.agg #[.int .i64 (leanI s n k).1, .int .i64 (leanI s n k).2.1], .int .i64 (leanI s n k).2.2]) ∧ Below w.heap.size w w' := by
  by_cases hv : leanB s n k = true
  · obtain ⟨h1, h2, h3, b1, b2, b3, b4, b5, b6⟩ := leanB_t hv
    by_cases h4 : n % 2 = 0
    · have HR := Lib.hid (leanI_even hv h4)
      have h5 : (n % 2 == 0) = true := by simpa using h4
      clear hv h4
      go_enter Try.func33, Try.ntmps33
      go_wp2_with (go_at_call 48; refine (l00In_any _ _ _ _).mono ?_; rintro e w' ⟨rfl, rfl⟩)
      refine bodyPost_ret (v := .tuple #[.agg #[.int .i64 0, .int .i64 0], .int .i64 6]) (by simp [results, Try.results33, go_sem]) rfl ⟨by rw [HR.out], (by repeat (first | exact Below.refl _ _ | assumption | refine Below.drew ?_ | refine below_drewN ?_ _ | refine Below.alloc ?_ (by first | omega | (simp; done) | (simp; omega)) _ | refine Below.setCell ?_ (by first | omega | (simp; done) | (simp; omega)) _))⟩
    · have HR := Lib.hid (leanI_yes hv h4)
      have h5 : (n % 2 == 0) = false := by simpa using h4
      obtain ⟨m1, m2⟩ := lean_bounds b1 b2 b3 b4 b5 b6
      clear hv h4
      go_enter Try.func33, Try.ntmps33
      go_wp2_with (go_at_call 48; refine (l00In_any _ _ _ _).mono ?_; rintro e w' ⟨rfl, rfl⟩)
      refine (l02Make_any _ _ _ (by omega) (by omega) (by omega) (by omega)).mono ?_
      rintro e1 w1 ⟨rfl, hb1⟩
      obtain ⟨hc1, hf1⟩ := bcell hb1
      have hz1 := hb1.size
      try simp at hz1
      have hz1_0 : w.heap.size < w1.heap.size := by omega
      have ha1 : Below w.heap.size w w1 := below_call (by repeat (first | exact Below.refl _ _ | assumption | refine Below.drew ?_ | refine below_drewN ?_ _ | refine Below.alloc ?_ (by first | omega | (simp; done) | (simp; omega)) _ | refine Below.setCell ?_ (by first | omega | (simp; done) | (simp; omega)) _)) hb1
      go_wp2
      refine bodyPost_ret (v := .tuple #[.agg #[.int .i64 (lwN ((2 * k - n) * s) n), .int .i64 (lwD ((2 * k - n) * s) n)], .int .i64 0]) (by simp [results, Try.results33, go_sem, *]) rfl ⟨by rw [HR.out], (by repeat (first | exact Below.refl _ _ | assumption | refine Below.drew ?_ | refine below_drewN ?_ _ | refine Below.alloc ?_ (by first | omega | (simp; done) | (simp; omega)) _ | refine Below.setCell ?_ (by first | omega | (simp; done) | (simp; omega)) _))⟩
  · have hv' : leanB s n k = false := by simpa using hv
    have HR := Lib.hid (leanI_no hv')
    clear hv
    rcases leanB_f hv' with h1 | ⟨h1, h2⟩ | ⟨h1, h2, h3⟩
    all_goals
      clear hv'
      go_enter Try.func33, Try.ntmps33
      go_wp2_with (go_at_call 48; refine (l00In_any _ _ _ _).mono ?_; rintro e w' ⟨rfl, rfl⟩)
      refine bodyPost_ret (v := .tuple #[.agg #[.int .i64 0, .int .i64 0], .int .i64 2]) (by simp [results, Try.results33, go_sem]) rfl ⟨by rw [HR.out], (by repeat (first | exact Below.refl _ _ | assumption | refine Below.drew ?_ | refine below_drewN ?_ _ | refine Below.alloc ?_ (by first | omega | (simp; done) | (simp; omega)) _ | refine Below.setCell ?_ (by first | omega | (simp; done) | (simp; omega)) _))⟩

def flatB (a s j : Int) : Bool := inB a 100 5000 && inB s 0 500 && inB j 0 20
theorem flatB_t {a s j : Int} (h : flatB a s j = true) : 100 ≤ a ∧ a ≤ 5000 ∧ 0 ≤ s ∧ s ≤ 500 ∧ 0 ≤ j ∧ j ≤ 20 := by
  simp only [flatB, inB, Bool.and_eq_true, decide_eq_true_eq] at h; omega
set_option maxHeartbeats 400000 in
theorem isFlat_any (a s j : Int) (w : World) :
    Calls Try.prog 51 #[.int .i64 a, .int .i64 s, .int .i64 j] w fun e w' => e = .returned (.bool (flatB a s j)) ∧ w = w' := by
  go_enter Try.func51, Try.ntmps51
  go_wp2_with (go_at_call 45; refine (within_any _ _ _ _).mono ?_; rintro e w' ⟨rfl, rfl⟩)
  all_goals
    go_ret
    exact ⟨ret_bool (by simp [flatB, *]), rfl⟩
set_option maxHeartbeats 400000 in
theorem l12Flat_any (a s j : Int) (w : World) :
    Calls Try.prog 47 #[.int .i64 a, .int .i64 s, .int .i64 j] w fun e w' => e = .returned (.bool (flatB a s j)) ∧ w = w' := by
  go_enter Try.func47, Try.ntmps47
  go_wp2_with (go_at_call 48; refine (l00In_any _ _ _ _).mono ?_; rintro e w' ⟨rfl, rfl⟩)
  all_goals
    go_ret
    exact ⟨ret_bool (by simp [flatB, *]), rfl⟩

def widB (a s j n : Int) : Bool := flatB a s j && inB n 1 400
def widI (a s j n : Int) : Int × Int × Int × Int × Int :=
  if widB a s j n then (if n % 2 = 0 ∨ a - (n + 1) * j ≤ 0 then (0, 0, 0, 0, 6) else (lwN (a - (n + 1) * j) n, lwD (a - (n + 1) * j) n, lwN (a - (n + 1) * j + 2 * s) n, lwD (a - (n + 1) * j + 2 * s) n, 0)) else (0, 0, 0, 0, 2)
theorem widI_yes {a s j n : Int} (h : flatB a s j = true) (h1 : inB n 1 400 = true) (h2 : ¬ n % 2 = 0) (h3 : 0 < a - (n + 1) * j) : widI a s j n = (lwN (a - (n + 1) * j) n, lwD (a - (n + 1) * j) n, lwN (a - (n + 1) * j + 2 * s) n, lwD (a - (n + 1) * j + 2 * s) n, 0) := by
  unfold widI widB; rw [if_pos (by simp [h, h1]), if_neg (by omega)]
theorem widI_bad {a s j n : Int} (h : flatB a s j = true) (h1 : inB n 1 400 = true) (h2 : n % 2 = 0 ∨ a - (n + 1) * j ≤ 0) : widI a s j n = (0, 0, 0, 0, 6) := by
  unfold widI widB; rw [if_pos (by simp [h, h1]), if_pos h2]
theorem widI_no {a s j n : Int} (h : flatB a s j = false ∨ (flatB a s j = true ∧ inB n 1 400 = false)) : widI a s j n = (0, 0, 0, 0, 2) := by
  unfold widI widB; rw [if_neg]; rcases h with h | ⟨h, h1⟩
  · simp [h]
  · simp [h1]

theorem wid_bounds {j n : Int} (b3 : 0 ≤ j) (b4 : j ≤ 20) (b5 : 1 ≤ n) (b6 : n ≤ 400) : 0 ≤ (n + 1) * j ∧ (n + 1) * j ≤ 8020 :=
  mul_bd (a := n + 1) (A := 401) (by omega) (by omega) b3 b4
set_option maxHeartbeats 400000 in
theorem l12Width_any (a j n : Int) (w : World) (b1 : 0 ≤ a) (b2 : a ≤ 10000) (b3 : 0 ≤ j) (b4 : j ≤ 20) (b5 : 1 ≤ n) (b6 : n ≤ 400) :
    Calls Try.prog 55 #[.int .i64 a, .int .i64 j, .int .i64 n] w fun e w' => e = .returned (.int .i64 (a - (n + 1) * j)) ∧ w = w' := by
  obtain ⟨m1, m2⟩ := mul_bd (a := n + 1) (b := j) (A := 401) (B := 20) (by omega) (by omega) b3 b4
  go_enter Try.func55, Try.ntmps55
  go_wp2
  go_ret
  exact ⟨rfl, rfl⟩
set_option maxHeartbeats 1000000 in
theorem flatWidths_any (a s j n : Int) (w : World) :
    Calls Try.prog 30 #[.int .i64 a, .int .i64 s, .int .i64 j, .int .i64 n] w fun e w' => e = .returned (.tuple #[.agg #[.int .i64 (widI a s j n).1, .int .i64 (widI a s j n).2.1], .agg #[.int .i64 (widI a s j n).2.2.1, .int .i64 (widI a s j n).2.2.2.1], .int .i64 (widI a s j n).2.2.2.2]) ∧ Below w.heap.size w w' := by
  by_cases hv : flatB a s j = true ∧ inB n 1 400 = true
  · obtain ⟨hv, h1⟩ := hv
    obtain ⟨b1, b2, b3, b4, b5, b6⟩ := flatB_t hv
    obtain ⟨b7, b8⟩ := inB_t h1
    obtain ⟨m1, m2⟩ := wid_bounds b5 b6 b7 b8
    have HS := Lib.hid (show a + 2 * s - (n + 1) * j = a - (n + 1) * j + 2 * s by omega)
    by_cases h4 : n % 2 = 0
    · have HR := Lib.hid (widI_bad (a := a) (s := s) (j := j) hv h1 (.inl h4))
      have h5 : (n % 2 == 0) = true := by simpa using h4
      clear h4
      go_enter Try.func30, Try.ntmps30
      go_wp2_with (first | (go_at_call 45; refine (within_any _ _ _ _).mono ?_; rintro e w' ⟨rfl, rfl⟩) | (go_at_call 51; refine (isFlat_any _ _ _ _).mono ?_; rintro e w' ⟨rfl, rfl⟩))
      refine bodyPost_ret (v := .tuple #[.agg #[.int .i64 0, .int .i64 0], .agg #[.int .i64 0, .int .i64 0], .int .i64 6]) (by simp [results, Try.results30, go_sem]) rfl ⟨by rw [HR.out], (by repeat (first | exact Below.refl _ _ | assumption | refine Below.drew ?_ | refine below_drewN ?_ _ | refine Below.alloc ?_ (by first | omega | (simp; done) | (simp; omega)) _ | refine Below.setCell ?_ (by first | omega | (simp; done) | (simp; omega)) _))⟩
    · have h5 : (n % 2 == 0) = false := by simpa using h4
      by_cases h6 : a - (n + 1) * j ≤ 0
      · have HR := Lib.hid (widI_bad (a := a) (s := s) (j := j) hv h1 (.inr h6))
        clear h4
        go_enter Try.func30, Try.ntmps30
        go_wp2_with (first | (go_at_call 45; refine (within_any _ _ _ _).mono ?_; rintro e w' ⟨rfl, rfl⟩) | (go_at_call 51; refine (isFlat_any _ _ _ _).mono ?_; rintro e w' ⟨rfl, rfl⟩))
        refine bodyPost_ret (v := .tuple #[.agg #[.int .i64 0, .int .i64 0], .agg #[.int .i64 0, .int .i64 0], .int .i64 6]) (by simp [results, Try.results30, go_sem]) rfl ⟨by rw [HR.out], (by repeat (first | exact Below.refl _ _ | assumption | refine Below.drew ?_ | refine below_drewN ?_ _ | refine Below.alloc ?_ (by first | omega | (simp; done) | (simp; omega)) _ | refine Below.setCell ?_ (by first | omega | (simp; done) | (simp; omega)) _))⟩
      · have HR := Lib.hid (widI_yes (a := a) (s := s) (j := j) hv h1 h4 (by omega))
        have h7 : 0 < a - (n + 1) * j := by omega
        clear h4 h6
        go_enter Try.func30, Try.ntmps30
        go_wp2_with (first | (go_at_call 45; refine (within_any _ _ _ _).mono ?_; rintro e w' ⟨rfl, rfl⟩) | (go_at_call 51; refine (isFlat_any _ _ _ _).mono ?_; rintro e w' ⟨rfl, rfl⟩))
        refine (lowest_any _ _ _ (by omega) (by omega) (by omega) (by omega)).mono ?_
        rintro e1 w1 ⟨rfl, hb1⟩
        obtain ⟨hc1, hf1⟩ := bcell hb1
        have hz1 := hb1.size
        try simp at hz1
        have hz1_0 : w.heap.size < w1.heap.size := by omega
        have hz1_1 : w.heap.size + 1 < w1.heap.size := by omega
        have ha1 : Below w.heap.size w w1 := below_call (by repeat (first | exact Below.refl _ _ | assumption | refine Below.drew ?_ | refine below_drewN ?_ _ | refine Below.alloc ?_ (by first | omega | (simp; done) | (simp; omega)) _ | refine Below.setCell ?_ (by first | omega | (simp; done) | (simp; omega)) _)) hb1
        go_wp2_with (first | (go_at_call 45; refine (within_any _ _ _ _).mono ?_; rintro e w' ⟨rfl, rfl⟩) | (go_at_call 51; refine (isFlat_any _ _ _ _).mono ?_; rintro e w' ⟨rfl, rfl⟩))

        refine (lowest_any _ _ _ (by omega) (by omega) (by omega) (by omega)).mono ?_
        rintro e2 w2 ⟨rfl, hb2⟩
        have hy2 := hb2.size
        replace hb2 := below_call hb1 hb2
        clear hc1 hf1
        obtain ⟨hc2, hf2⟩ := bcell hb2
        have hz2 := hb2.size
        try simp at hz2
        have hz2_0 : w.heap.size < w2.heap.size := by omega
        have hz2_1 : w.heap.size + 1 < w2.heap.size := by omega
        have ha2 : Below w.heap.size w w2 := below_call (by repeat (first | exact Below.refl _ _ | assumption | refine Below.drew ?_ | refine below_drewN ?_ _ | refine Below.alloc ?_ (by first | omega | (simp; done) | (simp; omega)) _ | refine Below.setCell ?_ (by first | omega | (simp; done) | (simp; omega)) _)) hb2
        have r2_0_0 : w2.cell? ⟨w.heap.size, 0, none⟩ = some (.int .i64 0) := by simp [hc2, go_sem]
        have r2_0_1 : w2.cell? ⟨w.heap.size, 1, none⟩ = some (.int .i64 0) := by simp [hc2, go_sem]
        have q2_0_0 : w2.frozen? ⟨w.heap.size, 0, none⟩ = false := by simp [hf2, go_sem]
        have q2_0_1 : w2.frozen? ⟨w.heap.size, 1, none⟩ = false := by simp [hf2, go_sem]
        have r2_1_0 : w2.cell? ⟨w.heap.size + 1, 0, none⟩ = some (.int .i64 0) := by simp [hc2, go_sem]
        have r2_1_1 : w2.cell? ⟨w.heap.size + 1, 1, none⟩ = some (.int .i64 0) := by simp [hc2, go_sem]
        have q2_1_0 : w2.frozen? ⟨w.heap.size + 1, 0, none⟩ = false := by simp [hf2, go_sem]
        have q2_1_1 : w2.frozen? ⟨w.heap.size + 1, 1, none⟩ = false := by simp [hf2, go_sem]
        clear hc2 hf2
        go_wp2
        refine bodyPost_ret (v := .tuple #[.agg #[.int .i64 (lwN (a - (n + 1) * j) n), .int .i64 (lwD (a - (n + 1) * j) n)], .agg #[.int .i64 (lwN (a - (n + 1) * j + 2 * s) n), .int .i64 (lwD (a - (n + 1) * j + 2 * s) n)], .int .i64 0]) (by simp [results, Try.results30, go_sem, *]) rfl ⟨by rw [HR.out], (by repeat (first | exact Below.refl _ _ | assumption | refine Below.drew ?_ | refine below_drewN ?_ _ | refine Below.alloc ?_ (by first | omega | (simp; done) | (simp; omega)) _ | refine Below.setCell ?_ (by first | omega | (simp; done) | (simp; omega)) _))⟩
  · have hv' : flatB a s j = false ∨ (flatB a s j = true ∧ inB n 1 400 = false) := by
      by_cases h : flatB a s j = true
      · exact .inr ⟨h, by simpa [h] using hv⟩
      · exact .inl (by simpa using h)
    have HR := Lib.hid (widI_no hv')
    clear hv
    rcases hv' with h1 | ⟨h1, h2⟩
    all_goals
      go_enter Try.func30, Try.ntmps30
      go_wp2_with (first | (go_at_call 45; refine (within_any _ _ _ _).mono ?_; rintro e w' ⟨rfl, rfl⟩) | (go_at_call 51; refine (isFlat_any _ _ _ _).mono ?_; rintro e w' ⟨rfl, rfl⟩))
      refine bodyPost_ret (v := .tuple #[.agg #[.int .i64 0, .int .i64 0], .agg #[.int .i64 0, .int .i64 0], .int .i64 2]) (by simp [results, Try.results30, go_sem]) rfl ⟨by rw [HR.out], (by repeat (first | exact Below.refl _ _ | assumption | refine Below.drew ?_ | refine below_drewN ?_ _ | refine Below.alloc ?_ (by first | omega | (simp; done) | (simp; omega)) _ | refine Below.setCell ?_ (by first | omega | (simp; done) | (simp; omega)) _))⟩
set_option maxHeartbeats 1000000 in
theorem specFlatWidths_any (a s j n : Int) (w : World) :
    Calls Try.prog 36 #[.int .i64 a, .int .i64 s, .int .i64 j, .int .i64 n] w fun e w' => e = .returned (.tuple #[.agg #[.int .i64 (widI a s j n).1, .int .i64 (widI a s j n).2.1], .agg #[.int .i64 (widI a s j n).2.2.1, .int .i64 (widI a s j n).2.2.2.1], .int .i64 (widI a s j n).2.2.2.2]) ∧ Below w.heap.size w w' := by
  by_cases hv : flatB a s j = true ∧ inB n 1 400 = true
  · obtain ⟨hv, h1⟩ := hv
    obtain ⟨b1, b2, b3, b4, b5, b6⟩ := flatB_t hv
    obtain ⟨b7, b8⟩ := inB_t h1
    obtain ⟨m1, m2⟩ := wid_bounds b5 b6 b7 b8
    have HS := Lib.hid (show a + 2 * s - (n + 1) * j = a - (n + 1) * j + 2 * s by omega)
    by_cases h4 : n % 2 = 0
    · have HR := Lib.hid (widI_bad (a := a) (s := s) (j := j) hv h1 (.inl h4))
      have h5 : (n % 2 == 0) = true := by simpa using h4
      clear h4
      go_enter Try.func36, Try.ntmps36
      go_wp2_with (first | (go_at_call 48; refine (l00In_any _ _ _ _).mono ?_; rintro e w' ⟨rfl, rfl⟩) | (go_at_call 47; refine (l12Flat_any _ _ _ _).mono ?_; rintro e w' ⟨rfl, rfl⟩) | (go_at_call 55; refine (l12Width_any _ _ _ _ (by omega) (by omega) (by omega) (by omega) (by omega) (by omega)).mono ?_; rintro e w' ⟨rfl, rfl⟩))
      refine bodyPost_ret (v := .tuple #[.agg #[.int .i64 0, .int .i64 0], .agg #[.int .i64 0, .int .i64 0], .int .i64 6]) (by simp [results, Try.results36, go_sem]) rfl ⟨by rw [HR.out], (by repeat (first | exact Below.refl _ _ | assumption | refine Below.drew ?_ | refine below_drewN ?_ _ | refine Below.alloc ?_ (by first | omega | (simp; done) | (simp; omega)) _ | refine Below.setCell ?_ (by first | omega | (simp; done) | (simp; omega)) _))⟩
    · have h5 : (n % 2 == 0) = false := by simpa using h4
      by_cases h6 : a - (n + 1) * j ≤ 0
      · have HR := Lib.hid (widI_bad (a := a) (s := s) (j := j) hv h1 (.inr h6))
        clear h4
        go_enter Try.func36, Try.ntmps36
        go_wp2_with (first | (go_at_call 48; refine (l00In_any _ _ _ _).mono ?_; rintro e w' ⟨rfl, rfl⟩) | (go_at_call 47; refine (l12Flat_any _ _ _ _).mono ?_; rintro e w' ⟨rfl, rfl⟩) | (go_at_call 55; refine (l12Width_any _ _ _ _ (by omega) (by omega) (by omega) (by omega) (by omega) (by omega)).mono ?_; rintro e w' ⟨rfl, rfl⟩))
        refine bodyPost_ret (v := .tuple #[.agg #[.int .i64 0, .int .i64 0], .agg #[.int .i64 0, .int .i64 0], .int .i64 6]) (by simp [results, Try.results36, go_sem]) rfl ⟨by rw [HR.out], (by repeat (first | exact Below.refl _ _ | assumption | refine Below.drew ?_ | refine below_drewN ?_ _ | refine Below.alloc ?_ (by first | omega | (simp; done) | (simp; omega)) _ | refine Below.setCell ?_ (by first | omega | (simp; done) | (simp; omega)) _))⟩
      · have HR := Lib.hid (widI_yes (a := a) (s := s) (j := j) hv h1 h4 (by omega))
        have h7 : 0 < a - (n + 1) * j := by omega
        clear h4 h6
        go_enter Try.func36, Try.ntmps36
        go_wp2_with (first | (go_at_call 48; refine (l00In_any _ _ _ _).mono ?_; rintro e w' ⟨rfl, rfl⟩) | (go_at_call 47; refine (l12Flat_any _ _ _ _).mono ?_; rintro e w' ⟨rfl, rfl⟩) | (go_at_call 55; refine (l12Width_any _ _ _ _ (by omega) (by omega) (by omega) (by omega) (by omega) (by omega)).mono ?_; rintro e w' ⟨rfl, rfl⟩))
        refine (l02Make_any _ _ _ (by omega) (by omega) (by omega) (by omega)).mono ?_
        rintro e1 w1 ⟨rfl, hb1⟩
        obtain ⟨hc1, hf1⟩ := bcell hb1
        have hz1 := hb1.size
        try simp at hz1
        have hz1_0 : w.heap.size < w1.heap.size := by omega
        have hz1_1 : w.heap.size + 1 < w1.heap.size := by omega
        have ha1 : Below w.heap.size w w1 := below_call (by repeat (first | exact Below.refl _ _ | assumption | refine Below.drew ?_ | refine below_drewN ?_ _ | refine Below.alloc ?_ (by first | omega | (simp; done) | (simp; omega)) _ | refine Below.setCell ?_ (by first | omega | (simp; done) | (simp; omega)) _)) hb1
        go_wp2_with (first | (go_at_call 48; refine (l00In_any _ _ _ _).mono ?_; rintro e w' ⟨rfl, rfl⟩) | (go_at_call 47; refine (l12Flat_any _ _ _ _).mono ?_; rintro e w' ⟨rfl, rfl⟩) | (go_at_call 55; refine (l12Width_any _ _ _ _ (by omega) (by omega) (by omega) (by omega) (by omega) (by omega)).mono ?_; rintro e w' ⟨rfl, rfl⟩))
        rw [HS.out]
        refine (l02Make_any _ _ _ (by omega) (by omega) (by omega) (by omega)).mono ?_
        rintro e2 w2 ⟨rfl, hb2⟩
        have hy2 := hb2.size
        replace hb2 := below_call hb1 hb2
        clear hc1 hf1
        obtain ⟨hc2, hf2⟩ := bcell hb2
        have hz2 := hb2.size
        try simp at hz2
        have hz2_0 : w.heap.size < w2.heap.size := by omega
        have hz2_1 : w.heap.size + 1 < w2.heap.size := by omega
        have ha2 : Below w.heap.size w w2 := below_call (by repeat (first | exact Below.refl _ _ | assumption | refine Below.drew ?_ | refine below_drewN ?_ _ | refine Below.alloc ?_ (by first | omega | (simp; done) | (simp; omega)) _ | refine Below.setCell ?_ (by first | omega | (simp; done) | (simp; omega)) _)) hb2
        have r2_0_0 : w2.cell? ⟨w.heap.size, 0, none⟩ = some (.int .i64 0) := by simp [hc2, go_sem]
        have r2_0_1 : w2.cell? ⟨w.heap.size, 1, none⟩ = some (.int .i64 0) := by simp [hc2, go_sem]
        have q2_0_0 : w2.frozen? ⟨w.heap.size, 0, none⟩ = false := by simp [hf2, go_sem]
        have q2_0_1 : w2.frozen? ⟨w.heap.size, 1, none⟩ = false := by simp [hf2, go_sem]
        have r2_1_0 : w2.cell? ⟨w.heap.size + 1, 0, none⟩ = some (.int .i64 0) := by simp [hc2, go_sem]
        have r2_1_1 : w2.cell? ⟨w.heap.size + 1, 1, none⟩ = some (.int .i64 0) := by simp [hc2, go_sem]
        have q2_1_0 : w2.frozen? ⟨w.heap.size + 1, 0, none⟩ = false := by simp [hf2, go_sem]
        have q2_1_1 : w2.frozen? ⟨w.heap.size + 1, 1, none⟩ = false := by simp [hf2, go_sem]
        clear hc2 hf2
        go_wp2
        refine bodyPost_ret (v := .tuple #[.agg #[.int .i64 (lwN (a - (n + 1) * j) n), .int .i64 (lwD (a - (n + 1) * j) n)], .agg #[.int .i64 (lwN (a - (n + 1) * j + 2 * s) n), .int .i64 (lwD (a - (n + 1) * j + 2 * s) n)], .int .i64 0]) (by simp [results, Try.results36, go_sem, *]) rfl ⟨by rw [HR.out], (by repeat (first | exact Below.refl _ _ | assumption | refine Below.drew ?_ | refine below_drewN ?_ _ | refine Below.alloc ?_ (by first | omega | (simp; done) | (simp; omega)) _ | refine Below.setCell ?_ (by first | omega | (simp; done) | (simp; omega)) _))⟩
  · have hv' : flatB a s j = false ∨ (flatB a s j = true ∧ inB n 1 400 = false) := by
      by_cases h : flatB a s j = true
      · exact .inr ⟨h, by simpa [h] using hv⟩
      · exact .inl (by simpa using h)
    have HR := Lib.hid (widI_no hv')
    clear hv
    rcases hv' with h1 | ⟨h1, h2⟩
    all_goals
      go_enter Try.func36, Try.ntmps36
      go_wp2_with (first | (go_at_call 48; refine (l00In_any _ _ _ _).mono ?_; rintro e w' ⟨rfl, rfl⟩) | (go_at_call 47; refine (l12Flat_any _ _ _ _).mono ?_; rintro e w' ⟨rfl, rfl⟩) | (go_at_call 55; refine (l12Width_any _ _ _ _ (by omega) (by omega) (by omega) (by omega) (by omega) (by omega)).mono ?_; rintro e w' ⟨rfl, rfl⟩))
      refine bodyPost_ret (v := .tuple #[.agg #[.int .i64 0, .int .i64 0], .agg #[.int .i64 0, .int .i64 0], .int .i64 2]) (by simp [results, Try.results36, go_sem]) rfl ⟨by rw [HR.out], (by repeat (first | exact Below.refl _ _ | assumption | refine Below.drew ?_ | refine below_drewN ?_ _ | refine Below.alloc ?_ (by first | omega | (simp; done) | (simp; omega)) _ | refine Below.setCell ?_ (by first | omega | (simp; done) | (simp; omega)) _))⟩

def fbQ (a s j b : Int) : Int := (a + 2 * s - j) / (b + j)
def fbI (a s j b : Int) : Int × Int := if flatB a s j && inB b 30 250 then (if fbQ a s j b < 1 then (0, 3) else (oddI (fbQ a s j b), 0)) else (0, 2)
theorem fbI_no {a s j b : Int} (h : flatB a s j = false ∨ (flatB a s j = true ∧ inB b 30 250 = false)) : fbI a s j b = (0, 2) := by
  unfold fbI; rw [if_neg]; rcases h with h | ⟨h, h1⟩
  · simp [h]
  · simp [h1]
theorem fbI_few {a s j b : Int} (h : flatB a s j = true) (h1 : inB b 30 250 = true) (hq : fbQ a s j b < 1) : fbI a s j b = (0, 3) := by
  unfold fbI; rw [if_pos (by simp [h, h1]), if_pos hq]
theorem fbI_yes {a s j b : Int} (h : flatB a s j = true) (h1 : inB b 30 250 = true) (hq : 1 ≤ fbQ a s j b) : fbI a s j b = (oddI (fbQ a s j b), 0) := by
  unfold fbI; rw [if_pos (by simp [h, h1]), if_neg (by omega)]
theorem fbQ_lo {a s j b : Int} (b1 : 100 ≤ a) (b3 : 0 ≤ s) (b5 : 0 ≤ j) (b6 : j ≤ 20) (b7 : 30 ≤ b) : 0 ≤ fbQ a s j b := Int.ediv_nonneg (by omega) (by omega)
theorem fbQ_hi {a s j b : Int} (b2 : a ≤ 5000) (b4 : s ≤ 500) (b5 : 0 ≤ j) (b7 : 30 ≤ b) : fbQ a s j b ≤ 200 := Int.ediv_le_of_le_mul (by omega) (by omega)
/-- The test of the program's loop. -/
theorem fb_test {a s j b n : Int} (b5 : 0 ≤ j) (b7 : 30 ≤ b) : b * n ≤ a + 2 * s - (n + 1) * j ↔ n ≤ fbQ a s j b := by
  unfold fbQ
  rw [Int.le_ediv_iff_mul_le (by omega), Int.mul_add, Int.add_mul, Int.mul_comm b n]
  omega
set_option maxHeartbeats 400000 in
theorem l00Min_any (a b : Int) (w : World) :
    Calls Try.prog 50 #[.int .i64 a, .int .i64 b] w fun e w' => e = .returned (.int .i64 (min a b)) ∧ w = w' := by
  by_cases h : a < b
  · have HM := Lib.hid (show min a b = a by omega)
    go_enter Try.func50, Try.ntmps50
    go_wp2
    go_ret
    exact ⟨ret_int (by rw [HM.out]), rfl⟩
  · have HM := Lib.hid (show min a b = b by omega)
    go_enter Try.func50, Try.ntmps50
    go_wp2
    go_ret
    exact ⟨ret_int (by rw [HM.out]), rfl⟩
set_option maxHeartbeats 1000000 in
theorem specFlatBricks_any (a s j b : Int) (w : World) :
    Calls Try.prog 24 #[.int .i64 a, .int .i64 s, .int .i64 j, .int .i64 b] w fun e w' => e = .returned (.tuple #[.int .i64 (fbI a s j b).1, .int .i64 (fbI a s j b).2]) ∧ w = w' := by
  by_cases hv : flatB a s j = true
  · obtain ⟨b1, b2, b3, b4, b5, b6⟩ := flatB_t hv
    by_cases h1 : inB b 30 250 = true
    · obtain ⟨b7, b8⟩ := inB_t h1
      have q0 : 0 ≤ (a + 2 * s - j) / (b + j) := fbQ_lo b1 b3 b5 b6 b7
      have q1 : (a + 2 * s - j) / (b + j) ≤ 200 := fbQ_hi b2 b4 b5 b7
      have HM := Lib.hid (show min 400 ((a + 2 * s - j) / (b + j)) = (a + 2 * s - j) / (b + j) by omega)
      by_cases hq : fbQ a s j b < 1
      · have HR := Lib.hid (fbI_few hv h1 hq)
        have HO := Lib.hid (l12OddI_few hq)
        go_enter Try.func24, Try.ntmps24
        go_wp2_with (first | (go_at_call 48; refine (l00In_any _ _ _ _).mono ?_; rintro e w' ⟨rfl, rfl⟩) | (go_at_call 47; refine (l12Flat_any _ _ _ _).mono ?_; rintro e w' ⟨rfl, rfl⟩) | (go_at_call 50; refine (l00Min_any _ _ _).mono ?_; rintro e w' ⟨rfl, rfl⟩; rw [HM.out]))
        refine (l12Odd_any _ _ (by omega) (by omega)).mono ?_
        rintro e2 w2 ⟨rfl, rfl⟩
        rw [show l12OddI ((a + 2 * s - j) / (b + j)) = 0 from HO.out]
        go_wp2
        go_ret2
        exact ⟨by rw [HR.out]; rfl, rfl⟩
      · have HR := Lib.hid (fbI_yes hv h1 (by omega))
        have HO := Lib.hid (l12OddI_yes (n := fbQ a s j b) (by omega))
        have HE : Hid ((oddI (fbQ a s j b) == 0) = false) := by
          have : 1 ≤ oddI (fbQ a s j b) := by unfold oddI; omega
          show _ = _; simp; omega
        go_enter Try.func24, Try.ntmps24
        go_wp2_with (first | (go_at_call 48; refine (l00In_any _ _ _ _).mono ?_; rintro e w' ⟨rfl, rfl⟩) | (go_at_call 47; refine (l12Flat_any _ _ _ _).mono ?_; rintro e w' ⟨rfl, rfl⟩) | (go_at_call 50; refine (l00Min_any _ _ _).mono ?_; rintro e w' ⟨rfl, rfl⟩; rw [HM.out]))
        refine (l12Odd_any _ _ (by omega) (by omega)).mono ?_
        rintro e2 w2 ⟨rfl, rfl⟩
        rw [show l12OddI ((a + 2 * s - j) / (b + j)) = oddI (fbQ a s j b) from HO.out]
        have hE := HE.out
        go_wp2
        go_ret2
        exact ⟨by rw [HR.out]; rfl, rfl⟩
    · have h1' : inB b 30 250 = false := by simpa using h1
      have HR := Lib.hid (fbI_no (.inr ⟨hv, h1'⟩))
      clear h1
      go_enter Try.func24, Try.ntmps24
      go_wp2_with (first | (go_at_call 48; refine (l00In_any _ _ _ _).mono ?_; rintro e w' ⟨rfl, rfl⟩) | (go_at_call 47; refine (l12Flat_any _ _ _ _).mono ?_; rintro e w' ⟨rfl, rfl⟩))
      go_ret2
      exact ⟨by rw [HR.out]; rfl, rfl⟩
  · have hv' : flatB a s j = false := by simpa using hv
    have HR := Lib.hid (fbI_no (b := b) (.inl hv'))
    clear hv
    go_enter Try.func24, Try.ntmps24
    go_wp2_with (first | (go_at_call 48; refine (l00In_any _ _ _ _).mono ?_; rintro e w' ⟨rfl, rfl⟩) | (go_at_call 47; refine (l12Flat_any _ _ _ _).mono ?_; rintro e w' ⟨rfl, rfl⟩))
    go_ret2
    exact ⟨by rw [HR.out]; rfl, rfl⟩
set_option maxHeartbeats 1000000 in
theorem flatBricks_any (a s j b : Int) (w : World) :
    Calls Try.prog 25 #[.int .i64 a, .int .i64 s, .int .i64 j, .int .i64 b] w fun e w' => e = .returned (.tuple #[.int .i64 (fbI a s j b).1, .int .i64 (fbI a s j b).2]) ∧ w = w' := by
  by_cases hv : flatB a s j = true
  · obtain ⟨b1, b2, b3, b4, b5, b6⟩ := flatB_t hv
    by_cases h1 : inB b 30 250 = true
    · obtain ⟨b7, b8⟩ := inB_t h1
      have q0 := fbQ_lo b1 b3 b5 b6 b7
      have q1 := fbQ_hi b2 b4 b5 b7
      have HT := fun n => Lib.hid (fb_test (a := a) (s := s) (n := n) b5 b7)
      have HF := Lib.hid (fbI_few hv h1)
      have HY := Lib.hid (fbI_yes hv h1)
      generalize hqq : fbQ a s j b = q at *
      clear hqq
      have HO : Hid (oddI 400 = 399) := rfl
      go_enter Try.func25, Try.ntmps25
      go_wp2_with (first | (go_at_call 45; refine (within_any _ _ _ _).mono ?_; rintro e w' ⟨rfl, rfl⟩) | (go_at_call 51; refine (isFlat_any _ _ _ _).mono ?_; rintro e w' ⟨rfl, rfl⟩))
      refine (odd_any _ _ (by omega) (by omega)).mono ?_
      rintro e2 w2 ⟨rfl, rfl⟩
      rw [HO.out]
      go_wp2_with fail
      go_loop [10] (fun x => ∃ n : Int, x = .int .i64 n ∧ n % 2 = 1 ∧ q < n + 2 ∧ -1 ≤ n ∧ n ≤ 399) (fun x => (intOf x + 1).toNat)
      case atStart => exact ⟨399, rfl, by omega, by omega, by omega, by omega⟩
      case round =>
        obtain ⟨n, rfl, g1, g2, g3, g4⟩ := hrel
        have HG : Hid (n % 2 = 1) := g1
        clear g1
        by_cases hn : 1 ≤ n
        · obtain ⟨m1, m2⟩ := mul_bd (a := n + 1) (b := j) (A := 400) (B := 20) (by omega) (by omega) b5 b6
          obtain ⟨m3, m4⟩ := mul_bd (a := b) (b := n) (A := 250) (B := 399) (by omega) (by omega) (by omega) (by omega)
          by_cases hq : n ≤ q
          · have ht := (HT n).out.2 hq
            have HE : Hid (oddI q = n) := by show _ = _; unfold oddI; have := HG.out; omega
            go_wp2
            go_ret2
            exact ⟨by rw [HY.out (by omega), HE.out]; rfl, rfl⟩
          · have ht : ¬ b * n ≤ a + 2 * s - (n + 1) * j := fun hh => hq ((HT n).out.1 hh)
            go_wp2
            go_round
            case rel => exact ⟨n - 2, rfl, by have := HG.out; omega, by omega, by omega, by omega⟩
            case measure => simp [intOf]; omega
        · go_wp2
          go_ret2
          exact ⟨by rw [HF.out (by have := HG.out; omega)]; rfl, rfl⟩
    · have h1' : inB b 30 250 = false := by simpa using h1
      have HR := Lib.hid (fbI_no (.inr ⟨hv, h1'⟩))
      clear h1
      go_enter Try.func25, Try.ntmps25
      go_wp2_with (first | (go_at_call 45; refine (within_any _ _ _ _).mono ?_; rintro e w' ⟨rfl, rfl⟩) | (go_at_call 51; refine (isFlat_any _ _ _ _).mono ?_; rintro e w' ⟨rfl, rfl⟩))
      go_ret2
      exact ⟨by rw [HR.out]; rfl, rfl⟩
  · have hv' : flatB a s j = false := by simpa using hv
    have HR := Lib.hid (fbI_no (b := b) (.inl hv'))
    clear hv
    go_enter Try.func25, Try.ntmps25
    go_wp2_with (first | (go_at_call 45; refine (within_any _ _ _ _).mono ?_; rintro e w' ⟨rfl, rfl⟩) | (go_at_call 51; refine (isFlat_any _ _ _ _).mono ?_; rintro e w' ⟨rfl, rfl⟩))
    go_ret2
    exact ⟨by rw [HR.out]; rfl, rfl⟩
end Go.Proofs.Ytjafjkndigchcaa
