/- Contracts of the functions on arcs and flat arches, program and reference: what each call returns, as plain functions on integers; no old memory turns. -/
import Derived.Test.YtjafjkndigchcaaArch
namespace Go.Proofs.Ytjafjkndigchcaa
open Go.RowKit

def radB (s r : Int) : Bool := inB s 1 10000 && inB r 1 5000 && decide (2 * r ≤ s)
theorem radB_t {s r : Int} (h : radB s r = true) : inB s 1 10000 = true ∧ inB r 1 5000 = true ∧ 1 ≤ s ∧ s ≤ 10000 ∧ 1 ≤ r ∧ r ≤ 5000 ∧ 2 * r ≤ s := by
  simp only [radB, Bool.and_eq_true, decide_eq_true_eq] at h
  obtain ⟨⟨h1, h2⟩, h3⟩ := h
  have := inB_t h1; have := inB_t h2
  exact ⟨h1, h2, by omega, by omega, by omega, by omega, h3⟩
theorem radB_f {s r : Int} (h : radB s r = false) : inB s 1 10000 = false ∨ (inB s 1 10000 = true ∧ inB r 1 5000 = false) ∨ (inB s 1 10000 = true ∧ inB r 1 5000 = true ∧ 1 ≤ r ∧ r ≤ 5000 ∧ s < 2 * r) := by
  by_cases h1 : inB s 1 10000 = true
  · by_cases h2 : inB r 1 5000 = true
    · have := inB_t h2
      simp only [radB, h1, h2, Bool.true_and, decide_eq_false_iff_not] at h
      exact .inr (.inr ⟨h1, h2, by omega, by omega, by omega⟩)
    · exact .inr (.inl ⟨h1, by simpa using h2⟩)
  · exact .inl (by simpa using h1)
def radiusI (s r : Int) : Int × Int × Int := if radB s r then (lwN (s * s + 4 * r * r) (8 * r), lwD (s * s + 4 * r * r) (8 * r), 0) else (0, 0, 2)
theorem radiusI_yes {s r : Int} (h : radB s r = true) : radiusI s r = (lwN (s * s + 4 * r * r) (8 * r), lwD (s * s + 4 * r * r) (8 * r), 0) := if_pos h
theorem radiusI_no {s r : Int} (h : radB s r = false) : radiusI s r = (0, 0, 2) := by simp [radiusI, h]
set_option maxHeartbeats 1000000 in
theorem radiusOf_any (s r : Int) (w : World) :
    Calls Try.prog 23 #[.int .i64 s, .int .i64 r] w fun e w' => e = .returned (.tuple #[.agg #[.int .i64 (radiusI s r).1, .int .i64 (radiusI s r).2.1], .int .i64 (radiusI s r).2.2]) ∧ Below w.heap.size w w' := by
  by_cases hv : radB s r = true
  · obtain ⟨h1, h2, b1, b2, b3, b4, b5⟩ := radB_t hv
    have HR := Lib.hid (radiusI_yes hv)
    obtain ⟨m1, m2⟩ := mul_bd (a := s) (b := s) (A := 10000) (B := 10000) (by omega) (by omega) (by omega) (by omega)
    obtain ⟨m3, m4⟩ := mul_bd (a := 4 * r) (b := r) (A := 20000) (B := 5000) (by omega) (by omega) (by omega) (by omega)
    clear hv
    go_enter Try.func23, Try.ntmps23
    go_wp2_with (go_at_call 45; refine (within_any _ _ _ _).mono ?_; rintro e w' ⟨rfl, rfl⟩)
    refine (lowest_any _ _ _ (by omega) (by omega) (by omega) (by omega)).mono ?_
    rintro e1 w1 ⟨rfl, hb1⟩
    obtain ⟨hc1, hf1⟩ := bcell hb1
    have hz1 := hb1.size
    try simp at hz1
    have hz1_0 : w.heap.size < w1.heap.size := by omega
    have ha1 : Below w.heap.size w w1 := below_call (by repeat (first | exact Below.refl _ _ | assumption | refine Below.drew ?_ | refine below_drewN ?_ _ | refine Below.alloc ?_ (by first | omega | (simp; done) | (simp; omega)) _ | refine Below.setCell ?_ (by first | omega | (simp; done) | (simp; omega)) _)) hb1
    go_wp2
    refine bodyPost_ret (v := .tuple #[.agg #[.int .i64 (lwN (s * s + 4 * r * r) (8 * r)), .int .i64 (lwD (s * s + 4 * r * r) (8 * r))], .int .i64 0]) (by simp [results, Try.results23, go_sem, *]) rfl ⟨by rw [HR.out], (by repeat (first | exact Below.refl _ _ | assumption | refine Below.drew ?_ | refine below_drewN ?_ _ | refine Below.alloc ?_ (by first | omega | (simp; done) | (simp; omega)) _ | refine Below.setCell ?_ (by first | omega | (simp; done) | (simp; omega)) _))⟩
  · have hv' : radB s r = false := by simpa using hv
    have HR := Lib.hid (radiusI_no hv')
    clear hv
    rcases radB_f hv' with h1 | ⟨h1, h2⟩ | ⟨h1, h2, b1, b2, b3⟩
    all_goals
      clear hv'
      go_enter Try.func23, Try.ntmps23
      go_wp2_with (go_at_call 45; refine (within_any _ _ _ _).mono ?_; rintro e w' ⟨rfl, rfl⟩)
      refine bodyPost_ret (v := .tuple #[.agg #[.int .i64 0, .int .i64 0], .int .i64 2]) (by simp [results, Try.results23, go_sem]) rfl ⟨by rw [HR.out], (by repeat (first | exact Below.refl _ _ | assumption | refine Below.drew ?_ | refine below_drewN ?_ _ | refine Below.alloc ?_ (by first | omega | (simp; done) | (simp; omega)) _ | refine Below.setCell ?_ (by first | omega | (simp; done) | (simp; omega)) _))⟩
set_option maxHeartbeats 1000000 in
theorem specRadiusOf_any (s r : Int) (w : World) :
    Calls Try.prog 28 #[.int .i64 s, .int .i64 r] w fun e w' => e = .returned (.tuple #[.agg #[.int .i64 (radiusI s r).1, .int .i64 (radiusI s r).2.1], .int .i64 (radiusI s r).2.2]) ∧ Below w.heap.size w w' := by
  by_cases hv : radB s r = true
  · obtain ⟨h1, h2, b1, b2, b3, b4, b5⟩ := radB_t hv
    have HR := Lib.hid (radiusI_yes hv)
    obtain ⟨m1, m2⟩ := mul_bd (a := s) (b := s) (A := 10000) (B := 10000) (by omega) (by omega) (by omega) (by omega)
    obtain ⟨m3, m4⟩ := mul_bd (a := 4 * r) (b := r) (A := 20000) (B := 5000) (by omega) (by omega) (by omega) (by omega)
    clear hv
    go_enter Try.func28, Try.ntmps28
    go_wp2_with (go_at_call 48; refine (l00In_any _ _ _ _).mono ?_; rintro e w' ⟨rfl, rfl⟩)
    refine (l02Make_any _ _ _ (by omega) (by omega) (by omega) (by omega)).mono ?_
    rintro e1 w1 ⟨rfl, hb1⟩
    obtain ⟨hc1, hf1⟩ := bcell hb1
    have hz1 := hb1.size
    try simp at hz1
    have hz1_0 : w.heap.size < w1.heap.size := by omega
    have ha1 : Below w.heap.size w w1 := below_call (by repeat (first | exact Below.refl _ _ | assumption | refine Below.drew ?_ | refine below_drewN ?_ _ | refine Below.alloc ?_ (by first | omega | (simp; done) | (simp; omega)) _ | refine Below.setCell ?_ (by first | omega | (simp; done) | (simp; omega)) _)) hb1
    go_wp2
    refine bodyPost_ret (v := .tuple #[.agg #[.int .i64 (lwN (s * s + 4 * r * r) (8 * r)), .int .i64 (lwD (s * s + 4 * r * r) (8 * r))], .int .i64 0]) (by simp [results, Try.results28, go_sem, *]) rfl ⟨by rw [HR.out], (by repeat (first | exact Below.refl _ _ | assumption | refine Below.drew ?_ | refine below_drewN ?_ _ | refine Below.alloc ?_ (by first | omega | (simp; done) | (simp; omega)) _ | refine Below.setCell ?_ (by first | omega | (simp; done) | (simp; omega)) _))⟩
  · have hv' : radB s r = false := by simpa using hv
    have HR := Lib.hid (radiusI_no hv')
    clear hv
    rcases radB_f hv' with h1 | ⟨h1, h2⟩ | ⟨h1, h2, b1, b2, b3⟩
    all_goals
      clear hv'
      go_enter Try.func28, Try.ntmps28
      go_wp2_with (go_at_call 48; refine (l00In_any _ _ _ _).mono ?_; rintro e w' ⟨rfl, rfl⟩)
      refine bodyPost_ret (v := .tuple #[.agg #[.int .i64 0, .int .i64 0], .int .i64 2]) (by simp [results, Try.results28, go_sem]) rfl ⟨by rw [HR.out], (by repeat (first | exact Below.refl _ _ | assumption | refine Below.drew ?_ | refine below_drewN ?_ _ | refine Below.alloc ?_ (by first | omega | (simp; done) | (simp; omega)) _ | refine Below.setCell ?_ (by first | omega | (simp; done) | (simp; omega)) _))⟩

def arcB (r p q : Int) : Bool := inB r 1 5000 && inB p 0 1000 && inB q 1 1000
theorem arcB_t {r p q : Int} (h : arcB r p q = true) : inB r 1 5000 = true ∧ inB p 0 1000 = true ∧ inB q 1 1000 = true ∧ 1 ≤ r ∧ r ≤ 5000 ∧ 0 ≤ p ∧ p ≤ 1000 ∧ 1 ≤ q ∧ q ≤ 1000 := by
  simp only [arcB, Bool.and_eq_true] at h
  obtain ⟨⟨h1, h2⟩, h3⟩ := h
  have := inB_t h1; have := inB_t h2; have := inB_t h3
  exact ⟨h1, h2, h3, by omega, by omega, by omega, by omega, by omega, by omega⟩
theorem arcB_f {r p q : Int} (h : arcB r p q = false) : inB r 1 5000 = false ∨ (inB r 1 5000 = true ∧ inB p 0 1000 = false) ∨ (inB r 1 5000 = true ∧ inB p 0 1000 = true ∧ inB q 1 1000 = false) := by
  by_cases h1 : inB r 1 5000 = true
  · by_cases h2 : inB p 0 1000 = true
    · simp only [arcB, h1, h2, Bool.true_and] at h
      exact .inr (.inr ⟨h1, h2, h⟩)
    · exact .inr (.inl ⟨h1, by simpa using h2⟩)
  · exact .inl (by simpa using h1)
def arcI (r p q : Int) : Int × Int × Int × Int × Int :=
  if arcB r p q then (lwN (r * (q * q - p * p)) (q * q + p * p), lwD (r * (q * q - p * p)) (q * q + p * p), lwN (r * 2 * p * q) (q * q + p * p), lwD (r * 2 * p * q) (q * q + p * p), 0) else (0, 0, 0, 0, 2)
theorem arcI_yes {r p q : Int} (h : arcB r p q = true) : arcI r p q = (lwN (r * (q * q - p * p)) (q * q + p * p), lwD (r * (q * q - p * p)) (q * q + p * p), lwN (r * 2 * p * q) (q * q + p * p), lwD (r * 2 * p * q) (q * q + p * p), 0) := if_pos h
theorem arcI_no {r p q : Int} (h : arcB r p q = false) : arcI r p q = (0, 0, 0, 0, 2) := by simp [arcI, h]
theorem arc_bounds {r p q : Int} (h1 : 1 ≤ r) (h2 : r ≤ 5000) (h3 : 0 ≤ p) (h4 : p ≤ 1000) (h5 : 1 ≤ q) (h6 : q ≤ 1000) :
    (0 ≤ p * p ∧ p * p ≤ 1000000) ∧ (1 ≤ q * q ∧ q * q ≤ 1000000) ∧ (-5000000000 ≤ r * (q * q - p * p) ∧ r * (q * q - p * p) ≤ 5000000000) ∧ (0 ≤ r * 2 * p ∧ r * 2 * p ≤ 10000000) ∧ (0 ≤ r * 2 * p * q ∧ r * 2 * p * q ≤ 10000000000) := by
  have hp := mul_bd h3 h4 h3 h4
  have hq := mul_bd (by omega) h6 (show (0:Int) ≤ q by omega) h6
  have hq1 : 1 * 1 ≤ q * q := Int.mul_le_mul h5 h5 (by omega) (by omega)
  have hr := mul_bd (a := r) (b := q * q) (A := 5000) (B := 1000000) (by omega) h2 (by omega) (by omega)
  have hr2 := mul_bd (a := r) (b := p * p) (A := 5000) (B := 1000000) (by omega) h2 (by omega) (by omega)
  have hs := mul_bd (a := r * 2) (b := p) (A := 10000) (B := 1000) (by omega) (by omega) h3 h4
  have ht := mul_bd (a := r * 2 * p) (b := q) (A := 10000000) (B := 1000) (by omega) (by omega) (by omega) h6
  refine ⟨by omega, by omega, ?_, by omega, by omega⟩
  rw [Int.mul_sub]; omega
set_option maxHeartbeats 1000000 in
theorem arcPoint_any (r p q : Int) (w : World) :
    Calls Try.prog 22 #[.int .i64 r, .int .i64 p, .int .i64 q] w fun e w' => e = .returned (.tuple #[.agg #[.int .i64 (arcI r p q).1, .int .i64 (arcI r p q).2.1], .agg #[.int .i64 (arcI r p q).2.2.1, .int .i64 (arcI r p q).2.2.2.1], .int .i64 (arcI r p q).2.2.2.2]) ∧ Below w.heap.size w w' := by
  by_cases hv : arcB r p q = true
  · obtain ⟨h1, h2, h3, b1, b2, b3, b4, b5, b6⟩ := arcB_t hv
    have HR := Lib.hid (arcI_yes hv)
    obtain ⟨⟨m1, m2⟩, ⟨m3, m4⟩, ⟨m5, m6⟩, ⟨m7, m8⟩, ⟨m9, m10⟩⟩ := arc_bounds b1 b2 b3 b4 b5 b6
    clear hv
    go_enter Try.func22, Try.ntmps22
    go_wp2_with (go_at_call 45; refine (within_any _ _ _ _).mono ?_; rintro e w' ⟨rfl, rfl⟩)
    refine (lowest_any _ _ _ (by omega) (by omega) (by omega) (by omega)).mono ?_
    rintro e1 w1 ⟨rfl, hb1⟩
    obtain ⟨hc1, hf1⟩ := bcell hb1
    have hz1 := hb1.size
    try simp at hz1
    have hz1_0 : w.heap.size < w1.heap.size := by omega
    have hz1_1 : w.heap.size + 1 < w1.heap.size := by omega
    have ha1 : Below w.heap.size w w1 := below_call (by repeat (first | exact Below.refl _ _ | assumption | refine Below.drew ?_ | refine below_drewN ?_ _ | refine Below.alloc ?_ (by first | omega | (simp; done) | (simp; omega)) _ | refine Below.setCell ?_ (by first | omega | (simp; done) | (simp; omega)) _)) hb1
    go_wp2_with fail
    refine (lowest_any _ _ _ (by omega) (by omega) (by omega) (by omega)).mono ?_
    rintro e2 w2 ⟨rfl, hb2⟩
    have hy2 := hb2.size
    replace hb2 := below_call hb1 hb2
    clear hc1 hf1
    obtain ⟨hc2, hf2⟩ := bcell hb2
    have hz2 := hb2.size
    try simp at hz2
    have hz2_0 : w.heap.size < w2.heap.size := by omega
    have hz2_1 : w.heap.size + 1 < w2.heap.size := by omega
    have ha2 : Below w.heap.size w w2 := below_call (by repeat (first | exact Below.refl _ _ | assumption | refine Below.drew ?_ | refine below_drewN ?_ _ | refine Below.alloc ?_ (by first | omega | (simp; done) | (simp; omega)) _ | refine Below.setCell ?_ (by first | omega | (simp; done) | (simp; omega)) _)) hb2
    have r2_0_0 : w2.cell? ⟨w.heap.size, 0, none⟩ = some (.int .i64 0) := by simp [hc2, go_sem]
    have r2_0_1 : w2.cell? ⟨w.heap.size, 1, none⟩ = some (.int .i64 0) := by simp [hc2, go_sem]
    have q2_0_0 : w2.frozen? ⟨w.heap.size, 0, none⟩ = false := by simp [hf2, go_sem]
    have q2_0_1 : w2.frozen? ⟨w.heap.size, 1, none⟩ = false := by simp [hf2, go_sem]
    have r2_1_0 : w2.cell? ⟨w.heap.size + 1, 0, none⟩ = some (.int .i64 0) := by simp [hc2, go_sem]
    have r2_1_1 : w2.cell? ⟨w.heap.size + 1, 1, none⟩ = some (.int .i64 0) := by simp [hc2, go_sem]
    have q2_1_0 : w2.frozen? ⟨w.heap.size + 1, 0, none⟩ = false := by simp [hf2, go_sem]
    have q2_1_1 : w2.frozen? ⟨w.heap.size + 1, 1, none⟩ = false := by simp [hf2, go_sem]
    clear hc2 hf2
    go_wp2
    refine bodyPost_ret (v := .tuple #[.agg #[.int .i64 (lwN (r * (q * q - p * p)) (q * q + p * p)), .int .i64 (lwD (r * (q * q - p * p)) (q * q + p * p))], .agg #[.int .i64 (lwN (r * 2 * p * q) (q * q + p * p)), .int .i64 (lwD (r * 2 * p * q) (q * q + p * p))], .int .i64 0]) (by simp [results, Try.results22, go_sem, *]) rfl ⟨by rw [HR.out], (by repeat (first | exact Below.refl _ _ | assumption | refine Below.drew ?_ | refine below_drewN ?_ _ | refine Below.alloc ?_ (by first | omega | (simp; done) | (simp; omega)) _ | refine Below.setCell ?_ (by first | omega | (simp; done) | (simp; omega)) _))⟩
  · have hv' : arcB r p q = false := by simpa using hv
    have HR := Lib.hid (arcI_no hv')
    clear hv
    rcases arcB_f hv' with h1 | ⟨h1, h2⟩ | ⟨h1, h2, h3⟩
    all_goals
      clear hv'
      go_enter Try.func22, Try.ntmps22
      go_wp2_with (go_at_call 45; refine (within_any _ _ _ _).mono ?_; rintro e w' ⟨rfl, rfl⟩)
      refine bodyPost_ret (v := .tuple #[.agg #[.int .i64 0, .int .i64 0], .agg #[.int .i64 0, .int .i64 0], .int .i64 2]) (by simp [results, Try.results22, go_sem]) rfl ⟨by rw [HR.out], (by repeat (first | exact Below.refl _ _ | assumption | refine Below.drew ?_ | refine below_drewN ?_ _ | refine Below.alloc ?_ (by first | omega | (simp; done) | (simp; omega)) _ | refine Below.setCell ?_ (by first | omega | (simp; done) | (simp; omega)) _))⟩
set_option maxHeartbeats 1000000 in
theorem specArcPoint_any (r p q : Int) (w : World) :
    Calls Try.prog 32 #[.int .i64 r, .int .i64 p, .int .i64 q] w fun e w' => e = .returned (.tuple #[.agg #[.int .i64 (arcI r p q).1, .int .i64 (arcI r p q).2.1], .agg #[.int .i64 (arcI r p q).2.2.1, .int .i64 (arcI r p q).2.2.2.1], .int .i64 (arcI r p q).2.2.2.2]) ∧ Below w.heap.size w w' := by
  by_cases hv : arcB r p q = true
  · obtain ⟨h1, h2, h3, b1, b2, b3, b4, b5, b6⟩ := arcB_t hv
    have HR := Lib.hid (arcI_yes hv)
    obtain ⟨⟨m1, m2⟩, ⟨m3, m4⟩, ⟨m5, m6⟩, ⟨m7, m8⟩, ⟨m9, m10⟩⟩ := arc_bounds b1 b2 b3 b4 b5 b6
    clear hv
    go_enter Try.func32, Try.ntmps32
    go_wp2_with (go_at_call 48; refine (l00In_any _ _ _ _).mono ?_; rintro e w' ⟨rfl, rfl⟩)
    refine (l02Make_any _ _ _ (by omega) (by omega) (by omega) (by omega)).mono ?_
    rintro e1 w1 ⟨rfl, hb1⟩
    obtain ⟨hc1, hf1⟩ := bcell hb1
    have hz1 := hb1.size
    try simp at hz1
    have hz1_0 : w.heap.size < w1.heap.size := by omega
    have hz1_1 : w.heap.size + 1 < w1.heap.size := by omega
    have ha1 : Below w.heap.size w w1 := below_call (by repeat (first | exact Below.refl _ _ | assumption | refine Below.drew ?_ | refine below_drewN ?_ _ | refine Below.alloc ?_ (by first | omega | (simp; done) | (simp; omega)) _ | refine Below.setCell ?_ (by first | omega | (simp; done) | (simp; omega)) _)) hb1
    go_wp2_with fail
    refine (l02Make_any _ _ _ (by omega) (by omega) (by omega) (by omega)).mono ?_
    rintro e2 w2 ⟨rfl, hb2⟩
    have hy2 := hb2.size
    replace hb2 := below_call hb1 hb2
    clear hc1 hf1
    obtain ⟨hc2, hf2⟩ := bcell hb2
    have hz2 := hb2.size
    try simp at hz2
    have hz2_0 : w.heap.size < w2.heap.size := by omega
    have hz2_1 : w.heap.size + 1 < w2.heap.size := by omega
    have ha2 : Below w.heap.size w w2 := below_call (by repeat (first | exact Below.refl _ _ | assumption | refine Below.drew ?_ | refine below_drewN ?_ _ | refine Below.alloc ?_ (by first | omega | (simp; done) | (simp; omega)) _ | refine Below.setCell ?_ (by first | omega | (simp; done) | (simp; omega)) _)) hb2
    have r2_0_0 : w2.cell? ⟨w.heap.size, 0, none⟩ = some (.int .i64 0) := by simp [hc2, go_sem]
    have r2_0_1 : w2.cell? ⟨w.heap.size, 1, none⟩ = some (.int .i64 0) := by simp [hc2, go_sem]
    have q2_0_0 : w2.frozen? ⟨w.heap.size, 0, none⟩ = false := by simp [hf2, go_sem]
    have q2_0_1 : w2.frozen? ⟨w.heap.size, 1, none⟩ = false := by simp [hf2, go_sem]
    have r2_1_0 : w2.cell? ⟨w.heap.size + 1, 0, none⟩ = some (.int .i64 0) := by simp [hc2, go_sem]
    have r2_1_1 : w2.cell? ⟨w.heap.size + 1, 1, none⟩ = some (.int .i64 0) := by simp [hc2, go_sem]
    have q2_1_0 : w2.frozen? ⟨w.heap.size + 1, 0, none⟩ = false := by simp [hf2, go_sem]
    have q2_1_1 : w2.frozen? ⟨w.heap.size + 1, 1, none⟩ = false := by simp [hf2, go_sem]
    clear hc2 hf2
    go_wp2
    refine bodyPost_ret (v := .tuple #[.agg #[.int .i64 (lwN (r * (q * q - p * p)) (q * q + p * p)), .int .i64 (lwD (r * (q * q - p * p)) (q * q + p * p))], .agg #[.int .i64 (lwN (r * 2 * p * q) (q * q + p * p)), .int .i64 (lwD (r * 2 * p * q) (q * q + p * p))], .int .i64 0]) (by simp [results, Try.results32, go_sem, *]) rfl ⟨by rw [HR.out], (by repeat (first | exact Below.refl _ _ | assumption | refine Below.drew ?_ | refine below_drewN ?_ _ | refine Below.alloc ?_ (by first | omega | (simp; done) | (simp; omega)) _ | refine Below.setCell ?_ (by first | omega | (simp; done) | (simp; omega)) _))⟩
  · have hv' : arcB r p q = false := by simpa using hv
    have HR := Lib.hid (arcI_no hv')
    clear hv
    rcases arcB_f hv' with h1 | ⟨h1, h2⟩ | ⟨h1, h2, h3⟩
    all_goals
      clear hv'
      go_enter Try.func32, Try.ntmps32
      go_wp2_with (go_at_call 48; refine (l00In_any _ _ _ _).mono ?_; rintro e w' ⟨rfl, rfl⟩)
      refine bodyPost_ret (v := .tuple #[.agg #[.int .i64 0, .int .i64 0], .agg #[.int .i64 0, .int .i64 0], .int .i64 2]) (by simp [results, Try.results32, go_sem]) rfl ⟨by rw [HR.out], (by repeat (first | exact Below.refl _ _ | assumption | refine Below.drew ?_ | refine below_drewN ?_ _ | refine Below.alloc ?_ (by first | omega | (simp; done) | (simp; omega)) _ | refine Below.setCell ?_ (by first | omega | (simp; done) | (simp; omega)) _))⟩
end Go.Proofs.Ytjafjkndigchcaa
