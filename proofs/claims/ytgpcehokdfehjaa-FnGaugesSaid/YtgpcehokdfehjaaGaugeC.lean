/- Contracts of CoursesFor and the small functions under it, program and reference: what each call returns, as plain functions on integers; no old memory turns. -/
import Derived.Test.YtgpcehokdfehjaaGauge
namespace Go.Proofs.Ytgpcehokdfehjaa
open Go.RowKit

theorem abs_max (a b : Int) : (if a - b < b - a then b - a else a - b) = ((a - b).natAbs : Int) := by split <;> omega
set_option maxHeartbeats 400000 in
theorem apart_any (a b : Int) (w : World) (h1 : -1000000000000 ≤ a) (h2 : a ≤ 1000000000000) (h3 : -1000000000000 ≤ b) (h4 : b ≤ 1000000000000) :
    Calls Try.prog 44 #[.int .i64 a, .int .i64 b] w fun e w' => e = .returned (.int .i64 ((a - b).natAbs : Int)) ∧ w = w' := by
  by_cases h : a - b < b - a
  · have HE := Lib.hid (show ((a - b).natAbs : Int) = b - a by omega)
    go_enter Try.func44, Try.ntmps44
    go_wp2
    go_ret
    exact ⟨ret_int (by rw [HE.out]), rfl⟩
  · have HE := Lib.hid (show ((a - b).natAbs : Int) = a - b by omega)
    go_enter Try.func44, Try.ntmps44
    go_wp2
    go_ret
    exact ⟨ret_int (by rw [HE.out]), rfl⟩
/-- The joints of n courses are within the limits. -/
def fitB (h H le mo n : Int) : Bool := decide (n * (h + le) ≤ H) && decide (H ≤ n * (h + mo))
def limB (le mo : Int) : Bool := decide (0 ≤ le) && decide (le ≤ mo) && decide (mo ≤ 40)
theorem limB_t {le mo : Int} (h : limB le mo = true) : 0 ≤ le ∧ le ≤ mo ∧ mo ≤ 40 := by
  simp only [limB, Bool.and_eq_true, decide_eq_true_eq] at h; omega
theorem fit_bd {h n x : Int} (h1 : 30 ≤ h) (h2 : h ≤ 150) (n1 : 0 ≤ n) (n2 : n ≤ 40) (x1 : 0 ≤ x) (x2 : x ≤ 40) : 0 ≤ n * (h + x) ∧ n * (h + x) ≤ 7600 :=
  mul_bd (b := h + x) (B := 190) n1 n2 (by omega) (by omega)
set_option maxHeartbeats 400000 in
theorem fits_any (l d h j H le mo n : Int) (w : World) (h1 : 30 ≤ h) (h2 : h ≤ 150) (n1 : 1 ≤ n) (n2 : n ≤ 40) (x1 : 0 ≤ le) (x2 : le ≤ mo) (x3 : mo ≤ 40) :
    Calls Try.prog 45 #[.agg #[.int .i64 l, .int .i64 d, .int .i64 h, .int .i64 j], .int .i64 H, .int .i64 le, .int .i64 mo, .int .i64 n] w fun e w' => e = .returned (.bool (fitB h H le mo n)) ∧ Below w.heap.size w w' := by
  obtain ⟨m1, m2⟩ := fit_bd h1 h2 (show 0 ≤ n by omega) n2 x1 (show le ≤ 40 by omega)
  obtain ⟨m3, m4⟩ := fit_bd h1 h2 (show 0 ≤ n by omega) n2 (show 0 ≤ mo by omega) x3
  by_cases g1 : n * (h + le) ≤ H
  · by_cases g2 : H ≤ n * (h + mo)
    · have HE := Lib.hid (show fitB h H le mo n = true by simp [fitB, g1, g2])
      go_enter Try.func45, Try.ntmps45
      go_wp2
      go_ret
      exact ⟨ret_bool (by rw [HE.out]), (by repeat (first | exact Below.refl _ _ | assumption | refine Below.drew ?_ | refine below_drewN ?_ _ | refine Below.alloc ?_ (by first | omega | (simp; done) | (simp; omega)) _ | refine Below.setCell ?_ (by first | omega | (simp; done) | (simp; omega)) _))⟩
    · have HE := Lib.hid (show fitB h H le mo n = false by simp [fitB, g2])
      go_enter Try.func45, Try.ntmps45
      go_wp2
      go_ret
      exact ⟨ret_bool (by rw [HE.out]), (by repeat (first | exact Below.refl _ _ | assumption | refine Below.drew ?_ | refine below_drewN ?_ _ | refine Below.alloc ?_ (by first | omega | (simp; done) | (simp; omega)) _ | refine Below.setCell ?_ (by first | omega | (simp; done) | (simp; omega)) _))⟩
  · have HE := Lib.hid (show fitB h H le mo n = false by simp [fitB, g1])
    have d1 : decide (n * (h + le) ≤ H) = false := decide_eq_false g1
    go_enter Try.func45, Try.ntmps45
    go_wp2
    go_ret
    exact ⟨ret_bool (by rw [HE.out]), (by repeat (first | exact Below.refl _ _ | assumption | refine Below.drew ?_ | refine below_drewN ?_ _ | refine Below.alloc ?_ (by first | omega | (simp; done) | (simp; omega)) _ | refine Below.setCell ?_ (by first | omega | (simp; done) | (simp; omega)) _))⟩
set_option maxHeartbeats 400000 in
theorem l10Fits_any (l d h j H le mo n : Int) (w : World) (h1 : 30 ≤ h) (h2 : h ≤ 150) (n1 : 1 ≤ n) (n2 : n ≤ 40) (x1 : 0 ≤ le) (x2 : le ≤ mo) (x3 : mo ≤ 40) (y1 : 0 ≤ H) (y2 : H ≤ 6000) :
    Calls Try.prog 39 #[.agg #[.int .i64 l, .int .i64 d, .int .i64 h, .int .i64 j], .int .i64 H, .int .i64 le, .int .i64 mo, .int .i64 n] w fun e w' => e = .returned (.bool (fitB h H le mo n)) ∧ Below w.heap.size w w' := by
  obtain ⟨m1, m2⟩ := mul_bd (a := n) (b := h) (A := 40) (B := 150) (by omega) n2 (by omega) h2
  obtain ⟨m3, m4⟩ := mul_bd (a := n) (b := le) (A := 40) (B := 40) (by omega) n2 x1 (by omega)
  obtain ⟨m5, m6⟩ := mul_bd (a := n) (b := mo) (A := 40) (B := 40) (by omega) n2 (by omega) x3
  have HE := Lib.hid (show inB (H - n * h) (n * le) (n * mo) = fitB h H le mo n by
    unfold inB fitB
    rw [Int.mul_add, Int.mul_add, Bool.eq_iff_iff]
    simp only [Bool.and_eq_true, decide_eq_true_eq]
    omega)
  go_enter Try.func39, Try.ntmps39
  go_wp2_with fail
  refine (l00In_any _ _ _ _).mono ?_
  rintro e1 w1 ⟨rfl, rfl⟩
  rw [HE.out]
  go_wp2
  go_ret
  exact ⟨rfl, (by repeat (first | exact Below.refl _ _ | assumption | refine Below.drew ?_ | refine below_drewN ?_ _ | refine Below.alloc ?_ (by first | omega | (simp; done) | (simp; omega)) _ | refine Below.setCell ?_ (by first | omega | (simp; done) | (simp; omega)) _))⟩
set_option maxHeartbeats 400000 in
theorem isLimit_any (le mo : Int) (w : World) :
    Calls Try.prog 43 #[.int .i64 le, .int .i64 mo] w fun e w' => e = .returned (.bool (limB le mo)) ∧ w = w' := by
  cases d1 : decide (0 ≤ le) <;> cases d2 : decide (le ≤ mo) <;> cases d3 : decide (mo ≤ 40)
  all_goals
    have HE := Lib.hid (show limB le mo = (decide (0 ≤ le) && decide (le ≤ mo) && decide (mo ≤ 40)) from rfl)
    rw [d1, d2, d3] at HE
    go_enter Try.func43, Try.ntmps43
    go_wp2
    go_ret
    exact ⟨ret_bool (by rw [HE.out]; rfl), rfl⟩
/-- The code of a format, a height and two limits. -/
def limC (l d h j H le mo : Int) : Int := if fmtB l d h j then (if inB H 100 6000 && limB le mo then 0 else 2) else 1
theorem lim_two (le mo : Int) : (inB le 0 40 && inB mo le 40) = limB le mo := by
  unfold inB limB; rw [Bool.eq_iff_iff]; simp only [Bool.and_eq_true, decide_eq_true_eq]; omega
set_option maxHeartbeats 1000000 in
theorem l10Limits_any (l d h j H le mo : Int) (w : World) :
    Calls Try.prog 38 #[.agg #[.int .i64 l, .int .i64 d, .int .i64 h, .int .i64 j], .int .i64 H, .int .i64 le, .int .i64 mo] w fun e w' => e = .returned (.int .i64 (limC l d h j H le mo)) ∧ Below w.heap.size w w' := by
  have hl := lim_two le mo
  cases g : fmtB l d h j <;> cases g1 : inB H 100 6000 <;> cases g2 : inB le 0 40 <;> cases g3 : inB mo le 40
  all_goals
    rw [g2, g3] at hl
    have HE := Lib.hid (show limC l d h j H le mo = _ by unfold limC; rw [g, g1, ← hl])
    clear hl
    go_enter Try.func38, Try.ntmps38
    go_wp2_with fail
    refine (l02Ok_any _ _ _ _ _).mono ?_
    rintro e1 w1 ⟨rfl, hb1⟩
    obtain ⟨hc1, hf1⟩ := bcell hb1
    have hz1 := hb1.size
    try simp at hz1
    have hz1_0 : w.heap.size < w1.heap.size := by omega
    have ha1 : Below w.heap.size w w1 := below_call (by repeat (first | exact Below.refl _ _ | assumption | refine Below.drew ?_ | refine below_drewN ?_ _ | refine Below.alloc ?_ (by first | omega | (simp; done) | (simp; omega)) _ | refine Below.setCell ?_ (by first | omega | (simp; done) | (simp; omega)) _)) hb1
    go_wp2_with (first | (go_at_call 67; refine (l00In_any _ _ _ _).mono ?_; rintro e w' ⟨rfl, rfl⟩) | (go_at_call 66; refine (l10Height_any _ _).mono ?_; rintro e w' ⟨rfl, rfl⟩))
    go_ret
    exact ⟨ret_int (by rw [HE.out]; rfl), (by repeat (first | exact Below.refl _ _ | assumption | refine Below.drew ?_ | refine below_drewN ?_ _ | refine Below.alloc ?_ (by first | omega | (simp; done) | (simp; omega)) _ | refine Below.setCell ?_ (by first | omega | (simp; done) | (simp; omega)) _))⟩
end Go.Proofs.Ytgpcehokdfehjaa
