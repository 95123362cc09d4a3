/- Contracts of CoursesFor and the small functions under it, program and reference: what each call returns, as plain functions on integers; no old memory turns. -/
import Derived.Test.YtgpcehokdfehjaaDoorGauge
namespace Go.Proofs.YtgpcehokdfehjaaDoor
open Go.RowKit

theorem abs_max (a b : Int) : (if a - b < b - a then b - a else a - b) = ((a - b).natAbs : Int) := by split <;> omega
set_option maxHeartbeats 400000 in
theorem apart_any (a b : Int) (w : World) (h1 : -1000000000000 ≤ a) (h2 : a ≤ 1000000000000) (h3 : -1000000000000 ≤ b) (h4 : b ≤ 1000000000000) :
    Calls Tryd.prog 56 #[.int .i64 a, .int .i64 b] w fun e w' => e = .returned (.int .i64 ((a - b).natAbs : Int)) ∧ w = w' := by
  by_cases h : a - b < b - a
  · have HE := Lib.hid (show ((a - b).natAbs : Int) = b - a by omega)
    go_enter Tryd.func56, Tryd.ntmps56
    go_wp2
    go_ret
    exact ⟨ret_int (by rw [HE.out]), rfl⟩
  · have HE := Lib.hid (show ((a - b).natAbs : Int) = a - b by omega)
    go_enter Tryd.func56, Tryd.ntmps56
    go_wp2
    go_ret
    exact ⟨ret_int (by rw [HE.out]), rfl⟩
/-- The joints of n courses are within the limits. -/
def fitB (h H le mo n : Int) : Bool := decide (n * (h + le) ≤ H) && decide (H ≤ n * (h + mo))
def limB (le mo : Int) : Bool := decide (0 ≤ le) && decide (le ≤ mo) && decide (mo ≤ 40)
theorem limB_t {le mo : Int} (h : limB le mo = true) : 0 ≤ le ∧ le ≤ mo ∧ mo ≤ 40 := by
  simp only [limB, Bool.and_eq_true, decide_eq_true_eq] at h; omega
theorem fit_bd {h n x : Int} (h1 : 30 ≤ h) (h2 : h ≤ 150) (n1 : 0 ≤ n) (n2 : n ≤ 40) (x1 : 0 ≤ x) (x2 : x ≤ 40) : 0 ≤ n * (h + x) ∧ n * (h + x) ≤ 7600 :=
  mul_bd (b := h + x) (B := 190) n1 n2 (by omega) (by omega)
/-- The code of a format, a height and two limits. -/
def limC (l d h j H le mo : Int) : Int := if fmtB l d h j then (if inB H 100 6000 && limB le mo then 0 else 2) else 1
theorem lim_two (le mo : Int) : (inB le 0 40 && inB mo le 40) = limB le mo := by
  unfold inB limB; rw [Bool.eq_iff_iff]; simp only [Bool.and_eq_true, decide_eq_true_eq]; omega
end Go.Proofs.YtgpcehokdfehjaaDoor
