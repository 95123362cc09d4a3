/- Contracts of the small functions on formats, pieces and numbers of bricks, program and reference: what each call returns, as plain functions on integers; no old memory turns. -/
import Derived.Test.YtgnalhnbdpigdaaDoorNum
namespace Go.Proofs.YtgnalhnbdpigdaaDoor
open Go.RowKit

/-- A format's numbers are in their ranges. -/
def fmtB (l d h j : Int) : Bool := inB l 100 500 && inB d 50 250 && inB h 30 150 && inB j 0 20 && decide (d < l)
theorem fmtB_t {l d h j : Int} (h0 : fmtB l d h j = true) : 100 ≤ l ∧ l ≤ 500 ∧ 50 ≤ d ∧ d ≤ 250 ∧ 30 ≤ h ∧ h ≤ 150 ∧ 0 ≤ j ∧ j ≤ 20 ∧ d < l := by
  simp only [fmtB, inB, Bool.and_eq_true, decide_eq_true_eq] at h0; omega
set_option maxHeartbeats 400000 in
theorem validFormat_any (l d h j : Int) (w : World) :
    Calls Tryd.prog 40 #[.agg #[.int .i64 l, .int .i64 d, .int .i64 h, .int .i64 j]] w fun e w' => e = .returned (.bool (fmtB l d h j)) ∧ Below w.heap.size w w' := by
  by_cases hd : d < l
  all_goals
    go_enter Tryd.func40, Tryd.ntmps40
    go_wp2_with (go_at_call 53; refine (within_any _ _ _ _).mono ?_; rintro e w' ⟨rfl, rfl⟩)
    all_goals
      go_ret
      exact ⟨ret_bool (by simp [fmtB, *]), (by repeat (first | exact Below.refl _ _ | assumption | refine Below.drew ?_ | refine below_drewN ?_ _ | refine Below.alloc ?_ (by first | omega | (simp; done) | (simp; omega)) _ | refine Below.setCell ?_ (by first | omega | (simp; done) | (simp; omega)) _))⟩
set_option maxHeartbeats 400000 in
theorem l02Ok_any (l d h j : Int) (w : World) :
    Calls Tryd.prog 42 #[.agg #[.int .i64 l, .int .i64 d, .int .i64 h, .int .i64 j]] w fun e w' => e = .returned (.bool (fmtB l d h j)) ∧ Below w.heap.size w w' := by
  by_cases hd : d < l
  all_goals
    go_enter Tryd.func42, Tryd.ntmps42
    go_wp2_with (go_at_call 55; refine (l00In_any _ _ _ _).mono ?_; rintro e w' ⟨rfl, rfl⟩)
    all_goals
      go_ret
      exact ⟨ret_bool (by simp [fmtB, *]), (by repeat (first | exact Below.refl _ _ | assumption | refine Below.drew ?_ | refine below_drewN ?_ _ | refine Below.alloc ?_ (by first | omega | (simp; done) | (simp; omega)) _ | refine Below.setCell ?_ (by first | omega | (simp; done) | (simp; omega)) _))⟩
set_option maxHeartbeats 400000 in
theorem toPiece_any (x0 x1 x2 : Int) (w : World) :
    Calls Tryd.prog 6 #[.agg #[.int .i64 x0, .int .i64 x1, .int .i64 x2]] w fun e w' => e = .returned (.agg #[.int .i64 x0, .int .i64 x1, .int .i64 x2]) ∧ Below w.heap.size w w' := by
  go_enter Tryd.func6, Tryd.ntmps6
  go_wp2
  refine bodyPost_ret (v := .agg #[.int .i64 x0, .int .i64 x1, .int .i64 x2]) (by simp [results, Tryd.results6, go_sem]) rfl ⟨rfl, ?_⟩
  exact (by repeat (first | exact Below.refl _ _ | assumption | refine Below.drew ?_ | refine below_drewN ?_ _ | refine Below.alloc ?_ (by first | omega | (simp; done) | (simp; omega)) _ | refine Below.setCell ?_ (by first | omega | (simp; done) | (simp; omega)) _))
end Go.Proofs.YtgnalhnbdpigdaaDoor
