/- Contract of the reference's l13Less: the less of two conditions' bounds. -/
import Derived.BigQuiet
import Derived.Deep.DrawnRows
import Derived.Deep.DeepMust
import Derived.Test.YtklhaanapembdaaM01
import Derived.Test.YtklhaanapembdaaM02

namespace Go.Proofs.Ytklhaanapembdaa
open Go.RowKit
set_option maxRecDepth 100000 in
set_option maxHeartbeats 4000000 in
theorem l13Less_any (xa xb ya yb : Int) (xo yo : Value) (w : World) (h1 : -1000000 ≤ xa) (h2 : xa ≤ 1000000) (h3 : -1000000000 ≤ xb) (h4 : xb ≤ 1000000000) (h5 : -1000000 ≤ ya) (h6 : ya ≤ 1000000) (h7 : -1000000000 ≤ yb) (h8 : yb ≤ 1000000000) :
    Calls Try.prog 96 #[.agg #[.int .i64 xa, .int .i64 xb, xo], .agg #[.int .i64 ya, .int .i64 yb, yo]] w fun e w' => e = .returned (.bool (lessC xa xb ya yb)) ∧ Below w.heap.size w w' := by
  have HL : Hid (lessC xa xb ya yb = decide ((if xb < 0 then -xa else xa) * (yb.natAbs : Int) < (if yb < 0 then -ya else ya) * (xb.natAbs : Int))) := Lib.hid rfl
  have HX := Lib.hid (fun W => l02Size_any xb W (by omega) (by omega))
  have HY := Lib.hid (fun W => l02Size_any yb W (by omega) (by omega))
  obtain ⟨p, hp⟩ : ∃ p, (yb.natAbs : Int) = p := ⟨_, rfl⟩
  obtain ⟨q, hq⟩ : ∃ q, (xb.natAbs : Int) = q := ⟨_, rfl⟩
  have hp1 : 0 ≤ p ∧ p ≤ 1000000000 := by omega
  have hq1 : 0 ≤ q ∧ q ≤ 1000000000 := by omega
  obtain ⟨m1, m2⟩ := prod_bd (x := xa) (y := p) (A := 1000000) (B := 1000000000) (by omega) (by omega) (by omega) (by omega) (by omega)
  obtain ⟨m3, m4⟩ := prod_bd (x := ya) (y := q) (A := 1000000) (B := 1000000000) (by omega) (by omega) (by omega) (by omega) (by omega)
  rw [hp, hq] at HL
  rw [hp] at HY
  rw [hq] at HX
  have HN1 := Lib.hid (Int.neg_mul xa p)
  have HN2 := Lib.hid (Int.neg_mul ya q)
  clear hp hq hp1 hq1 h1 h2 h3 h4 h5 h6 h7 h8
  go_enter Try.func96, Try.ntmps96
  go_wp2_with fail
  go_quiet ((go_at_call 106; exact Calls.quiet_of_same ((HY.out _).mono fun _ _ h => ⟨h.1, h.2.symm⟩)))
  go_wp2_with fail
  go_quiet ((go_at_call 106; go_must (exact (HX.out _).mono fun _ _ h => ⟨h.1, ⟨_, h.2.symm⟩⟩)))
  obtain ⟨M, hM⟩ : ∃ M, xa * p = M := ⟨_, rfl⟩
  obtain ⟨K, hK⟩ : ∃ K, ya * q = K := ⟨_, rfl⟩
  rw [hM] at m1 m2 HN1
  rw [hK] at m3 m4 HN2
  by_cases hx : xb < 0 <;> by_cases hy : yb < 0
  · rw [if_pos hx, if_pos hy, HN1.out, HN2.out] at HL
    have d1 : decide (xb < 0) = true := decide_eq_true hx
    have d2 : decide (yb < 0) = true := decide_eq_true hy
    simp only [hM, hK]
    go_wp2
    go_ret
    exact ⟨ret_bool (by rw [HL.out]; try exact decide_eq_decide.2 (by omega)), (by repeat (first | exact Below.refl _ _ | assumption | refine Below.drew ?_ | refine below_drewN ?_ _ | refine Below.alloc ?_ (by first | omega | (simp; done) | (simp; omega)) _ | refine Below.setCell ?_ (by first | omega | (simp; done) | (simp; omega)) _))⟩
  · rw [if_pos hx, if_neg hy, HN1.out, hK] at HL
    have d1 : decide (xb < 0) = true := decide_eq_true hx
    have d2 : decide (yb < 0) = false := decide_eq_false hy
    simp only [hM, hK]
    go_wp2
    go_ret
    exact ⟨ret_bool (by rw [HL.out]; try exact decide_eq_decide.2 (by omega)), (by repeat (first | exact Below.refl _ _ | assumption | refine Below.drew ?_ | refine below_drewN ?_ _ | refine Below.alloc ?_ (by first | omega | (simp; done) | (simp; omega)) _ | refine Below.setCell ?_ (by first | omega | (simp; done) | (simp; omega)) _))⟩
  · rw [if_neg hx, if_pos hy, HN2.out, hM] at HL
    have d1 : decide (xb < 0) = false := decide_eq_false hx
    have d2 : decide (yb < 0) = true := decide_eq_true hy
    simp only [hM, hK]
    go_wp2
    go_ret
    exact ⟨ret_bool (by rw [HL.out]; try exact decide_eq_decide.2 (by omega)), (by repeat (first | exact Below.refl _ _ | assumption | refine Below.drew ?_ | refine below_drewN ?_ _ | refine Below.alloc ?_ (by first | omega | (simp; done) | (simp; omega)) _ | refine Below.setCell ?_ (by first | omega | (simp; done) | (simp; omega)) _))⟩
  · rw [if_neg hx, if_neg hy, hM, hK] at HL
    have d1 : decide (xb < 0) = false := decide_eq_false hx
    have d2 : decide (yb < 0) = false := decide_eq_false hy
    simp only [hM, hK]
    go_wp2
    go_ret
    exact ⟨ret_bool (by rw [HL.out]; try exact decide_eq_decide.2 (by omega)), (by repeat (first | exact Below.refl _ _ | assumption | refine Below.drew ?_ | refine below_drewN ?_ _ | refine Below.alloc ?_ (by first | omega | (simp; done) | (simp; omega)) _ | refine Below.setCell ?_ (by first | omega | (simp; done) | (simp; omega)) _))⟩
end Go.Proofs.Ytklhaanapembdaa
