/- For all arguments, the program's CheapestPacks returns what the reference's CheapestPacks returns, in new memory (the statement FnExactCheapestPacks); no condition. -/
import Derived.Test.YtgnalhnbdpigdaaPackI
import Derived.Test.YtgnalhnbdpigdaaPackS
namespace Go.Proofs.Ytgnalhnbdpigdaa
open Go.ChangeShapes Go.WideShapes Go.ChangeAt Go.RowKit
set_option maxHeartbeats 8000000 in
set_option linter.unusedVariables false in
theorem exactCheapestPacks_walk (a0 : Option Addr) (len0 cap0 : Nat) (z0 : List Int) (a1 : Option Addr) (len1 cap1 : Nat) (z1 : List Int) (a2 : Int) (l2 : -9223372036854775808 ≤ a2) (u2 : a2 ≤ 9223372036854775807) (w : World) (hz0 : IsRow .i64 w a0 len0 cap0 z0) (hz1 : IsRow .i64 w a1 len1 cap1 z1) :
    Calls Try.prog 11 #[.slice a0 len0 cap0, .slice a1 len1 cap1, .int .i64 a2] w fun e w' => e = .returned (.bool true) ∧ Below w.heap.size w w' := by
  by_cases hbig : 1048576 < len0
  · have hbig' : (1048576 : Int) < (len0 : Int) := by omega
    clear hz0 hz1
    go_enter Try.func11, Try.ntmps11
    go_wp2
    go_ret
    exact ⟨rfl, (by repeat (first | exact Below.refl _ _ | assumption | refine Below.drew ?_ | refine below_drewN ?_ _ | refine Below.alloc ?_ (by first | omega | (simp; done) | (simp; omega)) _ | refine Below.setCell ?_ (by first | omega | (simp; done) | (simp; omega)) _))⟩
  have hlen0 : len0 ≤ 1048576 := by omega
  have hlen0' : ¬ (1048576 : Int) < (len0 : Int) := by omega
  clear hbig
  have HZ0 := Lib.hid hz0
  clear hz0
  by_cases hbig : 1048576 < len1
  · have hbig' : (1048576 : Int) < (len1 : Int) := by omega
    clear HZ0 hz1
    go_enter Try.func11, Try.ntmps11
    go_wp2
    go_ret
    exact ⟨rfl, (by repeat (first | exact Below.refl _ _ | assumption | refine Below.drew ?_ | refine below_drewN ?_ _ | refine Below.alloc ?_ (by first | omega | (simp; done) | (simp; omega)) _ | refine Below.setCell ?_ (by first | omega | (simp; done) | (simp; omega)) _))⟩
  have hlen1 : len1 ≤ 1048576 := by omega
  have hlen1' : ¬ (1048576 : Int) < (len1 : Int) := by omega
  clear hbig
  have HZ1 := Lib.hid hz1
  clear hz1
  have HS := Lib.hid fun p0 q0 p1 q1 W => (specCheapestPacks_any p0 len0 q0 z0 p1 len1 q1 z1 a2 W)
  have HI := Lib.hid fun p0 q0 p1 q1 W => (cheapestPacks_any p0 len0 q0 z0 p1 len1 q1 z1 a2 W)
  have hleN0 : (pkI z0 z1 a2).length ≤ 1000000 := pkI_len z0 z1 a2
  generalize pkI z0 z1 a2 = Z0 at *
  generalize pkC z0 z1 a2 = R1 at *
  obtain ⟨N0, hnN0⟩ : ∃ n, Z0.length = n := ⟨_, rfl⟩
  rw [hnN0] at hleN0
  have HNN0 := Lib.hid hnN0
  clear hnN0
  have hmN0 : ¬ (1 + (N0 : Int) < 0) := by omega
  go_enter Try.func11, Try.ntmps11
  go_wp2_with fail
  refine (toT _ _ _ _ _ (HZ0.out.below (by repeat (first | exact Below.refl _ _ | assumption | refine Below.drew ?_ | refine below_drewN ?_ _ | refine Below.alloc ?_ (by first | omega | (simp; done) | (simp; omega)) _ | refine Below.setCell ?_ (by first | omega | (simp; done) | (simp; omega)) _))) hlen0).mono ?_
  rintro e1 w1 ⟨xA0, cA0, rfl, hO1, hb1⟩
  have A0 := Lib.hid (hO1.base (b' := w.heap.size) (by first | exact Nat.le_refl _ | (simp; done) | (simp; omega)))
  clear hO1
  have hz1 := hb1.size
  try simp at hz1
  have ha1 : Below w.heap.size w w1 := below_call (by repeat (first | exact Below.refl _ _ | assumption | refine Below.drew ?_ | refine below_drewN ?_ _ | refine Below.alloc ?_ (by first | omega | (simp; done) | (simp; omega)) _ | refine Below.setCell ?_ (by first | omega | (simp; done) | (simp; omega)) _)) hb1
  go_wp2_with fail
  refine (toT _ _ _ _ _ (HZ1.out.below (by repeat (first | exact Below.refl _ _ | assumption | refine Below.drew ?_ | refine below_drewN ?_ _ | refine Below.alloc ?_ (by first | omega | (simp; done) | (simp; omega)) _ | refine Below.setCell ?_ (by first | omega | (simp; done) | (simp; omega)) _))) hlen1).mono ?_
  rintro e2 w2 ⟨xA1, cA1, rfl, hO2, hb2⟩
  have A1 := Lib.hid (hO2.base (b' := w1.heap.size) (by first | exact Nat.le_refl _ | (simp; done) | (simp; omega)))
  clear hO2
  have hz2 := hb2.size
  try simp at hz2
  have ha2 : Below w.heap.size w w2 := below_call (by repeat (first | exact Below.refl _ _ | assumption | refine Below.drew ?_ | refine below_drewN ?_ _ | refine Below.alloc ?_ (by first | omega | (simp; done) | (simp; omega)) _ | refine Below.setCell ?_ (by first | omega | (simp; done) | (simp; omega)) _)) hb2
  replace A0 := Lib.hid (OwnT.below (by first | exact A0.out | exact A0.out.alloc _ | exact (A0.out.alloc _).alloc _ | exact ((A0.out.alloc _).alloc _).alloc _) hb2)
  go_wp2_with fail
  refine (HS.out _ _ _ _ _ (by first | exact A0.out.row | exact (A0.out.alloc _).row | exact ((A0.out.alloc _).alloc _).row | exact (((A0.out.alloc _).alloc _).alloc _).row) (by first | exact A1.out.row | exact (A1.out.alloc _).row | exact ((A1.out.alloc _).alloc _).row | exact (((A1.out.alloc _).alloc _).alloc _).row)).mono ?_
  rintro e3 w3 hN3
  obtain ⟨xW0, cW0, rfl, hOW0, hb3⟩ := hN3.toldT HNN0.out
  clear hN3
  have W0 := Lib.hid (hOW0.base (b' := w2.heap.size) (by first | exact Nat.le_refl _ | (simp; done) | (simp; omega)))
  clear hOW0
  have hz3 := hb3.size
  try simp at hz3
  have ha3 : Below w.heap.size w w3 := below_call (by repeat (first | exact Below.refl _ _ | assumption | refine Below.drew ?_ | refine below_drewN ?_ _ | refine Below.alloc ?_ (by first | omega | (simp; done) | (simp; omega)) _ | refine Below.setCell ?_ (by first | omega | (simp; done) | (simp; omega)) _)) hb3
  replace A0 := Lib.hid (OwnT.below (by first | exact A0.out | exact A0.out.alloc _ | exact (A0.out.alloc _).alloc _ | exact ((A0.out.alloc _).alloc _).alloc _) hb3)
  replace A1 := Lib.hid (OwnT.below (by first | exact A1.out | exact A1.out.alloc _ | exact (A1.out.alloc _).alloc _ | exact ((A1.out.alloc _).alloc _).alloc _) hb3)
  clear A0
  clear A1
  go_wp2_with fail
  refine (toT _ _ _ _ _ (HZ0.out.below (by repeat (first | exact Below.refl _ _ | assumption | refine Below.drew ?_ | refine below_drewN ?_ _ | refine Below.alloc ?_ (by first | omega | (simp; done) | (simp; omega)) _ | refine Below.setCell ?_ (by first | omega | (simp; done) | (simp; omega)) _))) hlen0).mono ?_
  rintro e4 w4 ⟨xX0, cX0, rfl, hO4, hb4⟩
  have X0 := Lib.hid (hO4.base (b' := w3.heap.size) (by first | exact Nat.le_refl _ | (simp; done) | (simp; omega)))
  clear hO4
  have hz4 := hb4.size
  try simp at hz4
  have ha4 : Below w.heap.size w w4 := below_call (by repeat (first | exact Below.refl _ _ | assumption | refine Below.drew ?_ | refine below_drewN ?_ _ | refine Below.alloc ?_ (by first | omega | (simp; done) | (simp; omega)) _ | refine Below.setCell ?_ (by first | omega | (simp; done) | (simp; omega)) _)) hb4
  replace W0 := Lib.hid (OwnT.below (by first | exact W0.out | exact W0.out.alloc _ | exact (W0.out.alloc _).alloc _ | exact ((W0.out.alloc _).alloc _).alloc _) hb4)
  go_wp2_with fail
  refine (toT _ _ _ _ _ (HZ1.out.below (by repeat (first | exact Below.refl _ _ | assumption | refine Below.drew ?_ | refine below_drewN ?_ _ | refine Below.alloc ?_ (by first | omega | (simp; done) | (simp; omega)) _ | refine Below.setCell ?_ (by first | omega | (simp; done) | (simp; omega)) _))) hlen1).mono ?_
  rintro e5 w5 ⟨xX1, cX1, rfl, hO5, hb5⟩
  have X1 := Lib.hid (hO5.base (b' := w4.heap.size) (by first | exact Nat.le_refl _ | (simp; done) | (simp; omega)))
  clear hO5
  have hz5 := hb5.size
  try simp at hz5
  have ha5 : Below w.heap.size w w5 := below_call (by repeat (first | exact Below.refl _ _ | assumption | refine Below.drew ?_ | refine below_drewN ?_ _ | refine Below.alloc ?_ (by first | omega | (simp; done) | (simp; omega)) _ | refine Below.setCell ?_ (by first | omega | (simp; done) | (simp; omega)) _)) hb5
  replace W0 := Lib.hid (OwnT.below (by first | exact W0.out | exact W0.out.alloc _ | exact (W0.out.alloc _).alloc _ | exact ((W0.out.alloc _).alloc _).alloc _) hb5)
  replace X0 := Lib.hid (OwnT.below (by first | exact X0.out | exact X0.out.alloc _ | exact (X0.out.alloc _).alloc _ | exact ((X0.out.alloc _).alloc _).alloc _) hb5)
  go_wp2_with fail
  refine (HI.out _ _ _ _ _ (by first | exact X0.out.row | exact (X0.out.alloc _).row | exact ((X0.out.alloc _).alloc _).row | exact (((X0.out.alloc _).alloc _).alloc _).row) (by first | exact X1.out.row | exact (X1.out.alloc _).row | exact ((X1.out.alloc _).alloc _).row | exact (((X1.out.alloc _).alloc _).alloc _).row)).mono ?_
  rintro e6 w6 hN6
  obtain ⟨xG0, cG0, rfl, hOG0, hb6⟩ := hN6.toldT HNN0.out
  clear hN6
  have G0 := Lib.hid (hOG0.base (b' := w5.heap.size) (by first | exact Nat.le_refl _ | (simp; done) | (simp; omega)))
  clear hOG0
  have hz6 := hb6.size
  try simp at hz6
  have ha6 : Below w.heap.size w w6 := below_call (by repeat (first | exact Below.refl _ _ | assumption | refine Below.drew ?_ | refine below_drewN ?_ _ | refine Below.alloc ?_ (by first | omega | (simp; done) | (simp; omega)) _ | refine Below.setCell ?_ (by first | omega | (simp; done) | (simp; omega)) _)) hb6
  replace W0 := Lib.hid (OwnT.below (by first | exact W0.out | exact W0.out.alloc _ | exact (W0.out.alloc _).alloc _ | exact ((W0.out.alloc _).alloc _).alloc _) hb6)
  replace X0 := Lib.hid (OwnT.below (by first | exact X0.out | exact X0.out.alloc _ | exact (X0.out.alloc _).alloc _ | exact ((X0.out.alloc _).alloc _).alloc _) hb6)
  replace X1 := Lib.hid (OwnT.below (by first | exact X1.out | exact X1.out.alloc _ | exact (X1.out.alloc _).alloc _ | exact ((X1.out.alloc _).alloc _).alloc _) hb6)
  go_wp2_with fail
  refine (eqInt64S_same _ _ _ _ _ _ _ (by first | exact G0.out.row | exact (G0.out.alloc _).row | exact ((G0.out.alloc _).alloc _).row | exact (((G0.out.alloc _).alloc _).alloc _).row) (by first | exact W0.out.row | exact (W0.out.alloc _).row | exact ((W0.out.alloc _).alloc _).row | exact (((W0.out.alloc _).alloc _).alloc _).row)).mono ?_
  rintro e7 w7 ⟨rfl, hb7⟩
  have hz7 := hb7.size
  try simp at hz7
  have ha7 : Below w.heap.size w w7 := below_call (by repeat (first | exact Below.refl _ _ | assumption | refine Below.drew ?_ | refine below_drewN ?_ _ | refine Below.alloc ?_ (by first | omega | (simp; done) | (simp; omega)) _ | refine Below.setCell ?_ (by first | omega | (simp; done) | (simp; omega)) _)) hb7
  replace W0 := Lib.hid (OwnT.below (by first | exact W0.out | exact W0.out.alloc _ | exact (W0.out.alloc _).alloc _ | exact ((W0.out.alloc _).alloc _).alloc _) hb7)
  replace X0 := Lib.hid (OwnT.below (by first | exact X0.out | exact X0.out.alloc _ | exact (X0.out.alloc _).alloc _ | exact ((X0.out.alloc _).alloc _).alloc _) hb7)
  replace X1 := Lib.hid (OwnT.below (by first | exact X1.out | exact X1.out.alloc _ | exact (X1.out.alloc _).alloc _ | exact ((X1.out.alloc _).alloc _).alloc _) hb7)
  replace G0 := Lib.hid (OwnT.below (by first | exact G0.out | exact G0.out.alloc _ | exact (G0.out.alloc _).alloc _ | exact ((G0.out.alloc _).alloc _).alloc _) hb7)
  go_wp2_with fail
  refine (toT _ _ _ _ _ (HZ0.out.below (by repeat (first | exact Below.refl _ _ | assumption | refine Below.drew ?_ | refine below_drewN ?_ _ | refine Below.alloc ?_ (by first | omega | (simp; done) | (simp; omega)) _ | refine Below.setCell ?_ (by first | omega | (simp; done) | (simp; omega)) _))) hlen0).mono ?_
  rintro e8 w8 ⟨xY0, cY0, rfl, hO8, hb8⟩
  have Y0 := Lib.hid (hO8.base (b' := w7.heap.size) (by first | exact Nat.le_refl _ | (simp; done) | (simp; omega)))
  clear hO8
  have hz8 := hb8.size
  try simp at hz8
  have ha8 : Below w.heap.size w w8 := below_call (by repeat (first | exact Below.refl _ _ | assumption | refine Below.drew ?_ | refine below_drewN ?_ _ | refine Below.alloc ?_ (by first | omega | (simp; done) | (simp; omega)) _ | refine Below.setCell ?_ (by first | omega | (simp; done) | (simp; omega)) _)) hb8
  replace W0 := Lib.hid (OwnT.below (by first | exact W0.out | exact W0.out.alloc _ | exact (W0.out.alloc _).alloc _ | exact ((W0.out.alloc _).alloc _).alloc _) hb8)
  replace X0 := Lib.hid (OwnT.below (by first | exact X0.out | exact X0.out.alloc _ | exact (X0.out.alloc _).alloc _ | exact ((X0.out.alloc _).alloc _).alloc _) hb8)
  replace X1 := Lib.hid (OwnT.below (by first | exact X1.out | exact X1.out.alloc _ | exact (X1.out.alloc _).alloc _ | exact ((X1.out.alloc _).alloc _).alloc _) hb8)
  replace G0 := Lib.hid (OwnT.below (by first | exact G0.out | exact G0.out.alloc _ | exact (G0.out.alloc _).alloc _ | exact ((G0.out.alloc _).alloc _).alloc _) hb8)
  go_wp2_with fail
  refine (eqInt64S_same _ _ _ _ _ _ _ X0.out.row Y0.out.row).mono ?_
  rintro e9 w9 ⟨rfl, hb9⟩
  have hz9 := hb9.size
  try simp at hz9
  have ha9 : Below w.heap.size w w9 := below_call (by repeat (first | exact Below.refl _ _ | assumption | refine Below.drew ?_ | refine below_drewN ?_ _ | refine Below.alloc ?_ (by first | omega | (simp; done) | (simp; omega)) _ | refine Below.setCell ?_ (by first | omega | (simp; done) | (simp; omega)) _)) hb9
  replace W0 := Lib.hid (OwnT.below (by first | exact W0.out | exact W0.out.alloc _ | exact (W0.out.alloc _).alloc _ | exact ((W0.out.alloc _).alloc _).alloc _) hb9)
  replace X0 := Lib.hid (OwnT.below (by first | exact X0.out | exact X0.out.alloc _ | exact (X0.out.alloc _).alloc _ | exact ((X0.out.alloc _).alloc _).alloc _) hb9)
  replace X1 := Lib.hid (OwnT.below (by first | exact X1.out | exact X1.out.alloc _ | exact (X1.out.alloc _).alloc _ | exact ((X1.out.alloc _).alloc _).alloc _) hb9)
  replace G0 := Lib.hid (OwnT.below (by first | exact G0.out | exact G0.out.alloc _ | exact (G0.out.alloc _).alloc _ | exact ((G0.out.alloc _).alloc _).alloc _) hb9)
  replace Y0 := Lib.hid (OwnT.below (by first | exact Y0.out | exact Y0.out.alloc _ | exact (Y0.out.alloc _).alloc _ | exact ((Y0.out.alloc _).alloc _).alloc _) hb9)
  clear Y0
  go_wp2_with fail
  refine (toT _ _ _ _ _ (HZ1.out.below (by repeat (first | exact Below.refl _ _ | assumption | refine Below.drew ?_ | refine below_drewN ?_ _ | refine Below.alloc ?_ (by first | omega | (simp; done) | (simp; omega)) _ | refine Below.setCell ?_ (by first | omega | (simp; done) | (simp; omega)) _))) hlen1).mono ?_
  rintro e10 w10 ⟨xY1, cY1, rfl, hO10, hb10⟩
  have Y1 := Lib.hid (hO10.base (b' := w9.heap.size) (by first | exact Nat.le_refl _ | (simp; done) | (simp; omega)))
  clear hO10
  have hz10 := hb10.size
  try simp at hz10
  have ha10 : Below w.heap.size w w10 := below_call (by repeat (first | exact Below.refl _ _ | assumption | refine Below.drew ?_ | refine below_drewN ?_ _ | refine Below.alloc ?_ (by first | omega | (simp; done) | (simp; omega)) _ | refine Below.setCell ?_ (by first | omega | (simp; done) | (simp; omega)) _)) hb10
  replace W0 := Lib.hid (OwnT.below (by first | exact W0.out | exact W0.out.alloc _ | exact (W0.out.alloc _).alloc _ | exact ((W0.out.alloc _).alloc _).alloc _) hb10)
  replace X0 := Lib.hid (OwnT.below (by first | exact X0.out | exact X0.out.alloc _ | exact (X0.out.alloc _).alloc _ | exact ((X0.out.alloc _).alloc _).alloc _) hb10)
  replace X1 := Lib.hid (OwnT.below (by first | exact X1.out | exact X1.out.alloc _ | exact (X1.out.alloc _).alloc _ | exact ((X1.out.alloc _).alloc _).alloc _) hb10)
  replace G0 := Lib.hid (OwnT.below (by first | exact G0.out | exact G0.out.alloc _ | exact (G0.out.alloc _).alloc _ | exact ((G0.out.alloc _).alloc _).alloc _) hb10)
  go_wp2_with fail
  refine (eqInt64S_same _ _ _ _ _ _ _ X1.out.row Y1.out.row).mono ?_
  rintro e11 w11 ⟨rfl, hb11⟩
  have hz11 := hb11.size
  try simp at hz11
  have ha11 : Below w.heap.size w w11 := below_call (by repeat (first | exact Below.refl _ _ | assumption | refine Below.drew ?_ | refine below_drewN ?_ _ | refine Below.alloc ?_ (by first | omega | (simp; done) | (simp; omega)) _ | refine Below.setCell ?_ (by first | omega | (simp; done) | (simp; omega)) _)) hb11
  replace W0 := Lib.hid (OwnT.below (by first | exact W0.out | exact W0.out.alloc _ | exact (W0.out.alloc _).alloc _ | exact ((W0.out.alloc _).alloc _).alloc _) hb11)
  replace X0 := Lib.hid (OwnT.below (by first | exact X0.out | exact X0.out.alloc _ | exact (X0.out.alloc _).alloc _ | exact ((X0.out.alloc _).alloc _).alloc _) hb11)
  replace X1 := Lib.hid (OwnT.below (by first | exact X1.out | exact X1.out.alloc _ | exact (X1.out.alloc _).alloc _ | exact ((X1.out.alloc _).alloc _).alloc _) hb11)
  replace G0 := Lib.hid (OwnT.below (by first | exact G0.out | exact G0.out.alloc _ | exact (G0.out.alloc _).alloc _ | exact ((G0.out.alloc _).alloc _).alloc _) hb11)
  replace Y1 := Lib.hid (OwnT.below (by first | exact Y1.out | exact Y1.out.alloc _ | exact (Y1.out.alloc _).alloc _ | exact ((Y1.out.alloc _).alloc _).alloc _) hb11)
  clear Y1
  go_wp2_with fail
  refine (markT _ _ _ _ _ _ _ _ X0.out (by omega) (by omega) (by omega)).mono ?_
  rintro e12 w12 ⟨rfl, hO12, hU12⟩
  have ha12 : Below w.heap.size w w12 := below_outs (by repeat (first | exact Below.refl _ _ | assumption | refine Below.drew ?_ | refine below_drewN ?_ _ | refine Below.alloc ?_ (by first | omega | (simp; done) | (simp; omega)) _ | refine Below.setCell ?_ (by first | omega | (simp; done) | (simp; omega)) _)) (by omega) hU12
  have hz12 := hU12.size
  replace W0 := Lib.hid (OwnT.outs W0.out hU12 (by omega))
  replace X1 := Lib.hid (OwnT.outs X1.out hU12 (by omega))
  replace G0 := Lib.hid (OwnT.outs G0.out hU12 (by omega))
  replace X0 := Lib.hid hO12
  clear hO12 hU12
  go_wp2_with fail
  refine (markT _ _ _ _ _ _ _ _ X1.out (by omega) (by omega) (by omega)).mono ?_
  rintro e13 w13 ⟨rfl, hO13, hU13⟩
  have ha13 : Below w.heap.size w w13 := below_outs (by repeat (first | exact Below.refl _ _ | assumption | refine Below.drew ?_ | refine below_drewN ?_ _ | refine Below.alloc ?_ (by first | omega | (simp; done) | (simp; omega)) _ | refine Below.setCell ?_ (by first | omega | (simp; done) | (simp; omega)) _)) (by omega) hU13
  have hz13 := hU13.size
  replace W0 := Lib.hid (OwnT.outs W0.out hU13 (by omega))
  replace X0 := Lib.hid (OwnT.outs X0.out hU13 (by omega))
  replace G0 := Lib.hid (OwnT.outs G0.out hU13 (by omega))
  replace X1 := Lib.hid hO13
  clear hO13 hU13
  clear X0
  clear X1
  go_wp2_with fail
  refine (eqInt64S_same _ _ _ _ _ _ _ (by first | exact G0.out.row | exact (G0.out.alloc _).row | exact ((G0.out.alloc _).alloc _).row | exact (((G0.out.alloc _).alloc _).alloc _).row) (by first | exact W0.out.row | exact (W0.out.alloc _).row | exact ((W0.out.alloc _).alloc _).row | exact (((W0.out.alloc _).alloc _).alloc _).row)).mono ?_
  rintro e14 w14 ⟨rfl, hb14⟩
  have hz14 := hb14.size
  try simp at hz14
  have ha14 : Below w.heap.size w w14 := below_call (by repeat (first | exact Below.refl _ _ | assumption | refine Below.drew ?_ | refine below_drewN ?_ _ | refine Below.alloc ?_ (by first | omega | (simp; done) | (simp; omega)) _ | refine Below.setCell ?_ (by first | omega | (simp; done) | (simp; omega)) _)) hb14
  replace W0 := Lib.hid (OwnT.below (by first | exact W0.out | exact W0.out.alloc _ | exact (W0.out.alloc _).alloc _ | exact ((W0.out.alloc _).alloc _).alloc _) hb14)
  replace G0 := Lib.hid (OwnT.below (by first | exact G0.out | exact G0.out.alloc _ | exact (G0.out.alloc _).alloc _ | exact ((G0.out.alloc _).alloc _).alloc _) hb14)
  go_wp2_with fail
  refine (markT _ _ _ _ _ _ _ _ G0.out (by omega) (by omega) (by omega)).mono ?_
  rintro e15 w15 ⟨rfl, hO15, hU15⟩
  have ha15 : Below w.heap.size w w15 := below_outs (by repeat (first | exact Below.refl _ _ | assumption | refine Below.drew ?_ | refine below_drewN ?_ _ | refine Below.alloc ?_ (by first | omega | (simp; done) | (simp; omega)) _ | refine Below.setCell ?_ (by first | omega | (simp; done) | (simp; omega)) _)) (by omega) hU15
  have hz15 := hU15.size
  replace W0 := Lib.hid (OwnT.outs W0.out hU15 (by omega))
  replace G0 := Lib.hid hO15
  clear hO15 hU15
  go_wp2_with fail
  refine (heldInt64S_any _ _ _ _ _ (by first | exact G0.out.row | exact (G0.out.alloc _).row) (by omega) (by omega) (by omega)).mono ?_
  rintro e16 v16 ⟨rfl, rfl⟩
  go_wp2_with fail
  refine (toT _ _ _ _ _ (HZ0.out.below (by repeat (first | exact Below.refl _ _ | assumption | refine Below.drew ?_ | refine below_drewN ?_ _ | refine Below.alloc ?_ (by first | omega | (simp; done) | (simp; omega)) _ | refine Below.setCell ?_ (by first | omega | (simp; done) | (simp; omega)) _))) hlen0).mono ?_
  rintro e17 w17 ⟨xB0, cB0, rfl, hO17, hb17⟩
  have B0 := Lib.hid (hO17.base (b' := w15.heap.size) (by first | exact Nat.le_refl _ | (simp; done) | (simp; omega)))
  clear hO17
  have hz17 := hb17.size
  try simp at hz17
  have ha17 : Below w.heap.size w w17 := below_call (by repeat (first | exact Below.refl _ _ | assumption | refine Below.drew ?_ | refine below_drewN ?_ _ | refine Below.alloc ?_ (by first | omega | (simp; done) | (simp; omega)) _ | refine Below.setCell ?_ (by first | omega | (simp; done) | (simp; omega)) _)) hb17
  replace W0 := Lib.hid (OwnT.below (by first | exact W0.out | exact W0.out.alloc _ | exact (W0.out.alloc _).alloc _ | exact ((W0.out.alloc _).alloc _).alloc _) hb17)
  replace G0 := Lib.hid (OwnT.below (by first | exact G0.out | exact G0.out.alloc _ | exact (G0.out.alloc _).alloc _ | exact ((G0.out.alloc _).alloc _).alloc _) hb17)
  go_wp2_with fail
  refine (toT _ _ _ _ _ (HZ1.out.below (by repeat (first | exact Below.refl _ _ | assumption | refine Below.drew ?_ | refine below_drewN ?_ _ | refine Below.alloc ?_ (by first | omega | (simp; done) | (simp; omega)) _ | refine Below.setCell ?_ (by first | omega | (simp; done) | (simp; omega)) _))) hlen1).mono ?_
  rintro e18 w18 ⟨xB1, cB1, rfl, hO18, hb18⟩
  have B1 := Lib.hid (hO18.base (b' := w17.heap.size) (by first | exact Nat.le_refl _ | (simp; done) | (simp; omega)))
  clear hO18
  have hz18 := hb18.size
  try simp at hz18
  have ha18 : Below w.heap.size w w18 := below_call (by repeat (first | exact Below.refl _ _ | assumption | refine Below.drew ?_ | refine below_drewN ?_ _ | refine Below.alloc ?_ (by first | omega | (simp; done) | (simp; omega)) _ | refine Below.setCell ?_ (by first | omega | (simp; done) | (simp; omega)) _)) hb18
  replace W0 := Lib.hid (OwnT.below (by first | exact W0.out | exact W0.out.alloc _ | exact (W0.out.alloc _).alloc _ | exact ((W0.out.alloc _).alloc _).alloc _) hb18)
  replace G0 := Lib.hid (OwnT.below (by first | exact G0.out | exact G0.out.alloc _ | exact (G0.out.alloc _).alloc _ | exact ((G0.out.alloc _).alloc _).alloc _) hb18)
  replace B0 := Lib.hid (OwnT.below (by first | exact B0.out | exact B0.out.alloc _ | exact (B0.out.alloc _).alloc _ | exact ((B0.out.alloc _).alloc _).alloc _) hb18)
  go_wp2_with fail
  refine (HI.out _ _ _ _ _ (by first | exact B0.out.row | exact (B0.out.alloc _).row | exact ((B0.out.alloc _).alloc _).row | exact (((B0.out.alloc _).alloc _).alloc _).row) (by first | exact B1.out.row | exact (B1.out.alloc _).row | exact ((B1.out.alloc _).alloc _).row | exact (((B1.out.alloc _).alloc _).alloc _).row)).mono ?_
  rintro e19 w19 hN19
  obtain ⟨xH0, cH0, rfl, hOH0, hb19⟩ := hN19.toldT HNN0.out
  clear hN19
  have H0 := Lib.hid (hOH0.base (b' := w18.heap.size) (by first | exact Nat.le_refl _ | (simp; done) | (simp; omega)))
  clear hOH0
  have hz19 := hb19.size
  try simp at hz19
  have ha19 : Below w.heap.size w w19 := below_call (by repeat (first | exact Below.refl _ _ | assumption | refine Below.drew ?_ | refine below_drewN ?_ _ | refine Below.alloc ?_ (by first | omega | (simp; done) | (simp; omega)) _ | refine Below.setCell ?_ (by first | omega | (simp; done) | (simp; omega)) _)) hb19
  replace W0 := Lib.hid (OwnT.below (by first | exact W0.out | exact W0.out.alloc _ | exact (W0.out.alloc _).alloc _ | exact ((W0.out.alloc _).alloc _).alloc _) hb19)
  replace G0 := Lib.hid (OwnT.below (by first | exact G0.out | exact G0.out.alloc _ | exact (G0.out.alloc _).alloc _ | exact ((G0.out.alloc _).alloc _).alloc _) hb19)
  replace B0 := Lib.hid (OwnT.below (by first | exact B0.out | exact B0.out.alloc _ | exact (B0.out.alloc _).alloc _ | exact ((B0.out.alloc _).alloc _).alloc _) hb19)
  replace B1 := Lib.hid (OwnT.below (by first | exact B1.out | exact B1.out.alloc _ | exact (B1.out.alloc _).alloc _ | exact ((B1.out.alloc _).alloc _).alloc _) hb19)
  clear B0
  clear B1
  go_wp2_with fail
  refine (eqInt64S_same _ _ _ _ _ _ _ (by first | exact H0.out.row | exact (H0.out.alloc _).row | exact ((H0.out.alloc _).alloc _).row | exact (((H0.out.alloc _).alloc _).alloc _).row) (by first | exact W0.out.row | exact (W0.out.alloc _).row | exact ((W0.out.alloc _).alloc _).row | exact (((W0.out.alloc _).alloc _).alloc _).row)).mono ?_
  rintro e20 w20 ⟨rfl, hb20⟩
  have hz20 := hb20.size
  try simp at hz20
  have ha20 : Below w.heap.size w w20 := below_call (by repeat (first | exact Below.refl _ _ | assumption | refine Below.drew ?_ | refine below_drewN ?_ _ | refine Below.alloc ?_ (by first | omega | (simp; done) | (simp; omega)) _ | refine Below.setCell ?_ (by first | omega | (simp; done) | (simp; omega)) _)) hb20
  replace W0 := Lib.hid (OwnT.below (by first | exact W0.out | exact W0.out.alloc _ | exact (W0.out.alloc _).alloc _ | exact ((W0.out.alloc _).alloc _).alloc _) hb20)
  replace G0 := Lib.hid (OwnT.below (by first | exact G0.out | exact G0.out.alloc _ | exact (G0.out.alloc _).alloc _ | exact ((G0.out.alloc _).alloc _).alloc _) hb20)
  replace H0 := Lib.hid (OwnT.below (by first | exact H0.out | exact H0.out.alloc _ | exact (H0.out.alloc _).alloc _ | exact ((H0.out.alloc _).alloc _).alloc _) hb20)
  go_wp2_with fail
  refine (heldInt64S_any _ _ _ _ _ (by first | exact G0.out.row | exact (G0.out.alloc _).row) (by omega) (by omega) (by omega)).mono ?_
  rintro e21 v21 ⟨rfl, rfl⟩
  go_wp2
  go_ret
  exact ⟨rfl, (by repeat (first | exact Below.refl _ _ | assumption | refine Below.drew ?_ | refine below_drewN ?_ _ | refine Below.alloc ?_ (by first | omega | (simp; done) | (simp; omega)) _ | refine Below.setCell ?_ (by first | omega | (simp; done) | (simp; omega)) _))⟩
/-! ### The row's step: the arguments are opened, the walk is called, the arguments read as before. -/
set_option maxRecDepth 100000 in
set_option maxHeartbeats 1000000 in
set_option linter.unusedVariables false in
theorem lifted_FnExactCheapestPacks (os : Os) (started : os.Started) (H : Type) (enc : TypeId × Value → H) :
    ReturnsInHanded {} Try.checked os 11 .any (Rows.fnExactCheapestPacksSpec.pre6 enc Try.prog Try.f11 Rows.fnExactCheapestPacksRow.domain false) (Rows.fnExactCheapestPacksSpec.post enc Try.prog Try.f11 false true false false) := by
  refine returnsInHanded_of_change (C := Try.checked) ownNone started (by kernel_rfl) Try.func11
    (ChangeSpec.witness6 (enc := enc) (C := Try.checked) false ⟨#[], #[.slice none 0 0, .slice none 0 0, .int .i64 0], []⟩ 8 (by kernel_rfl) (by kernel_rfl) (by kernel_rfl) (by kernel_rfl)) ?_
  intro W base args ds gs before hval0 hW hcnd _
  have hval : ∀ (j : Nat) t v, Try.f11.params[j]? = some t → args[j]? = some v → Value.okWide Try.prog W .any base t v := hval0
  have hW' := hW
  obtain ⟨p, q, hA0, hV, rfl, hfz, hnd⟩ := hW
  have hA : DataW.TrodAll enc Try.prog W 0 (fun _ => true) true Try.f11.params.toList args.toList ds p := hA0
  rw [Try.params11] at hA hval
  obtain ⟨v0, vs0, d0, ds0, p0, q0, hargs, rfl, rfl, h0, r0⟩ := trodAll_cons hA
  obtain ⟨v1, vs1, d1, ds1, p1, q1, rfl, rfl, rfl, h1, r1⟩ := trodAll_cons r0
  obtain ⟨v2, vs2, d2, ds2, p2, q2, rfl, rfl, rfl, h2, r2⟩ := trodAll_cons r1
  obtain ⟨rfl, rfl, rfl⟩ := trodAll_nil r2
  obtain rfl : args = #[v0, v1, v2] := by cases args; simp_all
  obtain ⟨rfl, rfl⟩ := trodVars_none hV
  have k0 := h0
  have lt0 : ∀ x ∈ p0, x.block < W.heap.size := by obtain ⟨m, hm⟩ := k0; exact DataW.trod_lt m _ _ _ hm
  obtain ⟨a0, len0, cap0, rfl⟩ := okWide_slice Try.underlying58 (hval 0 58 v0 rfl rfl)
  obtain ⟨z0, w0⟩ : ∃ zs, IsRow .i64 W a0 len0 cap0 zs := by
    obtain ⟨fuel, hf⟩ := h0
    rcases open_ints Try.underlying58 Try.underlying2 (by kernel_rfl) hf with ⟨hcs, _⟩ | ⟨x, l, c, zs, hcs, _, hl, hm, hz, _, hcell, hwz⟩
    · simp [Value.cells] at hcs
      obtain ⟨rfl, rfl, rfl⟩ := hcs
      exact ⟨[], isRow_nil⟩
    · simp [Value.cells] at hcs
      obtain ⟨rfl, rfl, rfl⟩ := hcs
      exact ⟨zs.take len0, isRow_mk hl hm (by simpa using hz) hcell hwz⟩
  have k1 := h1
  have lt1 : ∀ x ∈ p1, x.block < W.heap.size := by obtain ⟨m, hm⟩ := k1; exact DataW.trod_lt m _ _ _ hm
  obtain ⟨a1, len1, cap1, rfl⟩ := okWide_slice Try.underlying58 (hval 1 58 v1 rfl rfl)
  obtain ⟨z1, w1⟩ : ∃ zs, IsRow .i64 W a1 len1 cap1 zs := by
    obtain ⟨fuel, hf⟩ := h1
    rcases open_ints Try.underlying58 Try.underlying2 (by kernel_rfl) hf with ⟨hcs, _⟩ | ⟨x, l, c, zs, hcs, _, hl, hm, hz, _, hcell, hwz⟩
    · simp [Value.cells] at hcs
      obtain ⟨rfl, rfl, rfl⟩ := hcs
      exact ⟨[], isRow_nil⟩
    · simp [Value.cells] at hcs
      obtain ⟨rfl, rfl, rfl⟩ := hcs
      exact ⟨zs.take len1, isRow_mk hl hm (by simpa using hz) hcell hwz⟩
  obtain ⟨a2, rfl, rfl, rfl, w2⟩ := open_int Try.underlying2 (hval 2 2 v2 rfl rfl) h2
  clear hA0 hval0
  refine (exactCheapestPacks_walk a0 len0 cap0 z0 a1 len1 cap1 z1 a2 (bounds_i64 w2).1 (bounds_i64 w2).2 W w0 w1).mono fun e W' ⟨he, bel⟩ => ?_
  subst he
  exact ⟨_, rfl, _, _, _, [], _, [], hW', trodAll_mk1 (shut_bool Try.underlying4 _), (trodAll_cons_mk (Below.trod laidOut (by kernel_rfl) (of_decide_eq_true (by kernel_rfl)) k0 bel lt0) (trodAll_cons_mk (Below.trod laidOut (by kernel_rfl) (of_decide_eq_true (by kernel_rfl)) k1 bel lt1) (trodAll_cons_mk (shut_int Try.underlying2 w2) trodAll_mk0))), rfl, bel.frame _, fun h => by cases h⟩

/-- The statement, proved. -/
theorem fnExactCheapestPacks_holds : Rows.FnExactCheapestPacksSaid :=
  OpenClaim.holds_of_wide 11 Try.f11 rfl rfl rfl rfl rfl rfl rfl ⟨rfl, rfl, rfl, rfl, rfl⟩ rfl rfl rfl rfl rfl (by kernel_rfl) Try.func11 (by kernel_rfl)
    (of_decide_eq_true (by kernel_rfl)) (by unfold Func.isWrapper; first | (rw [if_pos (by decide +kernel)]; kernel_rfl) | (rw [if_neg (by decide +kernel)]; exact ⟨rfl, rfl⟩))
    (fun os started H enc _ => lifted_FnExactCheapestPacks os started H enc)
end Go.Proofs.Ytgnalhnbdpigdaa
