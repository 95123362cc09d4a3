/- For all arguments, the program's ProvesFall returns what the reference's ProvesFall returns (the statement FnExactProvesFall); no condition. -/
import Derived.Test.YtklhaanapembdaaBlocksL
import Derived.Test.YtklhaanapembdaaFallI
import Derived.Test.YtklhaanapembdaaFallS
namespace Go.Proofs.Ytklhaanapembdaa
open Go.ChangeShapes Go.WideShapes Go.ChangeAt Go.RowKit Go.Deep
set_option maxHeartbeats 8000000 in
set_option linter.unusedVariables false in
theorem exactProvesFall_walk (a0_0 : Option Addr) (len0_0 cap0_0 : Nat) (z0_0 : List Int) (a0_1 : Option Addr) (len0_1 cap0_1 : Nat) (z0_1 : List Int) (a0_2 : Option Addr) (len0_2 cap0_2 : Nat) (z0_2 : List Int) (a1 : Option Addr) (len1 cap1 : Nat) (z1 : List Int) (a2 : Option Addr) (len2 cap2 : Nat) (z2 : List Int) (w : World) (hz0_0 : IsRow .i64 w a0_0 len0_0 cap0_0 z0_0) (hz0_1 : IsRow .i64 w a0_1 len0_1 cap0_1 z0_1) (hz0_2 : IsRow .i64 w a0_2 len0_2 cap0_2 z0_2) (hz1 : IsRow .i64 w a1 len1 cap1 z1) (hz2 : IsRow .i64 w a2 len2 cap2 z2) :
    Calls Try.prog 11 #[.agg #[.slice a0_0 len0_0 cap0_0, .slice a0_1 len0_1 cap0_1, .slice a0_2 len0_2 cap0_2], .slice a1 len1 cap1, .slice a2 len2 cap2] w fun e w' => e = .returned (.bool true) ∧ Below w.heap.size w w' := by
  by_cases hbig : 1048576 < len1
  · have hbig' : (1048576 : Int) < (len1 : Int) := by omega
    clear hz0_0 hz0_1 hz0_2 hz1 hz2
    go_enter Try.func11, Try.ntmps11
    go_wp2
    go_ret
    exact ⟨rfl, (by repeat (first | exact Below.refl _ _ | assumption | refine Below.drew ?_ | refine below_drewN ?_ _ | refine Below.alloc ?_ (by first | omega | (simp; done) | (simp; omega)) _ | refine Below.setCell ?_ (by first | omega | (simp; done) | (simp; omega)) _))⟩
  have hlen1 : len1 ≤ 1048576 := by omega
  have hlen1' : ¬ (1048576 : Int) < (len1 : Int) := by omega
  clear hbig
  have HZ1 := Lib.hid hz1
  clear hz1
  by_cases hbig : 1048576 < len2
  · have hbig' : (1048576 : Int) < (len2 : Int) := by omega
    clear hz0_0 hz0_1 hz0_2 HZ1 hz2
    go_enter Try.func11, Try.ntmps11
    go_wp2
    go_ret
    exact ⟨rfl, (by repeat (first | exact Below.refl _ _ | assumption | refine Below.drew ?_ | refine below_drewN ?_ _ | refine Below.alloc ?_ (by first | omega | (simp; done) | (simp; omega)) _ | refine Below.setCell ?_ (by first | omega | (simp; done) | (simp; omega)) _))⟩
  have hlen2 : len2 ≤ 1048576 := by omega
  have hlen2' : ¬ (1048576 : Int) < (len2 : Int) := by omega
  clear hbig
  have HZ2 := Lib.hid hz2
  clear hz2
  have HZ0 : Hid (IsB a0_0 a0_1 a0_2 len0_0 cap0_0 len0_1 cap0_1 len0_2 cap0_2 z0_0 z0_1 z0_2 w) := Lib.hid ⟨hz0_0, hz0_1, hz0_2⟩
  clear hz0_0 hz0_1 hz0_2
  by_cases hbig : 1048576 < len0_0 + len0_1 + len0_2
  · go_enter Try.func11, Try.ntmps11
    go_wp2_with fail
    refine (szBlocks_big _ _ _ _ _ _ _ _ _ _ _ _ _ (HZ0.out.below (by repeat (first | exact Below.refl _ _ | assumption | refine Below.drew ?_ | refine below_drewN ?_ _ | refine Below.alloc ?_ (by first | omega | (simp; done) | (simp; omega)) _ | refine Below.setCell ?_ (by first | omega | (simp; done) | (simp; omega)) _))) hbig).mono ?_
    rintro e1 w1 ⟨rfl, hb1⟩
    obtain ⟨hc1, hf1⟩ := bcell hb1
    have hz1 := hb1.size
    try simp at hz1
    have ha1 : Below w.heap.size w w1 := below_call (by repeat (first | exact Below.refl _ _ | assumption | refine Below.drew ?_ | refine below_drewN ?_ _ | refine Below.alloc ?_ (by first | omega | (simp; done) | (simp; omega)) _ | refine Below.setCell ?_ (by first | omega | (simp; done) | (simp; omega)) _)) hb1
    go_wp2
    go_ret
    exact ⟨rfl, (by repeat (first | exact Below.refl _ _ | assumption | refine Below.drew ?_ | refine below_drewN ?_ _ | refine Below.alloc ?_ (by first | omega | (simp; done) | (simp; omega)) _ | refine Below.setCell ?_ (by first | omega | (simp; done) | (simp; omega)) _))⟩
  have hs0 : len0_0 + len0_1 + len0_2 ≤ 1048576 := by omega
  have hs0' : ¬ (1048576 - (len0_0 : Int) - (len0_1 : Int) - (len0_2 : Int) < 0) := by omega
  have hk0 : ¬ (1 + (len0_0 : Int) + (len0_1 : Int) + (len0_2 : Int) < 0) := by omega
  clear hbig
  have hs0_0 : len0_0 ≤ 1048576 := by omega
  have hs0_1 : len0_1 ≤ 1048576 := by omega
  have hs0_2 : len0_2 ≤ 1048576 := by omega
  have HS := Lib.hid fun p0_0 p0_1 p0_2 q0_0 q0_1 q0_2 p1 q1 p2 q2 W => (specProvesFall_any p0_0 p0_1 p0_2 len0_0 q0_0 len0_1 q0_1 len0_2 q0_2 z0_0 z0_1 z0_2 p1 len1 q1 z1 p2 len2 q2 z2 W)
  have HI := Lib.hid fun p0_0 p0_1 p0_2 q0_0 q0_1 q0_2 p1 q1 p2 q2 W => (provesFall_any p0_0 p0_1 p0_2 len0_0 q0_0 len0_1 q0_1 len0_2 q0_2 z0_0 z0_1 z0_2 p1 len1 q1 z1 p2 len2 q2 z2 W)
  generalize pfV z0_0 z0_1 z0_2 z1 z2 = R0 at *
  generalize pfC z0_0 z0_1 z0_2 z1 z2 = R1 at *
  go_enter Try.func11, Try.ntmps11
  go_wp2_with fail
  refine (szBlocks_fits _ _ _ _ _ _ _ _ _ _ _ _ _ (HZ0.out.below (by repeat (first | exact Below.refl _ _ | assumption | refine Below.drew ?_ | refine below_drewN ?_ _ | refine Below.alloc ?_ (by first | omega | (simp; done) | (simp; omega)) _ | refine Below.setCell ?_ (by first | omega | (simp; done) | (simp; omega)) _))) hs0).mono ?_
  rintro e1 w1 ⟨rfl, hb1⟩
  have hz1 := hb1.size
  try simp at hz1
  have ha1 : Below w.heap.size w w1 := below_call (by repeat (first | exact Below.refl _ _ | assumption | refine Below.drew ?_ | refine below_drewN ?_ _ | refine Below.alloc ?_ (by first | omega | (simp; done) | (simp; omega)) _ | refine Below.setCell ?_ (by first | omega | (simp; done) | (simp; omega)) _)) hb1
  have F0 : Hid (w1.heap[w.heap.size]? = some _) := Lib.hid (blk_call (by refine blk_new' _ _ ?_; first | rfl | (simp; done) | (simp; omega)) hb1)
  try clear F0_0 F0_1 F0_2
  have F0_0 := cellOf F0.out 0
  simp at F0_0
  have F0_1 := cellOf F0.out 1
  simp at F0_1
  have F0_2 := cellOf F0.out 2
  simp at F0_2
  go_wp2_with fail
  refine (toBlocks_any _ _ _ _ _ _ _ _ _ _ _ _ _ (HZ0.out.below (by repeat (first | exact Below.refl _ _ | assumption | refine Below.drew ?_ | refine below_drewN ?_ _ | refine Below.alloc ?_ (by first | omega | (simp; done) | (simp; omega)) _ | refine Below.setCell ?_ (by first | omega | (simp; done) | (simp; omega)) _))) hs0_0 hs0_1 hs0_2).mono ?_
  rintro e2 w2 ⟨xA0, yA0, zA0, cA0, dA0, fA0, rfl, hO2, hb2⟩
  have A0 := Lib.hid (hO2.base (b' := w1.heap.size) (by first | exact Nat.le_refl _ | (simp; done) | (simp; omega)))
  clear hO2
  have hz2 := hb2.size
  try simp at hz2
  have ha2 : Below w.heap.size w w2 := below_call (by repeat (first | exact Below.refl _ _ | assumption | refine Below.drew ?_ | refine below_drewN ?_ _ | refine Below.alloc ?_ (by first | omega | (simp; done) | (simp; omega)) _ | refine Below.setCell ?_ (by first | omega | (simp; done) | (simp; omega)) _)) hb2
  replace F0 := Lib.hid (blk_call (by first | exact F0.out | exact blk_alloc F0.out | exact blk_alloc (blk_alloc F0.out) | exact blk_alloc (blk_alloc (blk_alloc F0.out))) hb2)
  try clear F0_0 F0_1 F0_2
  have F0_0 := cellOf F0.out 0
  simp at F0_0
  have F0_1 := cellOf F0.out 1
  simp at F0_1
  have F0_2 := cellOf F0.out 2
  simp at F0_2
  go_wp2_with fail
  refine (toT _ _ _ _ _ (HZ1.out.below (by repeat (first | exact Below.refl _ _ | assumption | refine Below.drew ?_ | refine below_drewN ?_ _ | refine Below.alloc ?_ (by first | omega | (simp; done) | (simp; omega)) _ | refine Below.setCell ?_ (by first | omega | (simp; done) | (simp; omega)) _))) hlen1).mono ?_
  rintro e3 w3 ⟨xA1, cA1, rfl, hO3, hb3⟩
  have A1 := Lib.hid (hO3.base (b' := w2.heap.size) (by first | exact Nat.le_refl _ | (simp; done) | (simp; omega)))
  clear hO3
  have hz3 := hb3.size
  try simp at hz3
  have ha3 : Below w.heap.size w w3 := below_call (by repeat (first | exact Below.refl _ _ | assumption | refine Below.drew ?_ | refine below_drewN ?_ _ | refine Below.alloc ?_ (by first | omega | (simp; done) | (simp; omega)) _ | refine Below.setCell ?_ (by first | omega | (simp; done) | (simp; omega)) _)) hb3
  replace F0 := Lib.hid (blk_call (by first | exact F0.out | exact blk_alloc F0.out | exact blk_alloc (blk_alloc F0.out) | exact blk_alloc (blk_alloc (blk_alloc F0.out))) hb3)
  replace A0 := Lib.hid (OwnB.below (by first | exact A0.out | exact A0.out.alloc _ | exact (A0.out.alloc _).alloc _ | exact ((A0.out.alloc _).alloc _).alloc _) hb3)
  try clear F0_0 F0_1 F0_2
  have F0_0 := cellOf F0.out 0
  simp at F0_0
  have F0_1 := cellOf F0.out 1
  simp at F0_1
  have F0_2 := cellOf F0.out 2
  simp at F0_2
  go_wp2_with fail
  refine (toT _ _ _ _ _ (HZ2.out.below (by repeat (first | exact Below.refl _ _ | assumption | refine Below.drew ?_ | refine below_drewN ?_ _ | refine Below.alloc ?_ (by first | omega | (simp; done) | (simp; omega)) _ | refine Below.setCell ?_ (by first | omega | (simp; done) | (simp; omega)) _))) hlen2).mono ?_
  rintro e4 w4 ⟨xA2, cA2, rfl, hO4, hb4⟩
  have A2 := Lib.hid (hO4.base (b' := w3.heap.size) (by first | exact Nat.le_refl _ | (simp; done) | (simp; omega)))
  clear hO4
  have hz4 := hb4.size
  try simp at hz4
  have ha4 : Below w.heap.size w w4 := below_call (by repeat (first | exact Below.refl _ _ | assumption | refine Below.drew ?_ | refine below_drewN ?_ _ | refine Below.alloc ?_ (by first | omega | (simp; done) | (simp; omega)) _ | refine Below.setCell ?_ (by first | omega | (simp; done) | (simp; omega)) _)) hb4
  replace F0 := Lib.hid (blk_call (by first | exact F0.out | exact blk_alloc F0.out | exact blk_alloc (blk_alloc F0.out) | exact blk_alloc (blk_alloc (blk_alloc F0.out))) hb4)
  replace A0 := Lib.hid (OwnB.below (by first | exact A0.out | exact A0.out.alloc _ | exact (A0.out.alloc _).alloc _ | exact ((A0.out.alloc _).alloc _).alloc _) hb4)
  replace A1 := Lib.hid (OwnT.below (by first | exact A1.out | exact A1.out.alloc _ | exact (A1.out.alloc _).alloc _ | exact ((A1.out.alloc _).alloc _).alloc _) hb4)
  try clear F0_0 F0_1 F0_2
  have F0_0 := cellOf F0.out 0
  simp at F0_0
  have F0_1 := cellOf F0.out 1
  simp at F0_1
  have F0_2 := cellOf F0.out 2
  simp at F0_2
  go_wp2_with fail
  refine (HS.out _ _ _ _ _ _ _ _ _ _ _ (by first | exact A0.out.isB | exact (A0.out.alloc _).isB | exact ((A0.out.alloc _).alloc _).isB | exact (((A0.out.alloc _).alloc _).alloc _).isB) (by first | exact A1.out.row | exact (A1.out.alloc _).row | exact ((A1.out.alloc _).alloc _).row | exact (((A1.out.alloc _).alloc _).alloc _).row) (by first | exact A2.out.row | exact (A2.out.alloc _).row | exact ((A2.out.alloc _).alloc _).row | exact (((A2.out.alloc _).alloc _).alloc _).row)).mono ?_
  rintro e5 w5 ⟨rfl, hb5⟩
  have hz5 := hb5.size
  try simp at hz5
  have ha5 : Below w.heap.size w w5 := below_call (by repeat (first | exact Below.refl _ _ | assumption | refine Below.drew ?_ | refine below_drewN ?_ _ | refine Below.alloc ?_ (by first | omega | (simp; done) | (simp; omega)) _ | refine Below.setCell ?_ (by first | omega | (simp; done) | (simp; omega)) _)) hb5
  replace F0 := Lib.hid (blk_call (by first | exact F0.out | exact blk_alloc F0.out | exact blk_alloc (blk_alloc F0.out) | exact blk_alloc (blk_alloc (blk_alloc F0.out))) hb5)
  replace A0 := Lib.hid (OwnB.below (by first | exact A0.out | exact A0.out.alloc _ | exact (A0.out.alloc _).alloc _ | exact ((A0.out.alloc _).alloc _).alloc _) hb5)
  replace A1 := Lib.hid (OwnT.below (by first | exact A1.out | exact A1.out.alloc _ | exact (A1.out.alloc _).alloc _ | exact ((A1.out.alloc _).alloc _).alloc _) hb5)
  replace A2 := Lib.hid (OwnT.below (by first | exact A2.out | exact A2.out.alloc _ | exact (A2.out.alloc _).alloc _ | exact ((A2.out.alloc _).alloc _).alloc _) hb5)
  try clear F0_0 F0_1 F0_2
  have F0_0 := cellOf F0.out 0
  simp at F0_0
  have F0_1 := cellOf F0.out 1
  simp at F0_1
  have F0_2 := cellOf F0.out 2
  simp at F0_2
  clear A0
  clear A1
  clear A2
  go_wp2_with fail
  refine (toBlocks_any _ _ _ _ _ _ _ _ _ _ _ _ _ (HZ0.out.below (by repeat (first | exact Below.refl _ _ | assumption | refine Below.drew ?_ | refine below_drewN ?_ _ | refine Below.alloc ?_ (by first | omega | (simp; done) | (simp; omega)) _ | refine Below.setCell ?_ (by first | omega | (simp; done) | (simp; omega)) _))) hs0_0 hs0_1 hs0_2).mono ?_
  rintro e6 w6 ⟨xX0, yX0, zX0, cX0, dX0, fX0, rfl, hO6, hb6⟩
  have X0 := Lib.hid (hO6.base (b' := w5.heap.size) (by first | exact Nat.le_refl _ | (simp; done) | (simp; omega)))
  clear hO6
  have hz6 := hb6.size
  try simp at hz6
  have ha6 : Below w.heap.size w w6 := below_call (by repeat (first | exact Below.refl _ _ | assumption | refine Below.drew ?_ | refine below_drewN ?_ _ | refine Below.alloc ?_ (by first | omega | (simp; done) | (simp; omega)) _ | refine Below.setCell ?_ (by first | omega | (simp; done) | (simp; omega)) _)) hb6
  replace F0 := Lib.hid (blk_call (by first | exact F0.out | exact blk_alloc F0.out | exact blk_alloc (blk_alloc F0.out) | exact blk_alloc (blk_alloc (blk_alloc F0.out))) hb6)
  try clear F0_0 F0_1 F0_2
  have F0_0 := cellOf F0.out 0
  simp at F0_0
  have F0_1 := cellOf F0.out 1
  simp at F0_1
  have F0_2 := cellOf F0.out 2
  simp at F0_2
  go_wp2_with fail
  refine (toT _ _ _ _ _ (HZ1.out.below (by repeat (first | exact Below.refl _ _ | assumption | refine Below.drew ?_ | refine below_drewN ?_ _ | refine Below.alloc ?_ (by first | omega | (simp; done) | (simp; omega)) _ | refine Below.setCell ?_ (by first | omega | (simp; done) | (simp; omega)) _))) hlen1).mono ?_
  rintro e7 w7 ⟨xX1, cX1, rfl, hO7, hb7⟩
  have X1 := Lib.hid (hO7.base (b' := w6.heap.size + 1) (by first | exact Nat.le_refl _ | (simp; done) | (simp; omega)))
  clear hO7
  have hz7 := hb7.size
  try simp at hz7
  have ha7 : Below w.heap.size w w7 := below_call (by repeat (first | exact Below.refl _ _ | assumption | refine Below.drew ?_ | refine below_drewN ?_ _ | refine Below.alloc ?_ (by first | omega | (simp; done) | (simp; omega)) _ | refine Below.setCell ?_ (by first | omega | (simp; done) | (simp; omega)) _)) hb7
  replace F0 := Lib.hid (blk_call (by first | exact F0.out | exact blk_alloc F0.out | exact blk_alloc (blk_alloc F0.out) | exact blk_alloc (blk_alloc (blk_alloc F0.out))) hb7)
  have E0 : Hid (w7.heap[w6.heap.size]? = some _) := Lib.hid (blk_call (by refine blk_new' _ _ ?_; first | rfl | (simp; done) | (simp; omega)) hb7)
  replace X0 := Lib.hid (OwnB.below (by first | exact X0.out | exact X0.out.alloc _ | exact (X0.out.alloc _).alloc _ | exact ((X0.out.alloc _).alloc _).alloc _) hb7)
  try clear F0_0 F0_1 F0_2
  have F0_0 := cellOf F0.out 0
  simp at F0_0
  have F0_1 := cellOf F0.out 1
  simp at F0_1
  have F0_2 := cellOf F0.out 2
  simp at F0_2
  try clear E0_0 E0_1 E0_2
  have E0_0 := cellOf E0.out 0
  simp at E0_0
  have E0_1 := cellOf E0.out 1
  simp at E0_1
  have E0_2 := cellOf E0.out 2
  simp at E0_2
  go_wp2_with fail
  refine (toT _ _ _ _ _ (HZ2.out.below (by repeat (first | exact Below.refl _ _ | assumption | refine Below.drew ?_ | refine below_drewN ?_ _ | refine Below.alloc ?_ (by first | omega | (simp; done) | (simp; omega)) _ | refine Below.setCell ?_ (by first | omega | (simp; done) | (simp; omega)) _))) hlen2).mono ?_
  rintro e8 w8 ⟨xX2, cX2, rfl, hO8, hb8⟩
  have X2 := Lib.hid (hO8.base (b' := w7.heap.size) (by first | exact Nat.le_refl _ | (simp; done) | (simp; omega)))
  clear hO8
  have hz8 := hb8.size
  try simp at hz8
  have ha8 : Below w.heap.size w w8 := below_call (by repeat (first | exact Below.refl _ _ | assumption | refine Below.drew ?_ | refine below_drewN ?_ _ | refine Below.alloc ?_ (by first | omega | (simp; done) | (simp; omega)) _ | refine Below.setCell ?_ (by first | omega | (simp; done) | (simp; omega)) _)) hb8
  replace F0 := Lib.hid (blk_call (by first | exact F0.out | exact blk_alloc F0.out | exact blk_alloc (blk_alloc F0.out) | exact blk_alloc (blk_alloc (blk_alloc F0.out))) hb8)
  replace E0 := Lib.hid (blk_call (by first | exact E0.out | exact blk_alloc E0.out | exact blk_alloc (blk_alloc E0.out) | exact blk_alloc (blk_alloc (blk_alloc E0.out))) hb8)
  replace X0 := Lib.hid (OwnB.below (by first | exact X0.out | exact X0.out.alloc _ | exact (X0.out.alloc _).alloc _ | exact ((X0.out.alloc _).alloc _).alloc _) hb8)
  replace X1 := Lib.hid (OwnT.below (by first | exact X1.out | exact X1.out.alloc _ | exact (X1.out.alloc _).alloc _ | exact ((X1.out.alloc _).alloc _).alloc _) hb8)
  try clear F0_0 F0_1 F0_2
  have F0_0 := cellOf F0.out 0
  simp at F0_0
  have F0_1 := cellOf F0.out 1
  simp at F0_1
  have F0_2 := cellOf F0.out 2
  simp at F0_2
  try clear E0_0 E0_1 E0_2
  have E0_0 := cellOf E0.out 0
  simp at E0_0
  have E0_1 := cellOf E0.out 1
  simp at E0_1
  have E0_2 := cellOf E0.out 2
  simp at E0_2
  go_wp2_with fail
  refine (HI.out _ _ _ _ _ _ _ _ _ _ _ (by first | exact X0.out.isB | exact (X0.out.alloc _).isB | exact ((X0.out.alloc _).alloc _).isB | exact (((X0.out.alloc _).alloc _).alloc _).isB) (by first | exact X1.out.row | exact (X1.out.alloc _).row | exact ((X1.out.alloc _).alloc _).row | exact (((X1.out.alloc _).alloc _).alloc _).row) (by first | exact X2.out.row | exact (X2.out.alloc _).row | exact ((X2.out.alloc _).alloc _).row | exact (((X2.out.alloc _).alloc _).alloc _).row)).mono ?_
  rintro e9 w9 ⟨rfl, hb9⟩
  have hz9 := hb9.size
  try simp at hz9
  have ha9 : Below w.heap.size w w9 := below_call (by repeat (first | exact Below.refl _ _ | assumption | refine Below.drew ?_ | refine below_drewN ?_ _ | refine Below.alloc ?_ (by first | omega | (simp; done) | (simp; omega)) _ | refine Below.setCell ?_ (by first | omega | (simp; done) | (simp; omega)) _)) hb9
  replace F0 := Lib.hid (blk_call (by first | exact F0.out | exact blk_alloc F0.out | exact blk_alloc (blk_alloc F0.out) | exact blk_alloc (blk_alloc (blk_alloc F0.out))) hb9)
  replace E0 := Lib.hid (blk_call (by first | exact E0.out | exact blk_alloc E0.out | exact blk_alloc (blk_alloc E0.out) | exact blk_alloc (blk_alloc (blk_alloc E0.out))) hb9)
  replace X0 := Lib.hid (OwnB.below (by first | exact X0.out | exact X0.out.alloc _ | exact (X0.out.alloc _).alloc _ | exact ((X0.out.alloc _).alloc _).alloc _) hb9)
  replace X1 := Lib.hid (OwnT.below (by first | exact X1.out | exact X1.out.alloc _ | exact (X1.out.alloc _).alloc _ | exact ((X1.out.alloc _).alloc _).alloc _) hb9)
  replace X2 := Lib.hid (OwnT.below (by first | exact X2.out | exact X2.out.alloc _ | exact (X2.out.alloc _).alloc _ | exact ((X2.out.alloc _).alloc _).alloc _) hb9)
  try clear F0_0 F0_1 F0_2
  have F0_0 := cellOf F0.out 0
  simp at F0_0
  have F0_1 := cellOf F0.out 1
  simp at F0_1
  have F0_2 := cellOf F0.out 2
  simp at F0_2
  try clear E0_0 E0_1 E0_2
  have E0_0 := cellOf E0.out 0
  simp at E0_0
  have E0_1 := cellOf E0.out 1
  simp at E0_1
  have E0_2 := cellOf E0.out 2
  simp at E0_2
  go_wp2
  go_region_held3 (fun w' => w'.cell? ⟨w6.heap.size, 0, none⟩ = some (Value.slice xX0 len0_0 cX0) ∧ w'.cell? ⟨w6.heap.size, 1, none⟩ = some (Value.slice yX0 len0_1 dX0) ∧ w'.cell? ⟨w6.heap.size, 2, none⟩ = some (Value.slice zX0 len0_2 fX0) ∧ w'.cell? ⟨w.heap.size, 0, none⟩ = some (Value.slice a0_0 len0_0 cap0_0) ∧ w'.cell? ⟨w.heap.size, 1, none⟩ = some (Value.slice a0_1 len0_1 cap0_1) ∧ w'.cell? ⟨w.heap.size, 2, none⟩ = some (Value.slice a0_2 len0_2 cap0_2)) (first | exact ⟨E0_0, E0_1, E0_2, F0_0, F0_1, F0_2⟩ | exact keep6 hbx (by assumption) | assumption)
    (first | (go_at_call 42; refine (toBlocks_any _ _ _ _ _ _ _ _ _ _ _ _ _ (HZ0.out.below (by repeat (first | exact Below.refl _ _ | assumption | refine Below.drew ?_ | refine below_drewN ?_ _ | refine Below.alloc ?_ (by first | omega | (simp; done) | (simp; omega)) _ | refine Below.setCell ?_ (by first | omega | (simp; done) | (simp; omega)) _))) hs0_0 hs0_1 hs0_2).mono ?_; rintro e10 wx ⟨xY, yY, zY, cY, dY, fY, rfl, hOY, hbx⟩; have hzx := hbx.size; (try simp at hzx); have hax : Below w.heap.size w wx := below_call (by repeat (first | exact Below.refl _ _ | assumption | refine Below.drew ?_ | refine below_drewN ?_ _ | refine Below.alloc ?_ (by first | omega | (simp; done) | (simp; omega)) _ | refine Below.setCell ?_ (by first | omega | (simp; done) | (simp; omega)) _)) hbx; have YY := Lib.hid hOY; clear hOY; have X0_n := Lib.hid (OwnB.below (by exact X0.out) hbx); have X1_n := Lib.hid (OwnT.below (by exact X1.out) hbx); have X2_n := Lib.hid (OwnT.below (by exact X2.out) hbx); have F0_n := Lib.hid (blk_call (by exact F0.out) hbx); have E0_n := Lib.hid (blk_call (by exact E0.out) hbx)) | (go_at_call 44; refine (eqBlocks_same _ _ _ _ _ _ _ _ _ _ _ _ _ _ _ _ _ _ _ X0_n.out.isB YY.out.isB).mono ?_; rintro e11 wy ⟨rfl, hby⟩; have hay : Below w.heap.size w wy := below_call (by repeat (first | exact Below.refl _ _ | assumption | refine Below.drew ?_ | refine below_drewN ?_ _ | refine Below.alloc ?_ (by first | omega | (simp; done) | (simp; omega)) _ | refine Below.setCell ?_ (by first | omega | (simp; done) | (simp; omega)) _)) hby; have hzy := hby.size; have hbx := hby))
  all_goals
    replace X0 := Lib.hid (OwnB.below X0_n.out hby)
    clear X0_n
    replace X1 := Lib.hid (OwnT.below X1_n.out hby)
    clear X1_n
    replace X2 := Lib.hid (OwnT.below X2_n.out hby)
    clear X2_n
    replace F0 := Lib.hid (blk_call F0_n.out hby)
    clear F0_n
    replace E0 := Lib.hid (blk_call E0_n.out hby)
    clear E0_n
    try clear YY
    try clear F0_0 F0_1 F0_2
    have F0_0 := cellOf F0.out 0
    simp at F0_0
    have F0_1 := cellOf F0.out 1
    simp at F0_1
    have F0_2 := cellOf F0.out 2
    simp at F0_2
    try clear E0_0 E0_1 E0_2
    have E0_0 := cellOf E0.out 0
    simp at E0_0
    have E0_1 := cellOf E0.out 1
    simp at E0_1
    have E0_2 := cellOf E0.out 2
    simp at E0_2
    go_wp2_with fail
    refine (toT _ _ _ _ _ (HZ1.out.below (by repeat (first | exact Below.refl _ _ | assumption | refine Below.drew ?_ | refine below_drewN ?_ _ | refine Below.alloc ?_ (by first | omega | (simp; done) | (simp; omega)) _ | refine Below.setCell ?_ (by first | omega | (simp; done) | (simp; omega)) _))) hlen1).mono ?_
    rintro e12 w12 ⟨xY1, cY1, rfl, hO12, hb12⟩
    have Y1 := Lib.hid (hO12.base (b' := wy.heap.size) (by first | exact Nat.le_refl _ | (simp; done) | (simp; omega)))
    clear hO12
    have hz12 := hb12.size
    try simp at hz12
    have ha12 : Below w.heap.size w w12 := below_call (by repeat (first | exact Below.refl _ _ | assumption | refine Below.drew ?_ | refine below_drewN ?_ _ | refine Below.alloc ?_ (by first | omega | (simp; done) | (simp; omega)) _ | refine Below.setCell ?_ (by first | omega | (simp; done) | (simp; omega)) _)) hb12
    replace F0 := Lib.hid (blk_call (by first | exact F0.out | exact blk_alloc F0.out | exact blk_alloc (blk_alloc F0.out) | exact blk_alloc (blk_alloc (blk_alloc F0.out))) hb12)
    replace E0 := Lib.hid (blk_call (by first | exact E0.out | exact blk_alloc E0.out | exact blk_alloc (blk_alloc E0.out) | exact blk_alloc (blk_alloc (blk_alloc E0.out))) hb12)
    replace X0 := Lib.hid (OwnB.below (by first | exact X0.out | exact X0.out.alloc _ | exact (X0.out.alloc _).alloc _ | exact ((X0.out.alloc _).alloc _).alloc _) hb12)
    replace X1 := Lib.hid (OwnT.below (by first | exact X1.out | exact X1.out.alloc _ | exact (X1.out.alloc _).alloc _ | exact ((X1.out.alloc _).alloc _).alloc _) hb12)
    replace X2 := Lib.hid (OwnT.below (by first | exact X2.out | exact X2.out.alloc _ | exact (X2.out.alloc _).alloc _ | exact ((X2.out.alloc _).alloc _).alloc _) hb12)
    try clear F0_0 F0_1 F0_2
    have F0_0 := cellOf F0.out 0
    simp at F0_0
    have F0_1 := cellOf F0.out 1
    simp at F0_1
    have F0_2 := cellOf F0.out 2
    simp at F0_2
    try clear E0_0 E0_1 E0_2
    have E0_0 := cellOf E0.out 0
    simp at E0_0
    have E0_1 := cellOf E0.out 1
    simp at E0_1
    have E0_2 := cellOf E0.out 2
    simp at E0_2
    go_wp2_with fail
    refine (eqInt64S_same _ _ _ _ _ _ _ X1.out.row Y1.out.row).mono ?_
    rintro e13 w13 ⟨rfl, hb13⟩
    have hz13 := hb13.size
    try simp at hz13
    have ha13 : Below w.heap.size w w13 := below_call (by repeat (first | exact Below.refl _ _ | assumption | refine Below.drew ?_ | refine below_drewN ?_ _ | refine Below.alloc ?_ (by first | omega | (simp; done) | (simp; omega)) _ | refine Below.setCell ?_ (by first | omega | (simp; done) | (simp; omega)) _)) hb13
    replace F0 := Lib.hid (blk_call (by first | exact F0.out | exact blk_alloc F0.out | exact blk_alloc (blk_alloc F0.out) | exact blk_alloc (blk_alloc (blk_alloc F0.out))) hb13)
    replace E0 := Lib.hid (blk_call (by first | exact E0.out | exact blk_alloc E0.out | exact blk_alloc (blk_alloc E0.out) | exact blk_alloc (blk_alloc (blk_alloc E0.out))) hb13)
    replace X0 := Lib.hid (OwnB.below (by first | exact X0.out | exact X0.out.alloc _ | exact (X0.out.alloc _).alloc _ | exact ((X0.out.alloc _).alloc _).alloc _) hb13)
    replace X1 := Lib.hid (OwnT.below (by first | exact X1.out | exact X1.out.alloc _ | exact (X1.out.alloc _).alloc _ | exact ((X1.out.alloc _).alloc _).alloc _) hb13)
    replace X2 := Lib.hid (OwnT.below (by first | exact X2.out | exact X2.out.alloc _ | exact (X2.out.alloc _).alloc _ | exact ((X2.out.alloc _).alloc _).alloc _) hb13)
    replace Y1 := Lib.hid (OwnT.below (by first | exact Y1.out | exact Y1.out.alloc _ | exact (Y1.out.alloc _).alloc _ | exact ((Y1.out.alloc _).alloc _).alloc _) hb13)
    try clear F0_0 F0_1 F0_2
    have F0_0 := cellOf F0.out 0
    simp at F0_0
    have F0_1 := cellOf F0.out 1
    simp at F0_1
    have F0_2 := cellOf F0.out 2
    simp at F0_2
    try clear E0_0 E0_1 E0_2
    have E0_0 := cellOf E0.out 0
    simp at E0_0
    have E0_1 := cellOf E0.out 1
    simp at E0_1
    have E0_2 := cellOf E0.out 2
    simp at E0_2
    clear Y1
    go_wp2_with fail
    refine (toT _ _ _ _ _ (HZ2.out.below (by repeat (first | exact Below.refl _ _ | assumption | refine Below.drew ?_ | refine below_drewN ?_ _ | refine Below.alloc ?_ (by first | omega | (simp; done) | (simp; omega)) _ | refine Below.setCell ?_ (by first | omega | (simp; done) | (simp; omega)) _))) hlen2).mono ?_
    rintro e14 w14 ⟨xY2, cY2, rfl, hO14, hb14⟩
    have Y2 := Lib.hid (hO14.base (b' := w13.heap.size) (by first | exact Nat.le_refl _ | (simp; done) | (simp; omega)))
    clear hO14
    have hz14 := hb14.size
    try simp at hz14
    have ha14 : Below w.heap.size w w14 := below_call (by repeat (first | exact Below.refl _ _ | assumption | refine Below.drew ?_ | refine below_drewN ?_ _ | refine Below.alloc ?_ (by first | omega | (simp; done) | (simp; omega)) _ | refine Below.setCell ?_ (by first | omega | (simp; done) | (simp; omega)) _)) hb14
    replace F0 := Lib.hid (blk_call (by first | exact F0.out | exact blk_alloc F0.out | exact blk_alloc (blk_alloc F0.out) | exact blk_alloc (blk_alloc (blk_alloc F0.out))) hb14)
    replace E0 := Lib.hid (blk_call (by first | exact E0.out | exact blk_alloc E0.out | exact blk_alloc (blk_alloc E0.out) | exact blk_alloc (blk_alloc (blk_alloc E0.out))) hb14)
    replace X0 := Lib.hid (OwnB.below (by first | exact X0.out | exact X0.out.alloc _ | exact (X0.out.alloc _).alloc _ | exact ((X0.out.alloc _).alloc _).alloc _) hb14)
    replace X1 := Lib.hid (OwnT.below (by first | exact X1.out | exact X1.out.alloc _ | exact (X1.out.alloc _).alloc _ | exact ((X1.out.alloc _).alloc _).alloc _) hb14)
    replace X2 := Lib.hid (OwnT.below (by first | exact X2.out | exact X2.out.alloc _ | exact (X2.out.alloc _).alloc _ | exact ((X2.out.alloc _).alloc _).alloc _) hb14)
    try clear F0_0 F0_1 F0_2
    have F0_0 := cellOf F0.out 0
    simp at F0_0
    have F0_1 := cellOf F0.out 1
    simp at F0_1
    have F0_2 := cellOf F0.out 2
    simp at F0_2
    try clear E0_0 E0_1 E0_2
    have E0_0 := cellOf E0.out 0
    simp at E0_0
    have E0_1 := cellOf E0.out 1
    simp at E0_1
    have E0_2 := cellOf E0.out 2
    simp at E0_2
    go_wp2_with fail
    refine (eqInt64S_same _ _ _ _ _ _ _ X2.out.row Y2.out.row).mono ?_
    rintro e15 w15 ⟨rfl, hb15⟩
    have hz15 := hb15.size
    try simp at hz15
    have ha15 : Below w.heap.size w w15 := below_call (by repeat (first | exact Below.refl _ _ | assumption | refine Below.drew ?_ | refine below_drewN ?_ _ | refine Below.alloc ?_ (by first | omega | (simp; done) | (simp; omega)) _ | refine Below.setCell ?_ (by first | omega | (simp; done) | (simp; omega)) _)) hb15
    replace F0 := Lib.hid (blk_call (by first | exact F0.out | exact blk_alloc F0.out | exact blk_alloc (blk_alloc F0.out) | exact blk_alloc (blk_alloc (blk_alloc F0.out))) hb15)
    replace E0 := Lib.hid (blk_call (by first | exact E0.out | exact blk_alloc E0.out | exact blk_alloc (blk_alloc E0.out) | exact blk_alloc (blk_alloc (blk_alloc E0.out))) hb15)
    replace X0 := Lib.hid (OwnB.below (by first | exact X0.out | exact X0.out.alloc _ | exact (X0.out.alloc _).alloc _ | exact ((X0.out.alloc _).alloc _).alloc _) hb15)
    replace X1 := Lib.hid (OwnT.below (by first | exact X1.out | exact X1.out.alloc _ | exact (X1.out.alloc _).alloc _ | exact ((X1.out.alloc _).alloc _).alloc _) hb15)
    replace X2 := Lib.hid (OwnT.below (by first | exact X2.out | exact X2.out.alloc _ | exact (X2.out.alloc _).alloc _ | exact ((X2.out.alloc _).alloc _).alloc _) hb15)
    replace Y2 := Lib.hid (OwnT.below (by first | exact Y2.out | exact Y2.out.alloc _ | exact (Y2.out.alloc _).alloc _ | exact ((Y2.out.alloc _).alloc _).alloc _) hb15)
    try clear F0_0 F0_1 F0_2
    have F0_0 := cellOf F0.out 0
    simp at F0_0
    have F0_1 := cellOf F0.out 1
    simp at F0_1
    have F0_2 := cellOf F0.out 2
    simp at F0_2
    try clear E0_0 E0_1 E0_2
    have E0_0 := cellOf E0.out 0
    simp at E0_0
    have E0_1 := cellOf E0.out 1
    simp at E0_1
    have E0_2 := cellOf E0.out 2
    simp at E0_2
    clear Y2
    go_wp2
    go_ret
    exact ⟨rfl, (by repeat (first | exact Below.refl _ _ | assumption | refine Below.drew ?_ | refine below_drewN ?_ _ | refine Below.alloc ?_ (by first | omega | (simp; done) | (simp; omega)) _ | refine Below.setCell ?_ (by first | omega | (simp; done) | (simp; omega)) _))⟩
/-! ### The row's step: the arguments are opened, the walk is called, the arguments read as before. -/
set_option maxRecDepth 100000 in
set_option maxHeartbeats 1000000 in
set_option linter.unusedVariables false in
theorem lifted_FnExactProvesFall (os : Os) (started : os.Started) (H : Type) (enc : TypeId × Value → H) :
    ReturnsInHanded {} Try.checked os 11 .any (Rows.fnExactProvesFallSpec.pre6 enc Try.prog Try.f11 Rows.fnExactProvesFallRow.domain false) (Rows.fnExactProvesFallSpec.post enc Try.prog Try.f11 false true false false) := by
  refine returnsInHanded_of_change (C := Try.checked) ownNone started (by kernel_rfl) Try.func11
    (ChangeSpec.witness6 (enc := enc) (C := Try.checked) false ⟨#[], #[.agg #[.slice none 0 0, .slice none 0 0, .slice none 0 0], .slice none 0 0, .slice none 0 0], []⟩ 8 (by kernel_rfl) (by kernel_rfl) (by kernel_rfl) (by kernel_rfl)) ?_
  intro W base args ds gs before hval0 hW hcnd _
  have hval : ∀ (j : Nat) t v, Try.f11.params[j]? = some t → args[j]? = some v → Value.okWide Try.prog W .any base t v := hval0
  have hW' := hW
  obtain ⟨p, q, hA0, hV, rfl, hfz, hnd⟩ := hW
  have hA : DataW.TrodAll enc Try.prog W 0 (fun _ => true) true Try.f11.params.toList args.toList ds p := hA0
  rw [Try.params11] at hA hval
  obtain ⟨v0, vs0, d0, ds0, p0, q0, hargs, rfl, rfl, h0, r0⟩ := trodAll_cons hA
  obtain ⟨v1, vs1, d1, ds1, p1, q1, rfl, rfl, rfl, h1, r1⟩ := trodAll_cons r0
  obtain ⟨v2, vs2, d2, ds2, p2, q2, rfl, rfl, rfl, h2, r2⟩ := trodAll_cons r1
  obtain ⟨rfl, rfl, rfl⟩ := trodAll_nil r2
  obtain rfl : args = #[v0, v1, v2] := by cases args; simp_all
  obtain ⟨rfl, rfl⟩ := trodVars_none hV
  have k0 := h0
  have lt0 : ∀ x ∈ p0, x.block < W.heap.size := by obtain ⟨m, hm⟩ := k0; exact DataW.trod_lt m _ _ _ hm
  obtain ⟨c0_0, c0_1, c0_2, y0_0, y0_1, y0_2, m0, rfl, _, _, z0_0, z0_1, z0_2⟩ := Joins.open_agg3 Try.underlying63 (by kernel_rfl) (by kernel_rfl) (hval 0 63 v0 rfl rfl) h0
  obtain ⟨a0_0, len0_0, cap0_0, zs0_0, rfl, w0_0⟩ := isRow_field Try.underlying24 Try.underlying2 (by kernel_rfl) z0_0
  obtain ⟨a0_1, len0_1, cap0_1, zs0_1, rfl, w0_1⟩ := isRow_field Try.underlying24 Try.underlying2 (by kernel_rfl) z0_1
  obtain ⟨a0_2, len0_2, cap0_2, zs0_2, rfl, w0_2⟩ := isRow_field Try.underlying24 Try.underlying2 (by kernel_rfl) z0_2
  have k1 := h1
  have lt1 : ∀ x ∈ p1, x.block < W.heap.size := by obtain ⟨m, hm⟩ := k1; exact DataW.trod_lt m _ _ _ hm
  obtain ⟨a1, len1, cap1, rfl⟩ := okWide_slice Try.underlying24 (hval 1 24 v1 rfl rfl)
  obtain ⟨z1, w1⟩ : ∃ zs, IsRow .i64 W a1 len1 cap1 zs := by
    obtain ⟨fuel, hf⟩ := h1
    rcases open_ints Try.underlying24 Try.underlying2 (by kernel_rfl) hf with ⟨hcs, _⟩ | ⟨x, l, c, zs, hcs, _, hl, hm, hz, _, hcell, hwz⟩
    · simp [Value.cells] at hcs
      obtain ⟨rfl, rfl, rfl⟩ := hcs
      exact ⟨[], isRow_nil⟩
    · simp [Value.cells] at hcs
      obtain ⟨rfl, rfl, rfl⟩ := hcs
      exact ⟨zs.take len1, isRow_mk hl hm (by simpa using hz) hcell hwz⟩
  have k2 := h2
  have lt2 : ∀ x ∈ p2, x.block < W.heap.size := by obtain ⟨m, hm⟩ := k2; exact DataW.trod_lt m _ _ _ hm
  obtain ⟨a2, len2, cap2, rfl⟩ := okWide_slice Try.underlying24 (hval 2 24 v2 rfl rfl)
  obtain ⟨z2, w2⟩ : ∃ zs, IsRow .i64 W a2 len2 cap2 zs := by
    obtain ⟨fuel, hf⟩ := h2
    rcases open_ints Try.underlying24 Try.underlying2 (by kernel_rfl) hf with ⟨hcs, _⟩ | ⟨x, l, c, zs, hcs, _, hl, hm, hz, _, hcell, hwz⟩
    · simp [Value.cells] at hcs
      obtain ⟨rfl, rfl, rfl⟩ := hcs
      exact ⟨[], isRow_nil⟩
    · simp [Value.cells] at hcs
      obtain ⟨rfl, rfl, rfl⟩ := hcs
      exact ⟨zs.take len2, isRow_mk hl hm (by simpa using hz) hcell hwz⟩
  clear hA0 hval0
  refine (exactProvesFall_walk a0_0 len0_0 cap0_0 zs0_0 a0_1 len0_1 cap0_1 zs0_1 a0_2 len0_2 cap0_2 zs0_2 a1 len1 cap1 z1 a2 len2 cap2 z2 W w0_0 w0_1 w0_2 w1 w2).mono fun e W' ⟨he, bel⟩ => ?_
  subst he
  exact ⟨_, rfl, _, _, _, [], _, [], hW', trodAll_mk1 (shut_bool Try.underlying4 _), (trodAll_cons_mk (Below.trod laidOut (by kernel_rfl) (of_decide_eq_true (by kernel_rfl)) k0 bel lt0) (trodAll_cons_mk (Below.trod laidOut (by kernel_rfl) (of_decide_eq_true (by kernel_rfl)) k1 bel lt1) (trodAll_cons_mk (Below.trod laidOut (by kernel_rfl) (of_decide_eq_true (by kernel_rfl)) k2 bel lt2) trodAll_mk0))), rfl, bel.frame _, fun h => by cases h⟩

/-- The statement, proved. -/
theorem fnExactProvesFall_holds : Rows.FnExactProvesFallSaid :=
  OpenClaim.holds_of_wide 11 Try.f11 rfl rfl rfl rfl rfl rfl rfl ⟨rfl, rfl, rfl, rfl, rfl⟩ rfl rfl rfl rfl rfl (by kernel_rfl) Try.func11 (by kernel_rfl)
    (of_decide_eq_true (by kernel_rfl)) (by unfold Func.isWrapper; first | (rw [if_pos (by decide +kernel)]; kernel_rfl) | (rw [if_neg (by decide +kernel)]; exact ⟨rfl, rfl⟩))
    (fun os started H enc _ => lifted_FnExactProvesFall os started H enc)
end Go.Proofs.Ytklhaanapembdaa
