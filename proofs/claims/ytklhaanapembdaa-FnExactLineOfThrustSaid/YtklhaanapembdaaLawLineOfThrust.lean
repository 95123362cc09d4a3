/- For all arguments, the program's LineOfThrust returns what the reference's LineOfThrust returns (the statement FnExactLineOfThrust); no condition. -/
import Derived.Test.YtklhaanapembdaaLotI
import Derived.Test.YtklhaanapembdaaLotS
import Derived.Test.YtklhaanapembdaaBlocksL
namespace Go.Proofs.Ytklhaanapembdaa
open Go.ChangeShapes Go.WideShapes Go.ChangeAt Go.RowKit
set_option maxHeartbeats 8000000 in
set_option linter.unusedVariables false in
theorem exactLineOfThrust_walk (a0_0 : Option Addr) (len0_0 cap0_0 : Nat) (z0_0 : List Int) (a0_1 : Option Addr) (len0_1 cap0_1 : Nat) (z0_1 : List Int) (a0_2 : Option Addr) (len0_2 cap0_2 : Nat) (z0_2 : List Int) (w : World) (hz0_0 : IsRow .i64 w a0_0 len0_0 cap0_0 z0_0) (hz0_1 : IsRow .i64 w a0_1 len0_1 cap0_1 z0_1) (hz0_2 : IsRow .i64 w a0_2 len0_2 cap0_2 z0_2) :
    Calls Try.prog 16 #[.agg #[.slice a0_0 len0_0 cap0_0, .slice a0_1 len0_1 cap0_1, .slice a0_2 len0_2 cap0_2]] w fun e w' => e = .returned (.bool true) ∧ Below w.heap.size w w' := by
  have HZ0 : Hid (IsB a0_0 a0_1 a0_2 len0_0 cap0_0 len0_1 cap0_1 len0_2 cap0_2 z0_0 z0_1 z0_2 w) := Lib.hid ⟨hz0_0, hz0_1, hz0_2⟩
  clear hz0_0 hz0_1 hz0_2
  by_cases hbig : 1048576 < len0_0 + len0_1 + len0_2
  · go_enter Try.func16, Try.ntmps16
    go_wp2_with fail
    refine (szBlocks_big _ _ _ _ _ _ _ _ _ _ _ _ _ (HZ0.out.below (by repeat (first | exact Below.refl _ _ | assumption | refine Below.drew ?_ | refine below_drewN ?_ _ | refine Below.alloc ?_ (by first | omega | (simp; done) | (simp; omega)) _ | refine Below.setCell ?_ (by first | omega | (simp; done) | (simp; omega)) _))) hbig).mono ?_
    rintro e1 w1 ⟨rfl, hb1⟩
    obtain ⟨hc1, hf1⟩ := bcell hb1
    have hz1 := hb1.size
    try simp at hz1
    have ha1 : Below w.heap.size w w1 := below_call (by repeat (first | exact Below.refl _ _ | assumption | refine Below.drew ?_ | refine below_drewN ?_ _ | refine Below.alloc ?_ (by first | omega | (simp; done) | (simp; omega)) _ | refine Below.setCell ?_ (by first | omega | (simp; done) | (simp; omega)) _)) hb1
    go_wp2
    go_ret
    exact ⟨rfl, (by repeat (first | exact Below.refl _ _ | assumption | refine Below.drew ?_ | refine below_drewN ?_ _ | refine Below.alloc ?_ (by first | omega | (simp; done) | (simp; omega)) _ | refine Below.setCell ?_ (by first | omega | (simp; done) | (simp; omega)) _))⟩
  have hs0 : len0_0 + len0_1 + len0_2 ≤ 1048576 := by omega
  have hs0' : ¬ (1048576 - (len0_0 : Int) - (len0_1 : Int) - (len0_2 : Int) < 0) := by omega
  have hk0 : ¬ (1 + (len0_0 : Int) + (len0_1 : Int) + (len0_2 : Int) < 0) := by omega
  clear hbig
  have hs0_0 : len0_0 ≤ 1048576 := by omega
  have hs0_1 : len0_1 ≤ 1048576 := by omega
  have hs0_2 : len0_2 ≤ 1048576 := by omega
  have HS := Lib.hid fun p0_0 p0_1 p0_2 q0_0 q0_1 q0_2 W => (specLineOfThrust_any p0_0 p0_1 p0_2 len0_0 q0_0 len0_1 q0_1 len0_2 q0_2 z0_0 z0_1 z0_2 W)
  have HI := Lib.hid fun p0_0 p0_1 p0_2 q0_0 q0_1 q0_2 W => (lineOfThrust_any p0_0 p0_1 p0_2 len0_0 q0_0 len0_1 q0_1 len0_2 q0_2 z0_0 z0_1 z0_2 W)
  have hleN0 : (lotI z0_0 z0_1 z0_2).length ≤ 1000000 := lotI_len z0_0 z0_1 z0_2
  generalize lotI z0_0 z0_1 z0_2 = Z0 at *
  generalize lotD z0_0 z0_1 z0_2 = R1 at *
  generalize csC z0_0 z0_1 z0_2 = R2 at *
  obtain ⟨N0, hnN0⟩ : ∃ n, Z0.length = n := ⟨_, rfl⟩
  rw [hnN0] at hleN0
  have HNN0 := Lib.hid hnN0
  clear hnN0
  have hmN0 : ¬ (1 + (N0 : Int) < 0) := by omega
  go_enter Try.func16, Try.ntmps16
  go_wp2_with fail
  refine (szBlocks_fits _ _ _ _ _ _ _ _ _ _ _ _ _ (HZ0.out.below (by repeat (first | exact Below.refl _ _ | assumption | refine Below.drew ?_ | refine below_drewN ?_ _ | refine Below.alloc ?_ (by first | omega | (simp; done) | (simp; omega)) _ | refine Below.setCell ?_ (by first | omega | (simp; done) | (simp; omega)) _))) hs0).mono ?_
  rintro e1 w1 ⟨rfl, hb1⟩
  have hz1 := hb1.size
  try simp at hz1
  have ha1 : Below w.heap.size w w1 := below_call (by repeat (first | exact Below.refl _ _ | assumption | refine Below.drew ?_ | refine below_drewN ?_ _ | refine Below.alloc ?_ (by first | omega | (simp; done) | (simp; omega)) _ | refine Below.setCell ?_ (by first | omega | (simp; done) | (simp; omega)) _)) hb1
  have F0 : Hid (w1.heap[w.heap.size]? = some _) := Lib.hid (blk_call (by refine blk_new' _ _ ?_; first | rfl | (simp; done) | (simp; omega)) hb1)
  try clear F0_0 F0_1 F0_2
  have F0_0 := cellOf F0.out 0
  simp at F0_0
  have F0_1 := cellOf F0.out 1
  simp at F0_1
  have F0_2 := cellOf F0.out 2
  simp at F0_2
  go_wp2_with fail
  refine (toBlocks_any _ _ _ _ _ _ _ _ _ _ _ _ _ (HZ0.out.below (by repeat (first | exact Below.refl _ _ | assumption | refine Below.drew ?_ | refine below_drewN ?_ _ | refine Below.alloc ?_ (by first | omega | (simp; done) | (simp; omega)) _ | refine Below.setCell ?_ (by first | omega | (simp; done) | (simp; omega)) _))) hs0_0 hs0_1 hs0_2).mono ?_
  rintro e2 w2 ⟨xA0, yA0, zA0, cA0, dA0, fA0, rfl, hO2, hb2⟩
  have A0 := Lib.hid (hO2.base (b' := w1.heap.size) (by first | exact Nat.le_refl _ | (simp; done) | (simp; omega)))
  clear hO2
  have hz2 := hb2.size
  try simp at hz2
  have ha2 : Below w.heap.size w w2 := below_call (by repeat (first | exact Below.refl _ _ | assumption | refine Below.drew ?_ | refine below_drewN ?_ _ | refine Below.alloc ?_ (by first | omega | (simp; done) | (simp; omega)) _ | refine Below.setCell ?_ (by first | omega | (simp; done) | (simp; omega)) _)) hb2
  replace F0 := Lib.hid (blk_call (by first | exact F0.out | exact blk_alloc F0.out | exact blk_alloc (blk_alloc F0.out) | exact blk_alloc (blk_alloc (blk_alloc F0.out))) hb2)
  try clear F0_0 F0_1 F0_2
  have F0_0 := cellOf F0.out 0
  simp at F0_0
  have F0_1 := cellOf F0.out 1
  simp at F0_1
  have F0_2 := cellOf F0.out 2
  simp at F0_2
  go_wp2_with fail
  refine (HS.out _ _ _ _ _ _ _ (by first | exact A0.out.isB | exact (A0.out.alloc _).isB | exact ((A0.out.alloc _).alloc _).isB | exact (((A0.out.alloc _).alloc _).alloc _).isB)).mono ?_
  rintro e3 w3 hN3
  obtain ⟨xW0, cW0, rfl, hOW0, hb3⟩ := hN3.toldT HNN0.out
  clear hN3
  have W0 := Lib.hid (hOW0.base (b' := w2.heap.size) (by first | exact Nat.le_refl _ | (simp; done) | (simp; omega)))
  clear hOW0
  have hz3 := hb3.size
  try simp at hz3
  have ha3 : Below w.heap.size w w3 := below_call (by repeat (first | exact Below.refl _ _ | assumption | refine Below.drew ?_ | refine below_drewN ?_ _ | refine Below.alloc ?_ (by first | omega | (simp; done) | (simp; omega)) _ | refine Below.setCell ?_ (by first | omega | (simp; done) | (simp; omega)) _)) hb3
  replace F0 := Lib.hid (blk_call (by first | exact F0.out | exact blk_alloc F0.out | exact blk_alloc (blk_alloc F0.out) | exact blk_alloc (blk_alloc (blk_alloc F0.out))) hb3)
  replace A0 := Lib.hid (OwnB.below (by first | exact A0.out | exact A0.out.alloc _ | exact (A0.out.alloc _).alloc _ | exact ((A0.out.alloc _).alloc _).alloc _) hb3)
  try clear F0_0 F0_1 F0_2
  have F0_0 := cellOf F0.out 0
  simp at F0_0
  have F0_1 := cellOf F0.out 1
  simp at F0_1
  have F0_2 := cellOf F0.out 2
  simp at F0_2
  clear A0
  go_wp2_with fail
  refine (toBlocks_any _ _ _ _ _ _ _ _ _ _ _ _ _ (HZ0.out.below (by repeat (first | exact Below.refl _ _ | assumption | refine Below.drew ?_ | refine below_drewN ?_ _ | refine Below.alloc ?_ (by first | omega | (simp; done) | (simp; omega)) _ | refine Below.setCell ?_ (by first | omega | (simp; done) | (simp; omega)) _))) hs0_0 hs0_1 hs0_2).mono ?_
  rintro e4 w4 ⟨xX0, yX0, zX0, cX0, dX0, fX0, rfl, hO4, hb4⟩
  have X0 := Lib.hid (hO4.base (b' := w3.heap.size) (by first | exact Nat.le_refl _ | (simp; done) | (simp; omega)))
  clear hO4
  have hz4 := hb4.size
  try simp at hz4
  have ha4 : Below w.heap.size w w4 := below_call (by repeat (first | exact Below.refl _ _ | assumption | refine Below.drew ?_ | refine below_drewN ?_ _ | refine Below.alloc ?_ (by first | omega | (simp; done) | (simp; omega)) _ | refine Below.setCell ?_ (by first | omega | (simp; done) | (simp; omega)) _)) hb4
  replace F0 := Lib.hid (blk_call (by first | exact F0.out | exact blk_alloc F0.out | exact blk_alloc (blk_alloc F0.out) | exact blk_alloc (blk_alloc (blk_alloc F0.out))) hb4)
  replace W0 := Lib.hid (OwnT.below (by first | exact W0.out | exact W0.out.alloc _ | exact (W0.out.alloc _).alloc _ | exact ((W0.out.alloc _).alloc _).alloc _) hb4)
  try clear F0_0 F0_1 F0_2
  have F0_0 := cellOf F0.out 0
  simp at F0_0
  have F0_1 := cellOf F0.out 1
  simp at F0_1
  have F0_2 := cellOf F0.out 2
  simp at F0_2
  go_wp2_with fail
  refine (HI.out _ _ _ _ _ _ _ (by first | exact X0.out.isB | exact (X0.out.alloc _).isB | exact ((X0.out.alloc _).alloc _).isB | exact (((X0.out.alloc _).alloc _).alloc _).isB)).mono ?_
  rintro e5 w5 hN5
  obtain ⟨xG0, cG0, rfl, hOG0, hb5⟩ := hN5.toldT HNN0.out
  clear hN5
  have G0 := Lib.hid (hOG0.base (b' := w4.heap.size + 1) (by first | exact Nat.le_refl _ | (simp; done) | (simp; omega)))
  clear hOG0
  have hz5 := hb5.size
  try simp at hz5
  have ha5 : Below w.heap.size w w5 := below_call (by repeat (first | exact Below.refl _ _ | assumption | refine Below.drew ?_ | refine below_drewN ?_ _ | refine Below.alloc ?_ (by first | omega | (simp; done) | (simp; omega)) _ | refine Below.setCell ?_ (by first | omega | (simp; done) | (simp; omega)) _)) hb5
  replace F0 := Lib.hid (blk_call (by first | exact F0.out | exact blk_alloc F0.out | exact blk_alloc (blk_alloc F0.out) | exact blk_alloc (blk_alloc (blk_alloc F0.out))) hb5)
  have E0 : Hid (w5.heap[w4.heap.size]? = some _) := Lib.hid (blk_call (by refine blk_new' _ _ ?_; first | rfl | (simp; done) | (simp; omega)) hb5)
  replace W0 := Lib.hid (OwnT.below (by first | exact W0.out | exact W0.out.alloc _ | exact (W0.out.alloc _).alloc _ | exact ((W0.out.alloc _).alloc _).alloc _) hb5)
  replace X0 := Lib.hid (OwnB.below (by first | exact X0.out | exact X0.out.alloc _ | exact (X0.out.alloc _).alloc _ | exact ((X0.out.alloc _).alloc _).alloc _) hb5)
  try clear F0_0 F0_1 F0_2
  have F0_0 := cellOf F0.out 0
  simp at F0_0
  have F0_1 := cellOf F0.out 1
  simp at F0_1
  have F0_2 := cellOf F0.out 2
  simp at F0_2
  try clear E0_0 E0_1 E0_2
  have E0_0 := cellOf E0.out 0
  simp at E0_0
  have E0_1 := cellOf E0.out 1
  simp at E0_1
  have E0_2 := cellOf E0.out 2
  simp at E0_2
  go_wp2_with fail
  refine (eqInt64S_same _ _ _ _ _ _ _ (by first | exact G0.out.row | exact (G0.out.alloc _).row | exact ((G0.out.alloc _).alloc _).row | exact (((G0.out.alloc _).alloc _).alloc _).row) (by first | exact W0.out.row | exact (W0.out.alloc _).row | exact ((W0.out.alloc _).alloc _).row | exact (((W0.out.alloc _).alloc _).alloc _).row)).mono ?_
  rintro e6 w6 ⟨rfl, hb6⟩
  have hz6 := hb6.size
  try simp at hz6
  have ha6 : Below w.heap.size w w6 := below_call (by repeat (first | exact Below.refl _ _ | assumption | refine Below.drew ?_ | refine below_drewN ?_ _ | refine Below.alloc ?_ (by first | omega | (simp; done) | (simp; omega)) _ | refine Below.setCell ?_ (by first | omega | (simp; done) | (simp; omega)) _)) hb6
  replace F0 := Lib.hid (blk_call (by first | exact F0.out | exact blk_alloc F0.out | exact blk_alloc (blk_alloc F0.out) | exact blk_alloc (blk_alloc (blk_alloc F0.out))) hb6)
  replace E0 := Lib.hid (blk_call (by first | exact E0.out | exact blk_alloc E0.out | exact blk_alloc (blk_alloc E0.out) | exact blk_alloc (blk_alloc (blk_alloc E0.out))) hb6)
  replace W0 := Lib.hid (OwnT.below (by first | exact W0.out | exact W0.out.alloc _ | exact (W0.out.alloc _).alloc _ | exact ((W0.out.alloc _).alloc _).alloc _) hb6)
  replace X0 := Lib.hid (OwnB.below (by first | exact X0.out | exact X0.out.alloc _ | exact (X0.out.alloc _).alloc _ | exact ((X0.out.alloc _).alloc _).alloc _) hb6)
  replace G0 := Lib.hid (OwnT.below (by first | exact G0.out | exact G0.out.alloc _ | exact (G0.out.alloc _).alloc _ | exact ((G0.out.alloc _).alloc _).alloc _) hb6)
  try clear F0_0 F0_1 F0_2
  have F0_0 := cellOf F0.out 0
  simp at F0_0
  have F0_1 := cellOf F0.out 1
  simp at F0_1
  have F0_2 := cellOf F0.out 2
  simp at F0_2
  try clear E0_0 E0_1 E0_2
  have E0_0 := cellOf E0.out 0
  simp at E0_0
  have E0_1 := cellOf E0.out 1
  simp at E0_1
  have E0_2 := cellOf E0.out 2
  simp at E0_2
  go_wp2
  go_region_held3 (fun w' => w'.cell? ⟨w4.heap.size, 0, none⟩ = some (Value.slice xX0 len0_0 cX0) ∧ w'.cell? ⟨w4.heap.size, 1, none⟩ = some (Value.slice yX0 len0_1 dX0) ∧ w'.cell? ⟨w4.heap.size, 2, none⟩ = some (Value.slice zX0 len0_2 fX0) ∧ w'.cell? ⟨w.heap.size, 0, none⟩ = some (Value.slice a0_0 len0_0 cap0_0) ∧ w'.cell? ⟨w.heap.size, 1, none⟩ = some (Value.slice a0_1 len0_1 cap0_1) ∧ w'.cell? ⟨w.heap.size, 2, none⟩ = some (Value.slice a0_2 len0_2 cap0_2)) (first | exact ⟨E0_0, E0_1, E0_2, F0_0, F0_1, F0_2⟩ | exact keep6 hbx (by assumption) | assumption)
    (first | (go_at_call 42; refine (toBlocks_any _ _ _ _ _ _ _ _ _ _ _ _ _ (HZ0.out.below (by repeat (first | exact Below.refl _ _ | assumption | refine Below.drew ?_ | refine below_drewN ?_ _ | refine Below.alloc ?_ (by first | omega | (simp; done) | (simp; omega)) _ | refine Below.setCell ?_ (by first | omega | (simp; done) | (simp; omega)) _))) hs0_0 hs0_1 hs0_2).mono ?_; rintro e7 wx ⟨xY, yY, zY, cY, dY, fY, rfl, hOY, hbx⟩; have hzx := hbx.size; (try simp at hzx); have hax : Below w.heap.size w wx := below_call (by repeat (first | exact Below.refl _ _ | assumption | refine Below.drew ?_ | refine below_drewN ?_ _ | refine Below.alloc ?_ (by first | omega | (simp; done) | (simp; omega)) _ | refine Below.setCell ?_ (by first | omega | (simp; done) | (simp; omega)) _)) hbx; have YY := Lib.hid hOY; clear hOY; have W0_n := Lib.hid (OwnT.below (by exact W0.out) hbx); have X0_n := Lib.hid (OwnB.below (by exact X0.out) hbx); have G0_n := Lib.hid (OwnT.below (by exact G0.out) hbx); have F0_n := Lib.hid (blk_call (by exact F0.out) hbx); have E0_n := Lib.hid (blk_call (by exact E0.out) hbx)) | (go_at_call 44; refine (eqBlocks_same _ _ _ _ _ _ _ _ _ _ _ _ _ _ _ _ _ _ _ X0_n.out.isB YY.out.isB).mono ?_; rintro e8 wy ⟨rfl, hby⟩; have hay : Below w.heap.size w wy := below_call (by repeat (first | exact Below.refl _ _ | assumption | refine Below.drew ?_ | refine below_drewN ?_ _ | refine Below.alloc ?_ (by first | omega | (simp; done) | (simp; omega)) _ | refine Below.setCell ?_ (by first | omega | (simp; done) | (simp; omega)) _)) hby; have hzy := hby.size; have hbx := hby))
  all_goals
    replace W0 := Lib.hid (OwnT.below W0_n.out hby)
    clear W0_n
    replace X0 := Lib.hid (OwnB.below X0_n.out hby)
    clear X0_n
    replace G0 := Lib.hid (OwnT.below G0_n.out hby)
    clear G0_n
    replace F0 := Lib.hid (blk_call F0_n.out hby)
    clear F0_n
    replace E0 := Lib.hid (blk_call E0_n.out hby)
    clear E0_n
    try clear YY
    try clear F0_0 F0_1 F0_2
    have F0_0 := cellOf F0.out 0
    simp at F0_0
    have F0_1 := cellOf F0.out 1
    simp at F0_1
    have F0_2 := cellOf F0.out 2
    simp at F0_2
    try clear E0_0 E0_1 E0_2
    have E0_0 := cellOf E0.out 0
    simp at E0_0
    have E0_1 := cellOf E0.out 1
    simp at E0_1
    have E0_2 := cellOf E0.out 2
    simp at E0_2
    go_wp2_with fail
    refine (markBlocks_any _ _ _ _ _ _ _ _ _ _ _ _ _ _ _ _ X0.out (by omega) (by omega) (by omega) (by omega) (by omega) (by omega)).mono ?_
    rintro e9 w9 ⟨rfl, hO9, hU9⟩
    have ha9 : Below w.heap.size w w9 := below_outs (by repeat (first | exact Below.refl _ _ | assumption | refine Below.drew ?_ | refine below_drewN ?_ _ | refine Below.alloc ?_ (by first | omega | (simp; done) | (simp; omega)) _ | refine Below.setCell ?_ (by first | omega | (simp; done) | (simp; omega)) _)) (by omega) hU9
    have hz9 := hU9.size
    replace F0 := Lib.hid (blk_outs F0.out hU9 (by omega))
    replace E0 := Lib.hid (blk_outs E0.out hU9 (by omega))
    replace W0 := Lib.hid (OwnT.outs W0.out hU9 (by omega))
    replace G0 := Lib.hid (OwnT.outs G0.out hU9 (by omega))
    replace X0 := Lib.hid hO9
    clear hO9 hU9
    try clear F0_0 F0_1 F0_2
    have F0_0 := cellOf F0.out 0
    simp at F0_0
    have F0_1 := cellOf F0.out 1
    simp at F0_1
    have F0_2 := cellOf F0.out 2
    simp at F0_2
    try clear E0_0 E0_1 E0_2
    have E0_0 := cellOf E0.out 0
    simp at E0_0
    have E0_1 := cellOf E0.out 1
    simp at E0_1
    have E0_2 := cellOf E0.out 2
    simp at E0_2
    clear X0
    go_wp2_with fail
    refine (eqInt64S_same _ _ _ _ _ _ _ (by first | exact G0.out.row | exact (G0.out.alloc _).row | exact ((G0.out.alloc _).alloc _).row | exact (((G0.out.alloc _).alloc _).alloc _).row) (by first | exact W0.out.row | exact (W0.out.alloc _).row | exact ((W0.out.alloc _).alloc _).row | exact (((W0.out.alloc _).alloc _).alloc _).row)).mono ?_
    rintro e10 w10 ⟨rfl, hb10⟩
    have hz10 := hb10.size
    try simp at hz10
    have ha10 : Below w.heap.size w w10 := below_call (by repeat (first | exact Below.refl _ _ | assumption | refine Below.drew ?_ | refine below_drewN ?_ _ | refine Below.alloc ?_ (by first | omega | (simp; done) | (simp; omega)) _ | refine Below.setCell ?_ (by first | omega | (simp; done) | (simp; omega)) _)) hb10
    replace F0 := Lib.hid (blk_call (by first | exact F0.out | exact blk_alloc F0.out | exact blk_alloc (blk_alloc F0.out) | exact blk_alloc (blk_alloc (blk_alloc F0.out))) hb10)
    replace E0 := Lib.hid (blk_call (by first | exact E0.out | exact blk_alloc E0.out | exact blk_alloc (blk_alloc E0.out) | exact blk_alloc (blk_alloc (blk_alloc E0.out))) hb10)
    replace W0 := Lib.hid (OwnT.below (by first | exact W0.out | exact W0.out.alloc _ | exact (W0.out.alloc _).alloc _ | exact ((W0.out.alloc _).alloc _).alloc _) hb10)
    replace G0 := Lib.hid (OwnT.below (by first | exact G0.out | exact G0.out.alloc _ | exact (G0.out.alloc _).alloc _ | exact ((G0.out.alloc _).alloc _).alloc _) hb10)
    try clear F0_0 F0_1 F0_2
    have F0_0 := cellOf F0.out 0
    simp at F0_0
    have F0_1 := cellOf F0.out 1
    simp at F0_1
    have F0_2 := cellOf F0.out 2
    simp at F0_2
    try clear E0_0 E0_1 E0_2
    have E0_0 := cellOf E0.out 0
    simp at E0_0
    have E0_1 := cellOf E0.out 1
    simp at E0_1
    have E0_2 := cellOf E0.out 2
    simp at E0_2
    go_wp2_with fail
    refine (markT _ _ _ _ _ _ _ _ G0.out (by omega) (by omega) (by omega)).mono ?_
    rintro e11 w11 ⟨rfl, hO11, hU11⟩
    have ha11 : Below w.heap.size w w11 := below_outs (by repeat (first | exact Below.refl _ _ | assumption | refine Below.drew ?_ | refine below_drewN ?_ _ | refine Below.alloc ?_ (by first | omega | (simp; done) | (simp; omega)) _ | refine Below.setCell ?_ (by first | omega | (simp; done) | (simp; omega)) _)) (by omega) hU11
    have hz11 := hU11.size
    replace F0 := Lib.hid (blk_outs F0.out hU11 (by omega))
    replace E0 := Lib.hid (blk_outs E0.out hU11 (by omega))
    replace W0 := Lib.hid (OwnT.outs W0.out hU11 (by omega))
    replace G0 := Lib.hid hO11
    clear hO11 hU11
    try clear F0_0 F0_1 F0_2
    have F0_0 := cellOf F0.out 0
    simp at F0_0
    have F0_1 := cellOf F0.out 1
    simp at F0_1
    have F0_2 := cellOf F0.out 2
    simp at F0_2
    try clear E0_0 E0_1 E0_2
    have E0_0 := cellOf E0.out 0
    simp at E0_0
    have E0_1 := cellOf E0.out 1
    simp at E0_1
    have E0_2 := cellOf E0.out 2
    simp at E0_2
    go_wp2_with fail
    refine (heldInt64S_any _ _ _ _ _ (by first | exact G0.out.row | exact (G0.out.alloc _).row) (by omega) (by omega) (by omega)).mono ?_
    rintro e12 v12 ⟨rfl, rfl⟩
    go_wp2_with fail
    refine (toBlocks_any _ _ _ _ _ _ _ _ _ _ _ _ _ (HZ0.out.below (by repeat (first | exact Below.refl _ _ | assumption | refine Below.drew ?_ | refine below_drewN ?_ _ | refine Below.alloc ?_ (by first | omega | (simp; done) | (simp; omega)) _ | refine Below.setCell ?_ (by first | omega | (simp; done) | (simp; omega)) _))) hs0_0 hs0_1 hs0_2).mono ?_
    rintro e13 w13 ⟨xB0, yB0, zB0, cB0, dB0, fB0, rfl, hO13, hb13⟩
    have B0 := Lib.hid (hO13.base (b' := w11.heap.size) (by first | exact Nat.le_refl _ | (simp; done) | (simp; omega)))
    clear hO13
    have hz13 := hb13.size
    try simp at hz13
    have ha13 : Below w.heap.size w w13 := below_call (by repeat (first | exact Below.refl _ _ | assumption | refine Below.drew ?_ | refine below_drewN ?_ _ | refine Below.alloc ?_ (by first | omega | (simp; done) | (simp; omega)) _ | refine Below.setCell ?_ (by first | omega | (simp; done) | (simp; omega)) _)) hb13
    replace F0 := Lib.hid (blk_call (by first | exact F0.out | exact blk_alloc F0.out | exact blk_alloc (blk_alloc F0.out) | exact blk_alloc (blk_alloc (blk_alloc F0.out))) hb13)
    replace E0 := Lib.hid (blk_call (by first | exact E0.out | exact blk_alloc E0.out | exact blk_alloc (blk_alloc E0.out) | exact blk_alloc (blk_alloc (blk_alloc E0.out))) hb13)
    replace W0 := Lib.hid (OwnT.below (by first | exact W0.out | exact W0.out.alloc _ | exact (W0.out.alloc _).alloc _ | exact ((W0.out.alloc _).alloc _).alloc _) hb13)
    replace G0 := Lib.hid (OwnT.below (by first | exact G0.out | exact G0.out.alloc _ | exact (G0.out.alloc _).alloc _ | exact ((G0.out.alloc _).alloc _).alloc _) hb13)
    try clear F0_0 F0_1 F0_2
    have F0_0 := cellOf F0.out 0
    simp at F0_0
    have F0_1 := cellOf F0.out 1
    simp at F0_1
    have F0_2 := cellOf F0.out 2
    simp at F0_2
    try clear E0_0 E0_1 E0_2
    have E0_0 := cellOf E0.out 0
    simp at E0_0
    have E0_1 := cellOf E0.out 1
    simp at E0_1
    have E0_2 := cellOf E0.out 2
    simp at E0_2
    go_wp2_with fail
    refine (HI.out _ _ _ _ _ _ _ (by first | exact B0.out.isB | exact (B0.out.alloc _).isB | exact ((B0.out.alloc _).alloc _).isB | exact (((B0.out.alloc _).alloc _).alloc _).isB)).mono ?_
    rintro e14 w14 hN14
    obtain ⟨xH0, cH0, rfl, hOH0, hb14⟩ := hN14.toldT HNN0.out
    clear hN14
    have H0 := Lib.hid (hOH0.base (b' := w13.heap.size) (by first | exact Nat.le_refl _ | (simp; done) | (simp; omega)))
    clear hOH0
    have hz14 := hb14.size
    try simp at hz14
    have ha14 : Below w.heap.size w w14 := below_call (by repeat (first | exact Below.refl _ _ | assumption | refine Below.drew ?_ | refine below_drewN ?_ _ | refine Below.alloc ?_ (by first | omega | (simp; done) | (simp; omega)) _ | refine Below.setCell ?_ (by first | omega | (simp; done) | (simp; omega)) _)) hb14
    replace F0 := Lib.hid (blk_call (by first | exact F0.out | exact blk_alloc F0.out | exact blk_alloc (blk_alloc F0.out) | exact blk_alloc (blk_alloc (blk_alloc F0.out))) hb14)
    replace E0 := Lib.hid (blk_call (by first | exact E0.out | exact blk_alloc E0.out | exact blk_alloc (blk_alloc E0.out) | exact blk_alloc (blk_alloc (blk_alloc E0.out))) hb14)
    replace W0 := Lib.hid (OwnT.below (by first | exact W0.out | exact W0.out.alloc _ | exact (W0.out.alloc _).alloc _ | exact ((W0.out.alloc _).alloc _).alloc _) hb14)
    replace G0 := Lib.hid (OwnT.below (by first | exact G0.out | exact G0.out.alloc _ | exact (G0.out.alloc _).alloc _ | exact ((G0.out.alloc _).alloc _).alloc _) hb14)
    replace B0 := Lib.hid (OwnB.below (by first | exact B0.out | exact B0.out.alloc _ | exact (B0.out.alloc _).alloc _ | exact ((B0.out.alloc _).alloc _).alloc _) hb14)
    try clear F0_0 F0_1 F0_2
    have F0_0 := cellOf F0.out 0
    simp at F0_0
    have F0_1 := cellOf F0.out 1
    simp at F0_1
    have F0_2 := cellOf F0.out 2
    simp at F0_2
    try clear E0_0 E0_1 E0_2
    have E0_0 := cellOf E0.out 0
    simp at E0_0
    have E0_1 := cellOf E0.out 1
    simp at E0_1
    have E0_2 := cellOf E0.out 2
    simp at E0_2
    clear B0
    go_wp2_with fail
    refine (eqInt64S_same _ _ _ _ _ _ _ (by first | exact H0.out.row | exact (H0.out.alloc _).row | exact ((H0.out.alloc _).alloc _).row | exact (((H0.out.alloc _).alloc _).alloc _).row) (by first | exact W0.out.row | exact (W0.out.alloc _).row | exact ((W0.out.alloc _).alloc _).row | exact (((W0.out.alloc _).alloc _).alloc _).row)).mono ?_
    rintro e15 w15 ⟨rfl, hb15⟩
    have hz15 := hb15.size
    try simp at hz15
    have ha15 : Below w.heap.size w w15 := below_call (by repeat (first | exact Below.refl _ _ | assumption | refine Below.drew ?_ | refine below_drewN ?_ _ | refine Below.alloc ?_ (by first | omega | (simp; done) | (simp; omega)) _ | refine Below.setCell ?_ (by first | omega | (simp; done) | (simp; omega)) _)) hb15
    replace F0 := Lib.hid (blk_call (by first | exact F0.out | exact blk_alloc F0.out | exact blk_alloc (blk_alloc F0.out) | exact blk_alloc (blk_alloc (blk_alloc F0.out))) hb15)
    replace E0 := Lib.hid (blk_call (by first | exact E0.out | exact blk_alloc E0.out | exact blk_alloc (blk_alloc E0.out) | exact blk_alloc (blk_alloc (blk_alloc E0.out))) hb15)
    replace W0 := Lib.hid (OwnT.below (by first | exact W0.out | exact W0.out.alloc _ | exact (W0.out.alloc _).alloc _ | exact ((W0.out.alloc _).alloc _).alloc _) hb15)
    replace G0 := Lib.hid (OwnT.below (by first | exact G0.out | exact G0.out.alloc _ | exact (G0.out.alloc _).alloc _ | exact ((G0.out.alloc _).alloc _).alloc _) hb15)
    replace H0 := Lib.hid (OwnT.below (by first | exact H0.out | exact H0.out.alloc _ | exact (H0.out.alloc _).alloc _ | exact ((H0.out.alloc _).alloc _).alloc _) hb15)
    try clear F0_0 F0_1 F0_2
    have F0_0 := cellOf F0.out 0
    simp at F0_0
    have F0_1 := cellOf F0.out 1
    simp at F0_1
    have F0_2 := cellOf F0.out 2
    simp at F0_2
    try clear E0_0 E0_1 E0_2
    have E0_0 := cellOf E0.out 0
    simp at E0_0
    have E0_1 := cellOf E0.out 1
    simp at E0_1
    have E0_2 := cellOf E0.out 2
    simp at E0_2
    go_wp2_with fail
    refine (heldInt64S_any _ _ _ _ _ (by first | exact G0.out.row | exact (G0.out.alloc _).row) (by omega) (by omega) (by omega)).mono ?_
    rintro e16 v16 ⟨rfl, rfl⟩
    go_wp2
    go_ret
    exact ⟨rfl, (by repeat (first | exact Below.refl _ _ | assumption | refine Below.drew ?_ | refine below_drewN ?_ _ | refine Below.alloc ?_ (by first | omega | (simp; done) | (simp; omega)) _ | refine Below.setCell ?_ (by first | omega | (simp; done) | (simp; omega)) _))⟩
/-! ### The row's step: the arguments are opened, the walk is called, the arguments read as before. -/
set_option maxRecDepth 100000 in
set_option maxHeartbeats 1000000 in
set_option linter.unusedVariables false in
theorem lifted_FnExactLineOfThrust (os : Os) (started : os.Started) (H : Type) (enc : TypeId × Value → H) :
    ReturnsInHanded {} Try.checked os 16 .any (Rows.fnExactLineOfThrustSpec.pre6 enc Try.prog Try.f16 Rows.fnExactLineOfThrustRow.domain false) (Rows.fnExactLineOfThrustSpec.post enc Try.prog Try.f16 false true false false) := by
  refine returnsInHanded_of_change (C := Try.checked) ownNone started (by kernel_rfl) Try.func16
    (ChangeSpec.witness6 (enc := enc) (C := Try.checked) false ⟨#[], #[.agg #[.slice none 0 0, .slice none 0 0, .slice none 0 0]], []⟩ 8 (by kernel_rfl) (by kernel_rfl) (by kernel_rfl) (by kernel_rfl)) ?_
  intro W base args ds gs before hval0 hW hcnd _
  have hval : ∀ (j : Nat) t v, Try.f16.params[j]? = some t → args[j]? = some v → Value.okWide Try.prog W .any base t v := hval0
  have hW' := hW
  obtain ⟨p, q, hA0, hV, rfl, hfz, hnd⟩ := hW
  have hA : DataW.TrodAll enc Try.prog W 0 (fun _ => true) true Try.f16.params.toList args.toList ds p := hA0
  rw [Try.params16] at hA hval
  obtain ⟨v0, vs0, d0, ds0, p0, q0, hargs, rfl, rfl, h0, r0⟩ := trodAll_cons hA
  obtain ⟨rfl, rfl, rfl⟩ := trodAll_nil r0
  obtain rfl : args = #[v0] := by cases args; simp_all
  obtain ⟨rfl, rfl⟩ := trodVars_none hV
  have k0 := h0
  have lt0 : ∀ x ∈ p0, x.block < W.heap.size := by obtain ⟨m, hm⟩ := k0; exact DataW.trod_lt m _ _ _ hm
  obtain ⟨c0_0, c0_1, c0_2, y0_0, y0_1, y0_2, m0, rfl, _, _, z0_0, z0_1, z0_2⟩ := Joins.open_agg3 Try.underlying63 (by kernel_rfl) (by kernel_rfl) (hval 0 63 v0 rfl rfl) h0
  obtain ⟨a0_0, len0_0, cap0_0, zs0_0, rfl, w0_0⟩ := isRow_field Try.underlying24 Try.underlying2 (by kernel_rfl) z0_0
  obtain ⟨a0_1, len0_1, cap0_1, zs0_1, rfl, w0_1⟩ := isRow_field Try.underlying24 Try.underlying2 (by kernel_rfl) z0_1
  obtain ⟨a0_2, len0_2, cap0_2, zs0_2, rfl, w0_2⟩ := isRow_field Try.underlying24 Try.underlying2 (by kernel_rfl) z0_2
  clear hA0 hval0
  refine (exactLineOfThrust_walk a0_0 len0_0 cap0_0 zs0_0 a0_1 len0_1 cap0_1 zs0_1 a0_2 len0_2 cap0_2 zs0_2 W w0_0 w0_1 w0_2).mono fun e W' ⟨he, bel⟩ => ?_
  subst he
  exact ⟨_, rfl, _, _, _, [], _, [], hW', trodAll_mk1 (shut_bool Try.underlying4 _), (trodAll_cons_mk (Below.trod laidOut (by kernel_rfl) (of_decide_eq_true (by kernel_rfl)) k0 bel lt0) trodAll_mk0), rfl, bel.frame _, fun h => by cases h⟩

/-- The statement, proved. -/
theorem fnExactLineOfThrust_holds : Rows.FnExactLineOfThrustSaid :=
  OpenClaim.holds_of_wide 16 Try.f16 rfl rfl rfl rfl rfl rfl rfl ⟨rfl, rfl, rfl, rfl, rfl⟩ rfl rfl rfl rfl rfl (by kernel_rfl) Try.func16 (by kernel_rfl)
    (of_decide_eq_true (by kernel_rfl)) (by unfold Func.isWrapper; first | (rw [if_pos (by decide +kernel)]; kernel_rfl) | (rw [if_neg (by decide +kernel)]; exact ⟨rfl, rfl⟩))
    (fun os started H enc _ => lifted_FnExactLineOfThrust os started H enc)
end Go.Proofs.Ytklhaanapembdaa
