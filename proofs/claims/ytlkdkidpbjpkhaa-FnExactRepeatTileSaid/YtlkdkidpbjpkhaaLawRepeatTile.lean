/- For all arguments, the program's RepeatTile returns what the reference's RepeatTile returns, in new memory (the statement FnExactRepeatTile); no condition. -/
import Derived.Test.YtlkdkidpbjpkhaaRepI
namespace Go.Proofs.Ytlkdkidpbjpkhaa
open Go.ChangeShapes Go.WideShapes Go.ChangeAt Go.RowKit
set_option maxHeartbeats 8000000 in
set_option linter.unusedVariables false in
theorem exactRepeatTile_walk (a0 : Option Addr) (len0 cap0 : Nat) (z0 : List ByteArray) (a1 : Int) (l1 : -9223372036854775808 ≤ a1) (u1 : a1 ≤ 9223372036854775807) (a2 : Int) (l2 : -9223372036854775808 ≤ a2) (u2 : a2 ≤ 9223372036854775807) (w : World) (hz0 : IsStrs w a0 len0 cap0 z0) :
    Calls Try.prog 14 #[.slice a0 len0 cap0, .int .i64 a1, .int .i64 a2] w fun e w' => e = .returned (.bool true) ∧ Below w.heap.size w w' := by
  have HZ0 := Lib.hid hz0
  have hl0 := hz0.1
  clear hz0
  have HSZ0 := Lib.hid (fun W hW => szStringS_any a0 len0 cap0 z0 (1048576) W hW (by omega) (by omega))
  by_cases hbig0 : 1048576 - szT z0 < 0
  · rw [if_pos hbig0] at HSZ0
    clear hbig0
    go_enter Try.func14, Try.ntmps14
    go_wp2_with fail
    refine (HSZ0.out _ HZ0.out).mono ?_
    rintro e1 w1 ⟨rfl, rfl⟩
    go_wp2
    go_ret
    exact ⟨rfl, (by repeat (first | exact Below.refl _ _ | assumption | refine Below.drew ?_ | refine below_drewN ?_ _ | refine Below.alloc ?_ (by first | omega | (simp; done) | (simp; omega)) _ | refine Below.setCell ?_ (by first | omega | (simp; done) | (simp; omega)) _))⟩
  rw [if_neg hbig0] at HSZ0
  have hn0 := szT_len z0
  have hlen0 : len0 ≤ 1048576 := by omega
  have hk0 : ¬ (1 + (len0 : Int) < 0) := by omega
  have HS := Lib.hid fun p0 q0 W => (specRepeatTile_any p0 len0 q0 z0 a1 a2 W)
  have HI := Lib.hid fun p0 q0 W => (repeatTile_any p0 len0 q0 z0 a1 a2 W)
  have hleN0 : (rtI z0 a1 a2).length ≤ 1000000 := rtI_len z0 a1 a2
  generalize rtI z0 a1 a2 = Z0 at *
  generalize rtC z0 a1 a2 = R1 at *
  obtain ⟨N0, hnN0⟩ : ∃ n, Z0.length = n := ⟨_, rfl⟩
  rw [hnN0] at hleN0
  have HNN0 := Lib.hid hnN0
  clear hnN0
  have hmN0 : ¬ (1 + (N0 : Int) < 0) := by omega
  go_enter Try.func14, Try.ntmps14
  go_wp2_with fail
  refine (HSZ0.out _ HZ0.out).mono ?_
  rintro e1 v1 ⟨rfl, rfl⟩
  go_wp2_with fail
  refine (toTS _ _ _ _ _ (HZ0.out.below (by repeat (first | exact Below.refl _ _ | assumption | refine Below.drew ?_ | refine below_drewN ?_ _ | refine Below.alloc ?_ (by first | omega | (simp; done) | (simp; omega)) _ | refine Below.setCell ?_ (by first | omega | (simp; done) | (simp; omega)) _))) hlen0).mono ?_
  rintro e2 w2 ⟨xA0, cA0, rfl, hO2, hb2⟩
  have A0 := Lib.hid (hO2.base (b' := w.heap.size) (by first | exact Nat.le_refl _ | (simp; done) | (simp; omega)))
  clear hO2
  have hz2 := hb2.size
  try simp at hz2
  have ha2 : Below w.heap.size w w2 := below_call (by repeat (first | exact Below.refl _ _ | assumption | refine Below.drew ?_ | refine below_drewN ?_ _ | refine Below.alloc ?_ (by first | omega | (simp; done) | (simp; omega)) _ | refine Below.setCell ?_ (by first | omega | (simp; done) | (simp; omega)) _)) hb2
  go_wp2_with fail
  refine (HS.out _ _ _ (by first | exact A0.out.row | exact (A0.out.alloc _).row | exact ((A0.out.alloc _).alloc _).row | exact (((A0.out.alloc _).alloc _).alloc _).row)).mono ?_
  rintro e3 w3 hN3
  obtain ⟨xW0, cW0, rfl, hOW0, hb3⟩ := hN3.toldT HNN0.out
  clear hN3
  have W0 := Lib.hid (hOW0.base (b' := w2.heap.size) (by first | exact Nat.le_refl _ | (simp; done) | (simp; omega)))
  clear hOW0
  have hz3 := hb3.size
  try simp at hz3
  have ha3 : Below w.heap.size w w3 := below_call (by repeat (first | exact Below.refl _ _ | assumption | refine Below.drew ?_ | refine below_drewN ?_ _ | refine Below.alloc ?_ (by first | omega | (simp; done) | (simp; omega)) _ | refine Below.setCell ?_ (by first | omega | (simp; done) | (simp; omega)) _)) hb3
  replace A0 := Lib.hid (OwnTS.below (by first | exact A0.out | exact A0.out.alloc _ | exact (A0.out.alloc _).alloc _) hb3)
  clear A0
  go_wp2_with fail
  refine (toTS _ _ _ _ _ (HZ0.out.below (by repeat (first | exact Below.refl _ _ | assumption | refine Below.drew ?_ | refine below_drewN ?_ _ | refine Below.alloc ?_ (by first | omega | (simp; done) | (simp; omega)) _ | refine Below.setCell ?_ (by first | omega | (simp; done) | (simp; omega)) _))) hlen0).mono ?_
  rintro e4 w4 ⟨xX0, cX0, rfl, hO4, hb4⟩
  have X0 := Lib.hid (hO4.base (b' := w3.heap.size) (by first | exact Nat.le_refl _ | (simp; done) | (simp; omega)))
  clear hO4
  have hz4 := hb4.size
  try simp at hz4
  have ha4 : Below w.heap.size w w4 := below_call (by repeat (first | exact Below.refl _ _ | assumption | refine Below.drew ?_ | refine below_drewN ?_ _ | refine Below.alloc ?_ (by first | omega | (simp; done) | (simp; omega)) _ | refine Below.setCell ?_ (by first | omega | (simp; done) | (simp; omega)) _)) hb4
  replace W0 := Lib.hid (OwnTS.below (by first | exact W0.out | exact W0.out.alloc _ | exact (W0.out.alloc _).alloc _) hb4)
  go_wp2_with fail
  refine (HI.out _ _ _ (by first | exact X0.out.row | exact (X0.out.alloc _).row | exact ((X0.out.alloc _).alloc _).row | exact (((X0.out.alloc _).alloc _).alloc _).row)).mono ?_
  rintro e5 w5 hN5
  obtain ⟨xG0, cG0, rfl, hOG0, hb5⟩ := hN5.toldT HNN0.out
  clear hN5
  have G0 := Lib.hid (hOG0.base (b' := w4.heap.size) (by first | exact Nat.le_refl _ | (simp; done) | (simp; omega)))
  clear hOG0
  have hz5 := hb5.size
  try simp at hz5
  have ha5 : Below w.heap.size w w5 := below_call (by repeat (first | exact Below.refl _ _ | assumption | refine Below.drew ?_ | refine below_drewN ?_ _ | refine Below.alloc ?_ (by first | omega | (simp; done) | (simp; omega)) _ | refine Below.setCell ?_ (by first | omega | (simp; done) | (simp; omega)) _)) hb5
  replace W0 := Lib.hid (OwnTS.below (by first | exact W0.out | exact W0.out.alloc _ | exact (W0.out.alloc _).alloc _) hb5)
  replace X0 := Lib.hid (OwnTS.below (by first | exact X0.out | exact X0.out.alloc _ | exact (X0.out.alloc _).alloc _) hb5)
  go_wp2_with fail
  refine (eqStringS_same _ _ _ _ _ _ _ (by first | exact G0.out.row | exact (G0.out.alloc _).row | exact ((G0.out.alloc _).alloc _).row | exact (((G0.out.alloc _).alloc _).alloc _).row) (by first | exact W0.out.row | exact (W0.out.alloc _).row | exact ((W0.out.alloc _).alloc _).row | exact (((W0.out.alloc _).alloc _).alloc _).row)).mono ?_
  rintro e6 w6 ⟨rfl, hb6⟩
  have hz6 := hb6.size
  try simp at hz6
  have ha6 : Below w.heap.size w w6 := below_call (by repeat (first | exact Below.refl _ _ | assumption | refine Below.drew ?_ | refine below_drewN ?_ _ | refine Below.alloc ?_ (by first | omega | (simp; done) | (simp; omega)) _ | refine Below.setCell ?_ (by first | omega | (simp; done) | (simp; omega)) _)) hb6
  replace W0 := Lib.hid (OwnTS.below (by first | exact W0.out | exact W0.out.alloc _ | exact (W0.out.alloc _).alloc _) hb6)
  replace X0 := Lib.hid (OwnTS.below (by first | exact X0.out | exact X0.out.alloc _ | exact (X0.out.alloc _).alloc _) hb6)
  replace G0 := Lib.hid (OwnTS.below (by first | exact G0.out | exact G0.out.alloc _ | exact (G0.out.alloc _).alloc _) hb6)
  go_wp2_with fail
  refine (toTS _ _ _ _ _ (HZ0.out.below (by repeat (first | exact Below.refl _ _ | assumption | refine Below.drew ?_ | refine below_drewN ?_ _ | refine Below.alloc ?_ (by first | omega | (simp; done) | (simp; omega)) _ | refine Below.setCell ?_ (by first | omega | (simp; done) | (simp; omega)) _))) hlen0).mono ?_
  rintro e7 w7 ⟨xY0, cY0, rfl, hO7, hb7⟩
  have Y0 := Lib.hid (hO7.base (b' := w6.heap.size) (by first | exact Nat.le_refl _ | (simp; done) | (simp; omega)))
  clear hO7
  have hz7 := hb7.size
  try simp at hz7
  have ha7 : Below w.heap.size w w7 := below_call (by repeat (first | exact Below.refl _ _ | assumption | refine Below.drew ?_ | refine below_drewN ?_ _ | refine Below.alloc ?_ (by first | omega | (simp; done) | (simp; omega)) _ | refine Below.setCell ?_ (by first | omega | (simp; done) | (simp; omega)) _)) hb7
  replace W0 := Lib.hid (OwnTS.below (by first | exact W0.out | exact W0.out.alloc _ | exact (W0.out.alloc _).alloc _) hb7)
  replace X0 := Lib.hid (OwnTS.below (by first | exact X0.out | exact X0.out.alloc _ | exact (X0.out.alloc _).alloc _) hb7)
  replace G0 := Lib.hid (OwnTS.below (by first | exact G0.out | exact G0.out.alloc _ | exact (G0.out.alloc _).alloc _) hb7)
  go_wp2_with fail
  refine (eqStringS_same _ _ _ _ _ _ _ (by first | exact X0.out.row | exact (X0.out.alloc _).row | exact ((X0.out.alloc _).alloc _).row | exact (((X0.out.alloc _).alloc _).alloc _).row) (by first | exact Y0.out.row | exact (Y0.out.alloc _).row | exact ((Y0.out.alloc _).alloc _).row | exact (((Y0.out.alloc _).alloc _).alloc _).row)).mono ?_
  rintro e8 w8 ⟨rfl, hb8⟩
  have hz8 := hb8.size
  try simp at hz8
  have ha8 : Below w.heap.size w w8 := below_call (by repeat (first | exact Below.refl _ _ | assumption | refine Below.drew ?_ | refine below_drewN ?_ _ | refine Below.alloc ?_ (by first | omega | (simp; done) | (simp; omega)) _ | refine Below.setCell ?_ (by first | omega | (simp; done) | (simp; omega)) _)) hb8
  replace W0 := Lib.hid (OwnTS.below (by first | exact W0.out | exact W0.out.alloc _ | exact (W0.out.alloc _).alloc _) hb8)
  replace X0 := Lib.hid (OwnTS.below (by first | exact X0.out | exact X0.out.alloc _ | exact (X0.out.alloc _).alloc _) hb8)
  replace G0 := Lib.hid (OwnTS.below (by first | exact G0.out | exact G0.out.alloc _ | exact (G0.out.alloc _).alloc _) hb8)
  replace Y0 := Lib.hid (OwnTS.below (by first | exact Y0.out | exact Y0.out.alloc _ | exact (Y0.out.alloc _).alloc _) hb8)
  clear Y0
  go_wp2_with fail
  refine (markTS _ _ _ _ _ _ _ X0.out (by omega)).mono ?_
  rintro e9 w9 ⟨rfl, hO9, hU9⟩
  have ha9 : Below w.heap.size w w9 := below_outs (by repeat (first | exact Below.refl _ _ | assumption | refine Below.drew ?_ | refine below_drewN ?_ _ | refine Below.alloc ?_ (by first | omega | (simp; done) | (simp; omega)) _ | refine Below.setCell ?_ (by first | omega | (simp; done) | (simp; omega)) _)) (by omega) hU9
  have hz9 := hU9.size
  replace W0 := Lib.hid (OwnTS.outs W0.out hU9 (by omega))
  replace G0 := Lib.hid (OwnTS.outs G0.out hU9 (by omega))
  replace X0 := Lib.hid hO9
  clear hO9 hU9
  clear X0
  go_wp2_with fail
  refine (eqStringS_same _ _ _ _ _ _ _ (by first | exact G0.out.row | exact (G0.out.alloc _).row | exact ((G0.out.alloc _).alloc _).row | exact (((G0.out.alloc _).alloc _).alloc _).row) (by first | exact W0.out.row | exact (W0.out.alloc _).row | exact ((W0.out.alloc _).alloc _).row | exact (((W0.out.alloc _).alloc _).alloc _).row)).mono ?_
  rintro e10 w10 ⟨rfl, hb10⟩
  have hz10 := hb10.size
  try simp at hz10
  have ha10 : Below w.heap.size w w10 := below_call (by repeat (first | exact Below.refl _ _ | assumption | refine Below.drew ?_ | refine below_drewN ?_ _ | refine Below.alloc ?_ (by first | omega | (simp; done) | (simp; omega)) _ | refine Below.setCell ?_ (by first | omega | (simp; done) | (simp; omega)) _)) hb10
  replace W0 := Lib.hid (OwnTS.below (by first | exact W0.out | exact W0.out.alloc _ | exact (W0.out.alloc _).alloc _) hb10)
  replace G0 := Lib.hid (OwnTS.below (by first | exact G0.out | exact G0.out.alloc _ | exact (G0.out.alloc _).alloc _) hb10)
  go_wp2_with fail
  refine (markTS _ _ _ _ _ _ _ G0.out (by omega)).mono ?_
  rintro e11 w11 ⟨rfl, hO11, hU11⟩
  have ha11 : Below w.heap.size w w11 := below_outs (by repeat (first | exact Below.refl _ _ | assumption | refine Below.drew ?_ | refine below_drewN ?_ _ | refine Below.alloc ?_ (by first | omega | (simp; done) | (simp; omega)) _ | refine Below.setCell ?_ (by first | omega | (simp; done) | (simp; omega)) _)) (by omega) hU11
  have hz11 := hU11.size
  replace W0 := Lib.hid (OwnTS.outs W0.out hU11 (by omega))
  replace G0 := Lib.hid hO11
  clear hO11 hU11
  go_wp2_with fail
  refine (heldTS _ _ _ _ (by first | exact G0.out.row | exact (G0.out.alloc _).row) (by omega)).mono ?_
  rintro e12 w12 ⟨rfl, hb12⟩
  have hz12 := hb12.size
  try simp at hz12
  have ha12 : Below w.heap.size w w12 := below_call (by repeat (first | exact Below.refl _ _ | assumption | refine Below.drew ?_ | refine below_drewN ?_ _ | refine Below.alloc ?_ (by first | omega | (simp; done) | (simp; omega)) _ | refine Below.setCell ?_ (by first | omega | (simp; done) | (simp; omega)) _)) hb12
  replace W0 := Lib.hid (OwnTS.below (by first | exact W0.out | exact W0.out.alloc _ | exact (W0.out.alloc _).alloc _) hb12)
  replace G0 := Lib.hid (OwnTS.below (by first | exact G0.out | exact G0.out.alloc _ | exact (G0.out.alloc _).alloc _) hb12)
  go_wp2_with fail
  refine (toTS _ _ _ _ _ (HZ0.out.below (by repeat (first | exact Below.refl _ _ | assumption | refine Below.drew ?_ | refine below_drewN ?_ _ | refine Below.alloc ?_ (by first | omega | (simp; done) | (simp; omega)) _ | refine Below.setCell ?_ (by first | omega | (simp; done) | (simp; omega)) _))) hlen0).mono ?_
  rintro e13 w13 ⟨xB0, cB0, rfl, hO13, hb13⟩
  have B0 := Lib.hid (hO13.base (b' := w12.heap.size) (by first | exact Nat.le_refl _ | (simp; done) | (simp; omega)))
  clear hO13
  have hz13 := hb13.size
  try simp at hz13
  have ha13 : Below w.heap.size w w13 := below_call (by repeat (first | exact Below.refl _ _ | assumption | refine Below.drew ?_ | refine below_drewN ?_ _ | refine Below.alloc ?_ (by first | omega | (simp; done) | (simp; omega)) _ | refine Below.setCell ?_ (by first | omega | (simp; done) | (simp; omega)) _)) hb13
  replace W0 := Lib.hid (OwnTS.below (by first | exact W0.out | exact W0.out.alloc _ | exact (W0.out.alloc _).alloc _) hb13)
  replace G0 := Lib.hid (OwnTS.below (by first | exact G0.out | exact G0.out.alloc _ | exact (G0.out.alloc _).alloc _) hb13)
  go_wp2_with fail
  refine (HI.out _ _ _ (by first | exact B0.out.row | exact (B0.out.alloc _).row | exact ((B0.out.alloc _).alloc _).row | exact (((B0.out.alloc _).alloc _).alloc _).row)).mono ?_
  rintro e14 w14 hN14
  obtain ⟨xH0, cH0, rfl, hOH0, hb14⟩ := hN14.toldT HNN0.out
  clear hN14
  have H0 := Lib.hid (hOH0.base (b' := w13.heap.size) (by first | exact Nat.le_refl _ | (simp; done) | (simp; omega)))
  clear hOH0
  have hz14 := hb14.size
  try simp at hz14
  have ha14 : Below w.heap.size w w14 := below_call (by repeat (first | exact Below.refl _ _ | assumption | refine Below.drew ?_ | refine below_drewN ?_ _ | refine Below.alloc ?_ (by first | omega | (simp; done) | (simp; omega)) _ | refine Below.setCell ?_ (by first | omega | (simp; done) | (simp; omega)) _)) hb14
  replace W0 := Lib.hid (OwnTS.below (by first | exact W0.out | exact W0.out.alloc _ | exact (W0.out.alloc _).alloc _) hb14)
  replace G0 := Lib.hid (OwnTS.below (by first | exact G0.out | exact G0.out.alloc _ | exact (G0.out.alloc _).alloc _) hb14)
  replace B0 := Lib.hid (OwnTS.below (by first | exact B0.out | exact B0.out.alloc _ | exact (B0.out.alloc _).alloc _) hb14)
  clear B0
  go_wp2_with fail
  refine (eqStringS_same _ _ _ _ _ _ _ (by first | exact H0.out.row | exact (H0.out.alloc _).row | exact ((H0.out.alloc _).alloc _).row | exact (((H0.out.alloc _).alloc _).alloc _).row) (by first | exact W0.out.row | exact (W0.out.alloc _).row | exact ((W0.out.alloc _).alloc _).row | exact (((W0.out.alloc _).alloc _).alloc _).row)).mono ?_
  rintro e15 w15 ⟨rfl, hb15⟩
  have hz15 := hb15.size
  try simp at hz15
  have ha15 : Below w.heap.size w w15 := below_call (by repeat (first | exact Below.refl _ _ | assumption | refine Below.drew ?_ | refine below_drewN ?_ _ | refine Below.alloc ?_ (by first | omega | (simp; done) | (simp; omega)) _ | refine Below.setCell ?_ (by first | omega | (simp; done) | (simp; omega)) _)) hb15
  replace W0 := Lib.hid (OwnTS.below (by first | exact W0.out | exact W0.out.alloc _ | exact (W0.out.alloc _).alloc _) hb15)
  replace G0 := Lib.hid (OwnTS.below (by first | exact G0.out | exact G0.out.alloc _ | exact (G0.out.alloc _).alloc _) hb15)
  replace H0 := Lib.hid (OwnTS.below (by first | exact H0.out | exact H0.out.alloc _ | exact (H0.out.alloc _).alloc _) hb15)
  go_wp2_with fail
  refine (heldTS _ _ _ _ (by first | exact G0.out.row | exact (G0.out.alloc _).row) (by omega)).mono ?_
  rintro e16 w16 ⟨rfl, hb16⟩
  have hz16 := hb16.size
  try simp at hz16
  have ha16 : Below w.heap.size w w16 := below_call (by repeat (first | exact Below.refl _ _ | assumption | refine Below.drew ?_ | refine below_drewN ?_ _ | refine Below.alloc ?_ (by first | omega | (simp; done) | (simp; omega)) _ | refine Below.setCell ?_ (by first | omega | (simp; done) | (simp; omega)) _)) hb16
  replace W0 := Lib.hid (OwnTS.below (by first | exact W0.out | exact W0.out.alloc _ | exact (W0.out.alloc _).alloc _) hb16)
  replace G0 := Lib.hid (OwnTS.below (by first | exact G0.out | exact G0.out.alloc _ | exact (G0.out.alloc _).alloc _) hb16)
  replace H0 := Lib.hid (OwnTS.below (by first | exact H0.out | exact H0.out.alloc _ | exact (H0.out.alloc _).alloc _) hb16)
  go_wp2
  go_ret
  exact ⟨rfl, (by repeat (first | exact Below.refl _ _ | assumption | refine Below.drew ?_ | refine below_drewN ?_ _ | refine Below.alloc ?_ (by first | omega | (simp; done) | (simp; omega)) _ | refine Below.setCell ?_ (by first | omega | (simp; done) | (simp; omega)) _))⟩
/-! ### The row's step: the arguments are opened, the walk is called, the arguments read as before. -/
set_option maxRecDepth 100000 in
set_option maxHeartbeats 1000000 in
set_option linter.unusedVariables false in
theorem lifted_FnExactRepeatTile (os : Os) (started : os.Started) (H : Type) (enc : TypeId × Value → H) :
    ReturnsInHanded {} Try.checked os 14 .any (Rows.fnExactRepeatTileSpec.pre6 enc Try.prog Try.f14 Rows.fnExactRepeatTileRow.domain false) (Rows.fnExactRepeatTileSpec.post enc Try.prog Try.f14 false true false false) := by
  refine returnsInHanded_of_change (C := Try.checked) ownNone started (by kernel_rfl) Try.func14
    (ChangeSpec.witness6 (enc := enc) (C := Try.checked) false ⟨#[], #[.slice none 0 0, .int .i64 0, .int .i64 0], []⟩ 8 (by kernel_rfl) (by kernel_rfl) (by kernel_rfl) (by kernel_rfl)) ?_
  intro W base args ds gs before hval0 hW hcnd _
  have hval : ∀ (j : Nat) t v, Try.f14.params[j]? = some t → args[j]? = some v → Value.okWide Try.prog W .any base t v := hval0
  have hW' := hW
  obtain ⟨p, q, hA0, hV, rfl, hfz, hnd⟩ := hW
  have hA : DataW.TrodAll enc Try.prog W 0 (fun _ => true) true Try.f14.params.toList args.toList ds p := hA0
  rw [Try.params14] at hA hval
  obtain ⟨v0, vs0, d0, ds0, p0, q0, hargs, rfl, rfl, h0, r0⟩ := trodAll_cons hA
  obtain ⟨v1, vs1, d1, ds1, p1, q1, rfl, rfl, rfl, h1, r1⟩ := trodAll_cons r0
  obtain ⟨v2, vs2, d2, ds2, p2, q2, rfl, rfl, rfl, h2, r2⟩ := trodAll_cons r1
  obtain ⟨rfl, rfl, rfl⟩ := trodAll_nil r2
  obtain rfl : args = #[v0, v1, v2] := by cases args; simp_all
  obtain ⟨rfl, rfl⟩ := trodVars_none hV
  have k0 := h0
  have lt0 : ∀ x ∈ p0, x.block < W.heap.size := by obtain ⟨m, hm⟩ := k0; exact DataW.trod_lt m _ _ _ hm
  obtain ⟨a0, len0, cap0, rfl⟩ := okWide_slice Try.underlying22 (hval 0 22 v0 rfl rfl)
  obtain ⟨z0, w0⟩ : ∃ zs, IsStrs W a0 len0 cap0 zs := by
    obtain ⟨fuel, hf⟩ := h0
    rcases open_strings Try.underlying22 Try.underlying9 (by kernel_rfl) hf with ⟨hcs, _⟩ | ⟨x, l, c, zs, hcs, _, hl, hm, hz, _, hcell, hwz⟩
    · simp [Value.cells] at hcs
      obtain ⟨rfl, rfl, rfl⟩ := hcs
      exact ⟨[], isStrs_nil⟩
    · simp [Value.cells] at hcs
      obtain ⟨rfl, rfl, rfl⟩ := hcs
      exact ⟨zs.take len0, isStrs_mk hl hm (m := zs.length) rfl (by have : zs.length = _ := hz; split at this <;> omega) hcell hwz⟩
  obtain ⟨a1, rfl, rfl, rfl, w1⟩ := open_int Try.underlying2 (hval 1 2 v1 rfl rfl) h1
  obtain ⟨a2, rfl, rfl, rfl, w2⟩ := open_int Try.underlying2 (hval 2 2 v2 rfl rfl) h2
  clear hA0 hval0
  refine (exactRepeatTile_walk a0 len0 cap0 z0 a1 (bounds_i64 w1).1 (bounds_i64 w1).2 a2 (bounds_i64 w2).1 (bounds_i64 w2).2 W w0).mono fun e W' ⟨he, bel⟩ => ?_
  subst he
  exact ⟨_, rfl, _, _, _, [], _, [], hW', trodAll_mk1 (shut_bool Try.underlying4 _), (trodAll_cons_mk (Below.trod laidOut (by kernel_rfl) (of_decide_eq_true (by kernel_rfl)) k0 bel lt0) (trodAll_cons_mk (shut_int Try.underlying2 w1) (trodAll_cons_mk (shut_int Try.underlying2 w2) trodAll_mk0))), rfl, bel.frame _, fun h => by cases h⟩

/-- The statement, proved. -/
theorem fnExactRepeatTile_holds : Rows.FnExactRepeatTileSaid :=
  OpenClaim.holds_of_wide 14 Try.f14 rfl rfl rfl rfl rfl rfl rfl ⟨rfl, rfl, rfl, rfl, rfl⟩ rfl rfl rfl rfl rfl (by kernel_rfl) Try.func14 (by kernel_rfl)
    (of_decide_eq_true (by kernel_rfl)) (by unfold Func.isWrapper; first | (rw [if_pos (by decide +kernel)]; kernel_rfl) | (rw [if_neg (by decide +kernel)]; exact ⟨rfl, rfl⟩))
    (fun os started H enc _ => lifted_FnExactRepeatTile os started H enc)
end Go.Proofs.Ytlkdkidpbjpkhaa
