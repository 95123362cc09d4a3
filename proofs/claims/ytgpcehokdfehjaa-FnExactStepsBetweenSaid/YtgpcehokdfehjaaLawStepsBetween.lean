/- For all arguments, the program's StepsBetween returns what the reference's StepsBetween returns, in new memory (the statement FnExactStepsBetween); no condition. -/
import Derived.Test.YtgpcehokdfehjaaSteps
namespace Go.Proofs.Ytgpcehokdfehjaa
open Go.ChangeShapes Go.WideShapes Go.ChangeAt Go.RowKit
set_option maxHeartbeats 4000000 in
set_option linter.unusedVariables false in
theorem exactStepsBetween_walk (a0_0 : Int) (l0_0 : -9223372036854775808 ≤ a0_0) (u0_0 : a0_0 ≤ 9223372036854775807) (a0_1 : Int) (l0_1 : -9223372036854775808 ≤ a0_1) (u0_1 : a0_1 ≤ 9223372036854775807) (a0_2 : Int) (l0_2 : -9223372036854775808 ≤ a0_2) (u0_2 : a0_2 ≤ 9223372036854775807) (a0_3 : Int) (l0_3 : -9223372036854775808 ≤ a0_3) (u0_3 : a0_3 ≤ 9223372036854775807) (a1 : Int) (l1 : -9223372036854775808 ≤ a1) (u1 : a1 ≤ 9223372036854775807) (a2 : Option Addr) (len2 cap2 : Nat) (z2 : List Int) (w : World) (hz : IsRow .i64 w a2 len2 cap2 z2) :
    Calls Try.prog 6 #[.agg #[.int .i64 a0_0, .int .i64 a0_1, .int .i64 a0_2, .int .i64 a0_3], .int .i64 a1, .slice a2 len2 cap2] w fun e w' => e = .returned (.bool true) ∧ Below w.heap.size w w' := by
  by_cases hbig : 1048576 < len2
  · have hbig' : (1048576 : Int) < (len2 : Int) := by omega
    clear hz
    go_enter Try.func6, Try.ntmps6
    go_wp2
    go_ret
    exact ⟨rfl, (by repeat (first | exact Below.refl _ _ | assumption | refine Below.drew ?_ | refine below_drewN ?_ _ | refine Below.alloc ?_ (by first | omega | (simp; done) | (simp; omega)) _ | refine Below.setCell ?_ (by first | omega | (simp; done) | (simp; omega)) _))⟩
  have hlen : len2 ≤ 1048576 := by omega
  have hlen' : ¬ (1048576 : Int) < (len2 : Int) := by omega
  clear hbig
  have HS := Lib.hid fun a l c w => (specStepsBetween_any a0_0 a0_1 a0_2 a0_3 a1 a l c z2 w)
  have HI := Lib.hid fun a l c w => (stepsBetween_any a0_0 a0_1 a0_2 a0_3 a1 a l c z2 w)
  have HZ := Lib.hid hz
  clear hz
  have hle := stpI_len a0_0 a0_1 a0_2 a0_3 a1 z2
  generalize stpI a0_0 a0_1 a0_2 a0_3 a1 z2 = Z at *
  generalize stpC a0_0 a0_1 a0_2 a0_3 a1 z2 = C at *
  obtain ⟨n, hn⟩ : ∃ n, Z.length = n := ⟨_, rfl⟩
  rw [hn] at hle
  have HN := Lib.hid hn
  clear hn
  have hm0 : ¬ (1 + (n : Int) < 0) := by omega
  have hm1 : ¬ (1 + (len2 : Int) < 0) := by omega
  go_enter Try.func6, Try.ntmps6
  go_wp2_with fail
  refine (toFormat_any _ _ _ _ _).mono ?_
  rintro e1 w1 ⟨rfl, hb1⟩
  have hz1 := hb1.size
  try simp at hz1
  have ha1 : Below w.heap.size w w1 := below_call (by repeat (first | exact Below.refl _ _ | assumption | refine Below.drew ?_ | refine below_drewN ?_ _ | refine Below.alloc ?_ (by first | omega | (simp; done) | (simp; omega)) _ | refine Below.setCell ?_ (by first | omega | (simp; done) | (simp; omega)) _)) hb1
  have f0_0 : w1.cell? ⟨w.heap.size, 0, none⟩ = some (.int .i64 a0_0) := by rw [(bcell hb1).1 _ _ (by first | omega | (simp; done) | (simp; omega))]; simp [go_sem]
  have f0_1 : w1.cell? ⟨w.heap.size, 1, none⟩ = some (.int .i64 a0_1) := by rw [(bcell hb1).1 _ _ (by first | omega | (simp; done) | (simp; omega))]; simp [go_sem]
  have f0_2 : w1.cell? ⟨w.heap.size, 2, none⟩ = some (.int .i64 a0_2) := by rw [(bcell hb1).1 _ _ (by first | omega | (simp; done) | (simp; omega))]; simp [go_sem]
  have f0_3 : w1.cell? ⟨w.heap.size, 3, none⟩ = some (.int .i64 a0_3) := by rw [(bcell hb1).1 _ _ (by first | omega | (simp; done) | (simp; omega))]; simp [go_sem]
  go_wp2_with fail
  refine (toInt64S_own _ _ _ _ _ (HZ.out.below (by repeat (first | exact Below.refl _ _ | assumption | refine Below.drew ?_ | refine below_drewN ?_ _ | refine Below.alloc ?_ (by first | omega | (simp; done) | (simp; omega)) _ | refine Below.setCell ?_ (by first | omega | (simp; done) | (simp; omega)) _))) hlen).mono ?_
  rintro e2 w2 ⟨rfl, hO2, hb2⟩
  have X1 := Lib.hid hO2
  clear hO2
  have hz2 := hb2.size
  try simp at hz2
  have ha2 : Below w.heap.size w w2 := below_call (by repeat (first | exact Below.refl _ _ | assumption | refine Below.drew ?_ | refine below_drewN ?_ _ | refine Below.alloc ?_ (by first | omega | (simp; done) | (simp; omega)) _ | refine Below.setCell ?_ (by first | omega | (simp; done) | (simp; omega)) _)) hb2
  replace f0_0 := keep1 hb2 f0_0
  replace f0_1 := keep1 hb2 f0_1
  replace f0_2 := keep1 hb2 f0_2
  replace f0_3 := keep1 hb2 f0_3
  go_wp2_with fail
  refine (HS.out _ _ _ _ X1.out.row).mono ?_
  rintro e3 w3 hN3
  obtain ⟨aW0, cW0, rfl, hO3, hb3⟩ := hN3.told HN.out
  clear hN3
  have W0 := Lib.hid hO3
  clear hO3
  have X1_old := X1
  have hz3 := hb3.size
  try simp at hz3
  have ha3 : Below w.heap.size w w3 := below_call (by repeat (first | exact Below.refl _ _ | assumption | refine Below.drew ?_ | refine below_drewN ?_ _ | refine Below.alloc ?_ (by first | omega | (simp; done) | (simp; omega)) _ | refine Below.setCell ?_ (by first | omega | (simp; done) | (simp; omega)) _)) hb3
  replace f0_0 := keep1 hb3 f0_0
  replace f0_1 := keep1 hb3 f0_1
  replace f0_2 := keep1 hb3 f0_2
  replace f0_3 := keep1 hb3 f0_3
  replace X1 := Lib.hid (X1.out.below hb3)
  have NE_X1_W0 := Lib.hid (X1_old.out.apart W0.out (Nat.le_refl _))
  go_wp2_with fail
  refine (toInt64S_own _ _ _ _ _ (HZ.out.below (by repeat (first | exact Below.refl _ _ | assumption | refine Below.drew ?_ | refine below_drewN ?_ _ | refine Below.alloc ?_ (by first | omega | (simp; done) | (simp; omega)) _ | refine Below.setCell ?_ (by first | omega | (simp; done) | (simp; omega)) _))) hlen).mono ?_
  rintro e4 w4 ⟨rfl, hO4, hb4⟩
  have X2 := Lib.hid hO4
  clear hO4
  have X1_old := X1
  have W0_old := W0
  have hz4 := hb4.size
  try simp at hz4
  have ha4 : Below w.heap.size w w4 := below_call (by repeat (first | exact Below.refl _ _ | assumption | refine Below.drew ?_ | refine below_drewN ?_ _ | refine Below.alloc ?_ (by first | omega | (simp; done) | (simp; omega)) _ | refine Below.setCell ?_ (by first | omega | (simp; done) | (simp; omega)) _)) hb4
  replace f0_0 := keep1 hb4 f0_0
  replace f0_1 := keep1 hb4 f0_1
  replace f0_2 := keep1 hb4 f0_2
  replace f0_3 := keep1 hb4 f0_3
  replace X1 := Lib.hid (X1.out.below hb4)
  replace W0 := Lib.hid (W0.out.below hb4)
  have NE_X1_X2 := Lib.hid (X1_old.out.apart X2.out (Nat.le_refl _))
  have NE_W0_X2 := Lib.hid (W0_old.out.apart X2.out (Nat.le_refl _))
  go_wp2_with fail
  refine (toFormat_any _ _ _ _ _).mono ?_
  rintro e5 w5 ⟨rfl, hb5⟩
  have hz5 := hb5.size
  try simp at hz5
  have ha5 : Below w.heap.size w w5 := below_call (by repeat (first | exact Below.refl _ _ | assumption | refine Below.drew ?_ | refine below_drewN ?_ _ | refine Below.alloc ?_ (by first | omega | (simp; done) | (simp; omega)) _ | refine Below.setCell ?_ (by first | omega | (simp; done) | (simp; omega)) _)) hb5
  replace f0_0 := keep1 hb5 f0_0
  replace f0_1 := keep1 hb5 f0_1
  replace f0_2 := keep1 hb5 f0_2
  replace f0_3 := keep1 hb5 f0_3
  replace X1 := Lib.hid (X1.out.below hb5)
  replace W0 := Lib.hid (W0.out.below hb5)
  replace X2 := Lib.hid (X2.out.below hb5)
  go_wp2_with fail
  refine (HI.out _ _ _ _ X2.out.row).mono ?_
  rintro e6 w6 hN6
  obtain ⟨aG0, cG0, rfl, hO6, hb6⟩ := hN6.told HN.out
  clear hN6
  have G0 := Lib.hid hO6
  clear hO6
  have X1_old := X1
  have W0_old := W0
  have X2_old := X2
  have hz6 := hb6.size
  try simp at hz6
  have ha6 : Below w.heap.size w w6 := below_call (by repeat (first | exact Below.refl _ _ | assumption | refine Below.drew ?_ | refine below_drewN ?_ _ | refine Below.alloc ?_ (by first | omega | (simp; done) | (simp; omega)) _ | refine Below.setCell ?_ (by first | omega | (simp; done) | (simp; omega)) _)) hb6
  replace f0_0 := keep1 hb6 f0_0
  replace f0_1 := keep1 hb6 f0_1
  replace f0_2 := keep1 hb6 f0_2
  replace f0_3 := keep1 hb6 f0_3
  replace X1 := Lib.hid (X1.out.below hb6)
  replace W0 := Lib.hid (W0.out.below hb6)
  replace X2 := Lib.hid (X2.out.below hb6)
  have NE_X1_G0 := Lib.hid (X1_old.out.apart G0.out (Nat.le_refl _))
  have NE_W0_G0 := Lib.hid (W0_old.out.apart G0.out (Nat.le_refl _))
  have NE_X2_G0 := Lib.hid (X2_old.out.apart G0.out (Nat.le_refl _))
  go_wp2_with fail
  refine (eqInt64S_same _ _ _ _ _ _ _ G0.out.row W0.out.row).mono ?_
  rintro e7 w7 ⟨rfl, hb7⟩
  have hz7 := hb7.size
  try simp at hz7
  have ha7 : Below w.heap.size w w7 := below_call (by repeat (first | exact Below.refl _ _ | assumption | refine Below.drew ?_ | refine below_drewN ?_ _ | refine Below.alloc ?_ (by first | omega | (simp; done) | (simp; omega)) _ | refine Below.setCell ?_ (by first | omega | (simp; done) | (simp; omega)) _)) hb7
  replace f0_0 := keep1 hb7 f0_0
  replace f0_1 := keep1 hb7 f0_1
  replace f0_2 := keep1 hb7 f0_2
  replace f0_3 := keep1 hb7 f0_3
  replace X1 := Lib.hid (X1.out.below hb7)
  replace W0 := Lib.hid (W0.out.below hb7)
  replace X2 := Lib.hid (X2.out.below hb7)
  replace G0 := Lib.hid (G0.out.below hb7)
  go_wp2_with fail
  refine (toInt64S_own _ _ _ _ _ (HZ.out.below (by repeat (first | exact Below.refl _ _ | assumption | refine Below.drew ?_ | refine below_drewN ?_ _ | refine Below.alloc ?_ (by first | omega | (simp; done) | (simp; omega)) _ | refine Below.setCell ?_ (by first | omega | (simp; done) | (simp; omega)) _))) hlen).mono ?_
  rintro e8 w8 ⟨rfl, hO8, hb8⟩
  have X3 := Lib.hid hO8
  clear hO8
  have X1_old := X1
  have W0_old := W0
  have X2_old := X2
  have G0_old := G0
  have hz8 := hb8.size
  try simp at hz8
  have ha8 : Below w.heap.size w w8 := below_call (by repeat (first | exact Below.refl _ _ | assumption | refine Below.drew ?_ | refine below_drewN ?_ _ | refine Below.alloc ?_ (by first | omega | (simp; done) | (simp; omega)) _ | refine Below.setCell ?_ (by first | omega | (simp; done) | (simp; omega)) _)) hb8
  replace f0_0 := keep1 hb8 f0_0
  replace f0_1 := keep1 hb8 f0_1
  replace f0_2 := keep1 hb8 f0_2
  replace f0_3 := keep1 hb8 f0_3
  replace X1 := Lib.hid (X1.out.below hb8)
  replace W0 := Lib.hid (W0.out.below hb8)
  replace X2 := Lib.hid (X2.out.below hb8)
  replace G0 := Lib.hid (G0.out.below hb8)
  have NE_X1_X3 := Lib.hid (X1_old.out.apart X3.out (Nat.le_refl _))
  have NE_W0_X3 := Lib.hid (W0_old.out.apart X3.out (Nat.le_refl _))
  have NE_X2_X3 := Lib.hid (X2_old.out.apart X3.out (Nat.le_refl _))
  have NE_G0_X3 := Lib.hid (G0_old.out.apart X3.out (Nat.le_refl _))
  go_wp2_with fail
  refine (eqInt64S_same _ _ _ _ _ _ _ X2.out.row X3.out.row).mono ?_
  rintro e9 w9 ⟨rfl, hb9⟩
  have hz9 := hb9.size
  try simp at hz9
  have ha9 : Below w.heap.size w w9 := below_call (by repeat (first | exact Below.refl _ _ | assumption | refine Below.drew ?_ | refine below_drewN ?_ _ | refine Below.alloc ?_ (by first | omega | (simp; done) | (simp; omega)) _ | refine Below.setCell ?_ (by first | omega | (simp; done) | (simp; omega)) _)) hb9
  replace f0_0 := keep1 hb9 f0_0
  replace f0_1 := keep1 hb9 f0_1
  replace f0_2 := keep1 hb9 f0_2
  replace f0_3 := keep1 hb9 f0_3
  replace X1 := Lib.hid (X1.out.below hb9)
  replace W0 := Lib.hid (W0.out.below hb9)
  replace X2 := Lib.hid (X2.out.below hb9)
  replace G0 := Lib.hid (G0.out.below hb9)
  replace X3 := Lib.hid (X3.out.below hb9)
  go_wp2_with fail
  refine (markInt64S_any _ _ _ _ _ _ _ X2.out (by omega) (by omega) (by omega)).mono ?_
  rintro e10 w10 ⟨rfl, hO10, hG10⟩
  have ha10 : Below w.heap.size w w10 := below_mark (by repeat (first | exact Below.refl _ _ | assumption | refine Below.drew ?_ | refine below_drewN ?_ _ | refine Below.alloc ?_ (by first | omega | (simp; done) | (simp; omega)) _ | refine Below.setCell ?_ (by first | omega | (simp; done) | (simp; omega)) _)) (by omega) X2.out hG10
  have hz10 := hG10.size
  replace f0_0 := keepM X2.out hG10 (by omega) f0_0
  replace f0_1 := keepM X2.out hG10 (by omega) f0_1
  replace f0_2 := keepM X2.out hG10 (by omega) f0_2
  replace f0_3 := keepM X2.out hG10 (by omega) f0_3
  replace X1 := Lib.hid (OwnI.keptM X1.out hG10 NE_X1_X2.out.1)
  replace W0 := Lib.hid (OwnI.keptM W0.out hG10 NE_W0_X2.out.1)
  replace G0 := Lib.hid (OwnI.keptM G0.out hG10 NE_X2_G0.out.2)
  replace X3 := Lib.hid (OwnI.keptM X3.out hG10 NE_X2_X3.out.2)
  replace X2 := Lib.hid hO10
  clear hO10 hG10
  go_wp2_with fail
  refine (eqInt64S_same _ _ _ _ _ _ _ G0.out.row W0.out.row).mono ?_
  rintro e11 w11 ⟨rfl, hb11⟩
  have hz11 := hb11.size
  try simp at hz11
  have ha11 : Below w.heap.size w w11 := below_call (by repeat (first | exact Below.refl _ _ | assumption | refine Below.drew ?_ | refine below_drewN ?_ _ | refine Below.alloc ?_ (by first | omega | (simp; done) | (simp; omega)) _ | refine Below.setCell ?_ (by first | omega | (simp; done) | (simp; omega)) _)) hb11
  replace f0_0 := keep1 hb11 f0_0
  replace f0_1 := keep1 hb11 f0_1
  replace f0_2 := keep1 hb11 f0_2
  replace f0_3 := keep1 hb11 f0_3
  replace X1 := Lib.hid (X1.out.below hb11)
  replace W0 := Lib.hid (W0.out.below hb11)
  replace X2 := Lib.hid (X2.out.below hb11)
  replace G0 := Lib.hid (G0.out.below hb11)
  replace X3 := Lib.hid (X3.out.below hb11)
  go_wp2_with fail
  refine (markInt64S_any _ _ _ _ _ _ _ G0.out (by omega) (by omega) (by omega)).mono ?_
  rintro e12 w12 ⟨rfl, hO12, hG12⟩
  have ha12 : Below w.heap.size w w12 := below_mark (by repeat (first | exact Below.refl _ _ | assumption | refine Below.drew ?_ | refine below_drewN ?_ _ | refine Below.alloc ?_ (by first | omega | (simp; done) | (simp; omega)) _ | refine Below.setCell ?_ (by first | omega | (simp; done) | (simp; omega)) _)) (by omega) G0.out hG12
  have hz12 := hG12.size
  replace f0_0 := keepM G0.out hG12 (by omega) f0_0
  replace f0_1 := keepM G0.out hG12 (by omega) f0_1
  replace f0_2 := keepM G0.out hG12 (by omega) f0_2
  replace f0_3 := keepM G0.out hG12 (by omega) f0_3
  replace X1 := Lib.hid (OwnI.keptM X1.out hG12 NE_X1_G0.out.1)
  replace W0 := Lib.hid (OwnI.keptM W0.out hG12 NE_W0_G0.out.1)
  replace X2 := Lib.hid (OwnI.keptM X2.out hG12 NE_X2_G0.out.1)
  replace X3 := Lib.hid (OwnI.keptM X3.out hG12 NE_G0_X3.out.2)
  replace G0 := Lib.hid hO12
  clear hO12 hG12
  go_wp2_with fail
  refine (heldInt64S_any _ _ _ _ _ G0.out.row (by omega) (by omega) (by omega)).mono ?_
  rintro e13 v13 ⟨rfl, rfl⟩
  go_wp2_with fail
  refine (toFormat_any _ _ _ _ _).mono ?_
  rintro e14 w14 ⟨rfl, hb14⟩
  have hz14 := hb14.size
  try simp at hz14
  have ha14 : Below w.heap.size w w14 := below_call (by repeat (first | exact Below.refl _ _ | assumption | refine Below.drew ?_ | refine below_drewN ?_ _ | refine Below.alloc ?_ (by first | omega | (simp; done) | (simp; omega)) _ | refine Below.setCell ?_ (by first | omega | (simp; done) | (simp; omega)) _)) hb14
  replace f0_0 := keep1 hb14 f0_0
  replace f0_1 := keep1 hb14 f0_1
  replace f0_2 := keep1 hb14 f0_2
  replace f0_3 := keep1 hb14 f0_3
  replace X1 := Lib.hid (X1.out.below hb14)
  replace W0 := Lib.hid (W0.out.below hb14)
  replace X2 := Lib.hid (X2.out.below hb14)
  replace G0 := Lib.hid (G0.out.below hb14)
  replace X3 := Lib.hid (X3.out.below hb14)
  go_wp2_with fail
  refine (toInt64S_own _ _ _ _ _ (HZ.out.below (by repeat (first | exact Below.refl _ _ | assumption | refine Below.drew ?_ | refine below_drewN ?_ _ | refine Below.alloc ?_ (by first | omega | (simp; done) | (simp; omega)) _ | refine Below.setCell ?_ (by first | omega | (simp; done) | (simp; omega)) _))) hlen).mono ?_
  rintro e15 w15 ⟨rfl, hO15, hb15⟩
  have X4 := Lib.hid hO15
  clear hO15
  have X1_old := X1
  have W0_old := W0
  have X2_old := X2
  have G0_old := G0
  have X3_old := X3
  have hz15 := hb15.size
  try simp at hz15
  have ha15 : Below w.heap.size w w15 := below_call (by repeat (first | exact Below.refl _ _ | assumption | refine Below.drew ?_ | refine below_drewN ?_ _ | refine Below.alloc ?_ (by first | omega | (simp; done) | (simp; omega)) _ | refine Below.setCell ?_ (by first | omega | (simp; done) | (simp; omega)) _)) hb15
  replace f0_0 := keep1 hb15 f0_0
  replace f0_1 := keep1 hb15 f0_1
  replace f0_2 := keep1 hb15 f0_2
  replace f0_3 := keep1 hb15 f0_3
  replace X1 := Lib.hid (X1.out.below hb15)
  replace W0 := Lib.hid (W0.out.below hb15)
  replace X2 := Lib.hid (X2.out.below hb15)
  replace G0 := Lib.hid (G0.out.below hb15)
  replace X3 := Lib.hid (X3.out.below hb15)
  have NE_X1_X4 := Lib.hid (X1_old.out.apart X4.out (Nat.le_refl _))
  have NE_W0_X4 := Lib.hid (W0_old.out.apart X4.out (Nat.le_refl _))
  have NE_X2_X4 := Lib.hid (X2_old.out.apart X4.out (Nat.le_refl _))
  have NE_G0_X4 := Lib.hid (G0_old.out.apart X4.out (Nat.le_refl _))
  have NE_X3_X4 := Lib.hid (X3_old.out.apart X4.out (Nat.le_refl _))
  go_wp2_with fail
  refine (HI.out _ _ _ _ X4.out.row).mono ?_
  rintro e16 w16 hN16
  obtain ⟨aH0, cH0, rfl, hO16, hb16⟩ := hN16.told HN.out
  clear hN16
  have H0 := Lib.hid hO16
  clear hO16
  have X1_old := X1
  have W0_old := W0
  have X2_old := X2
  have G0_old := G0
  have X3_old := X3
  have X4_old := X4
  have hz16 := hb16.size
  try simp at hz16
  have ha16 : Below w.heap.size w w16 := below_call (by repeat (first | exact Below.refl _ _ | assumption | refine Below.drew ?_ | refine below_drewN ?_ _ | refine Below.alloc ?_ (by first | omega | (simp; done) | (simp; omega)) _ | refine Below.setCell ?_ (by first | omega | (simp; done) | (simp; omega)) _)) hb16
  replace f0_0 := keep1 hb16 f0_0
  replace f0_1 := keep1 hb16 f0_1
  replace f0_2 := keep1 hb16 f0_2
  replace f0_3 := keep1 hb16 f0_3
  replace X1 := Lib.hid (X1.out.below hb16)
  replace W0 := Lib.hid (W0.out.below hb16)
  replace X2 := Lib.hid (X2.out.below hb16)
  replace G0 := Lib.hid (G0.out.below hb16)
  replace X3 := Lib.hid (X3.out.below hb16)
  replace X4 := Lib.hid (X4.out.below hb16)
  have NE_X1_H0 := Lib.hid (X1_old.out.apart H0.out (Nat.le_refl _))
  have NE_W0_H0 := Lib.hid (W0_old.out.apart H0.out (Nat.le_refl _))
  have NE_X2_H0 := Lib.hid (X2_old.out.apart H0.out (Nat.le_refl _))
  have NE_G0_H0 := Lib.hid (G0_old.out.apart H0.out (Nat.le_refl _))
  have NE_X3_H0 := Lib.hid (X3_old.out.apart H0.out (Nat.le_refl _))
  have NE_X4_H0 := Lib.hid (X4_old.out.apart H0.out (Nat.le_refl _))
  go_wp2_with fail
  refine (eqInt64S_same _ _ _ _ _ _ _ H0.out.row W0.out.row).mono ?_
  rintro e17 w17 ⟨rfl, hb17⟩
  have hz17 := hb17.size
  try simp at hz17
  have ha17 : Below w.heap.size w w17 := below_call (by repeat (first | exact Below.refl _ _ | assumption | refine Below.drew ?_ | refine below_drewN ?_ _ | refine Below.alloc ?_ (by first | omega | (simp; done) | (simp; omega)) _ | refine Below.setCell ?_ (by first | omega | (simp; done) | (simp; omega)) _)) hb17
  replace f0_0 := keep1 hb17 f0_0
  replace f0_1 := keep1 hb17 f0_1
  replace f0_2 := keep1 hb17 f0_2
  replace f0_3 := keep1 hb17 f0_3
  replace X1 := Lib.hid (X1.out.below hb17)
  replace W0 := Lib.hid (W0.out.below hb17)
  replace X2 := Lib.hid (X2.out.below hb17)
  replace G0 := Lib.hid (G0.out.below hb17)
  replace X3 := Lib.hid (X3.out.below hb17)
  replace X4 := Lib.hid (X4.out.below hb17)
  replace H0 := Lib.hid (H0.out.below hb17)
  go_wp2_with fail
  refine (heldInt64S_any _ _ _ _ _ G0.out.row (by omega) (by omega) (by omega)).mono ?_
  rintro e18 v18 ⟨rfl, rfl⟩
  go_wp2
  go_ret
  exact ⟨rfl, (by repeat (first | exact Below.refl _ _ | assumption | refine Below.drew ?_ | refine below_drewN ?_ _ | refine Below.alloc ?_ (by first | omega | (simp; done) | (simp; omega)) _ | refine Below.setCell ?_ (by first | omega | (simp; done) | (simp; omega)) _))⟩
/-! ### The row's step: the arguments are opened, the walk is called, the arguments read as before. -/
set_option maxRecDepth 100000 in
set_option maxHeartbeats 1000000 in
set_option linter.unusedVariables false in
theorem lifted_FnExactStepsBetween (os : Os) (started : os.Started) (H : Type) (enc : TypeId × Value → H) :
    ReturnsInHanded {} Try.checked os 6 .any (Rows.fnExactStepsBetweenSpec.pre6 enc Try.prog Try.f6 Rows.fnExactStepsBetweenRow.domain false) (Rows.fnExactStepsBetweenSpec.post enc Try.prog Try.f6 false true false false) := by
  refine returnsInHanded_of_change (C := Try.checked) ownNone started (by kernel_rfl) Try.func6
    (ChangeSpec.witness6 (enc := enc) (C := Try.checked) false ⟨#[], #[.agg #[.int .i64 0, .int .i64 0, .int .i64 0, .int .i64 0], .int .i64 0, .slice none 0 0], []⟩ 8 (by kernel_rfl) (by kernel_rfl) (by kernel_rfl) (by kernel_rfl)) ?_
  intro W base args ds gs before hval0 hW hcnd _
  have hval : ∀ (j : Nat) t v, Try.f6.params[j]? = some t → args[j]? = some v → Value.okWide Try.prog W .any base t v := hval0
  have hW' := hW
  obtain ⟨p, q, hA0, hV, rfl, hfz, hnd⟩ := hW
  have hA : DataW.TrodAll enc Try.prog W 0 (fun _ => true) true Try.f6.params.toList args.toList ds p := hA0
  rw [Try.params6] at hA hval
  obtain ⟨v0, vs0, d0, ds0, p0, q0, hargs, rfl, rfl, h0, r0⟩ := trodAll_cons hA
  obtain ⟨v1, vs1, d1, ds1, p1, q1, rfl, rfl, rfl, h1, r1⟩ := trodAll_cons r0
  obtain ⟨v2, vs2, d2, ds2, p2, q2, rfl, rfl, rfl, h2, r2⟩ := trodAll_cons r1
  obtain ⟨rfl, rfl, rfl⟩ := trodAll_nil r2
  obtain rfl : args = #[v0, v1, v2] := by cases args; simp_all
  obtain ⟨rfl, rfl⟩ := trodVars_none hV
  have k0 := h0
  have lt0 : ∀ x ∈ p0, x.block < W.heap.size := by obtain ⟨m, hm⟩ := k0; exact DataW.trod_lt m _ _ _ hm
  obtain ⟨c0_0, c0_1, c0_2, c0_3, y0_0, y0_1, y0_2, y0_3, m0, rfl, _, _, z0_0, z0_1, z0_2, z0_3⟩ := Joins.open_agg4 Try.underlying23 (by kernel_rfl) (by kernel_rfl) (hval 0 23 v0 rfl rfl) h0
  obtain ⟨a0_0, e0_0, _, w0_0⟩ := DataW.trod_int Try.underlying2 z0_0
  simp only [List.cons.injEq, and_true] at e0_0
  subst e0_0
  obtain ⟨a0_1, e0_1, _, w0_1⟩ := DataW.trod_int Try.underlying2 z0_1
  simp only [List.cons.injEq, and_true] at e0_1
  subst e0_1
  obtain ⟨a0_2, e0_2, _, w0_2⟩ := DataW.trod_int Try.underlying2 z0_2
  simp only [List.cons.injEq, and_true] at e0_2
  subst e0_2
  obtain ⟨a0_3, e0_3, _, w0_3⟩ := DataW.trod_int Try.underlying2 z0_3
  simp only [List.cons.injEq, and_true] at e0_3
  subst e0_3
  obtain ⟨a1, rfl, rfl, rfl, w1⟩ := open_int Try.underlying2 (hval 1 2 v1 rfl rfl) h1
  have k2 := h2
  have lt2 : ∀ x ∈ p2, x.block < W.heap.size := by obtain ⟨m, hm⟩ := k2; exact DataW.trod_lt m _ _ _ hm
  obtain ⟨a2, len2, cap2, rfl⟩ := okWide_slice Try.underlying35 (hval 2 35 v2 rfl rfl)
  obtain ⟨z2, w2⟩ : ∃ zs, IsRow .i64 W a2 len2 cap2 zs := by
    obtain ⟨fuel, hf⟩ := h2
    rcases open_ints Try.underlying35 Try.underlying2 (by kernel_rfl) hf with ⟨hcs, _⟩ | ⟨x, l, c, zs, hcs, _, hl, hm, hz, _, hcell, hwz⟩
    · simp [Value.cells] at hcs
      obtain ⟨rfl, rfl, rfl⟩ := hcs
      exact ⟨[], isRow_nil⟩
    · simp [Value.cells] at hcs
      obtain ⟨rfl, rfl, rfl⟩ := hcs
      exact ⟨zs.take len2, isRow_mk hl hm (by simpa using hz) hcell hwz⟩
  clear hA0 hval0
  refine (exactStepsBetween_walk a0_0 (bounds_i64 w0_0).1 (bounds_i64 w0_0).2 a0_1 (bounds_i64 w0_1).1 (bounds_i64 w0_1).2 a0_2 (bounds_i64 w0_2).1 (bounds_i64 w0_2).2 a0_3 (bounds_i64 w0_3).1 (bounds_i64 w0_3).2 a1 (bounds_i64 w1).1 (bounds_i64 w1).2 a2 len2 cap2 z2 W w2).mono fun e W' ⟨he, bel⟩ => ?_
  subst he
  exact ⟨_, rfl, _, _, _, [], _, [], hW', trodAll_mk1 (shut_bool Try.underlying4 _), (trodAll_cons_mk (Below.trod laidOut (by kernel_rfl) (of_decide_eq_true (by kernel_rfl)) k0 bel lt0) (trodAll_cons_mk (shut_int Try.underlying2 w1) (trodAll_cons_mk (Below.trod laidOut (by kernel_rfl) (of_decide_eq_true (by kernel_rfl)) k2 bel lt2) trodAll_mk0))), rfl, bel.frame _, fun h => by cases h⟩

/-- The statement, proved. -/
theorem fnExactStepsBetween_holds : Rows.FnExactStepsBetweenSaid :=
  OpenClaim.holds_of_wide 6 Try.f6 rfl rfl rfl rfl rfl rfl rfl ⟨rfl, rfl, rfl, rfl, rfl⟩ rfl rfl rfl rfl rfl (by kernel_rfl) Try.func6 (by kernel_rfl)
    (of_decide_eq_true (by kernel_rfl)) (by unfold Func.isWrapper; first | (rw [if_pos (by decide +kernel)]; kernel_rfl) | (rw [if_neg (by decide +kernel)]; exact ⟨rfl, rfl⟩))
    (fun os started H enc _ => lifted_FnExactStepsBetween os started H enc)
end Go.Proofs.Ytgpcehokdfehjaa
