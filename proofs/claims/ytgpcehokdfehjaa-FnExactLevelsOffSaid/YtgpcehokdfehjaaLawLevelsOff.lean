/- For all arguments, the program's LevelsOff returns what the reference's LevelsOff returns, in new memory (the statement FnExactLevelsOff); no condition. -/
import Derived.Test.YtgpcehokdfehjaaLevelsOff
namespace Go.Proofs.Ytgpcehokdfehjaa
open Go.ChangeShapes Go.WideShapes Go.ChangeAt Go.RowKit
set_option maxHeartbeats 4000000 in
set_option linter.unusedVariables false in
theorem exactLevelsOff_walk (a0 : Int) (l0 : -9223372036854775808 ≤ a0) (u0 : a0 ≤ 9223372036854775807) (a1 : Int) (l1 : -9223372036854775808 ≤ a1) (u1 : a1 ≤ 9223372036854775807) (a2 : Option Addr) (len2 cap2 : Nat) (z2 : List Int) (w : World) (hz : IsRow .i64 w a2 len2 cap2 z2) :
    Calls Try.prog 7 #[.int .i64 a0, .int .i64 a1, .slice a2 len2 cap2] w fun e w' => e = .returned (.bool true) ∧ Below w.heap.size w w' := by
  by_cases hbig : 1048576 < len2
  · have hbig' : (1048576 : Int) < (len2 : Int) := by omega
    clear hz
    go_enter Try.func7, Try.ntmps7
    go_wp2
    go_ret
    exact ⟨rfl, (by repeat (first | exact Below.refl _ _ | assumption | refine Below.drew ?_ | refine below_drewN ?_ _ | refine Below.alloc ?_ (by first | omega | (simp; done) | (simp; omega)) _ | refine Below.setCell ?_ (by first | omega | (simp; done) | (simp; omega)) _))⟩
  have hlen : len2 ≤ 1048576 := by omega
  have hlen' : ¬ (1048576 : Int) < (len2 : Int) := by omega
  clear hbig
  have HS := Lib.hid fun a l c w => (specLevelsOff_any a0 a1 a l c z2 w)
  have HI := Lib.hid fun a l c w => (LevelsOff_any a0 a1 a l c z2 w)
  have HZ := Lib.hid hz
  clear hz
  have hle := lvlI_len a0 a1 z2
  generalize lvlI a0 a1 z2 = Z at *
  generalize lvlC a0 a1 z2 = C at *
  obtain ⟨n, hn⟩ : ∃ n, Z.length = n := ⟨_, rfl⟩
  rw [hn] at hle
  have HN := Lib.hid hn
  clear hn
  have hm0 : ¬ (1 + (n : Int) < 0) := by omega
  have hm1 : ¬ (1 + (len2 : Int) < 0) := by omega
  go_enter Try.func7, Try.ntmps7
  go_wp2_with fail
  refine (toInt64S_own _ _ _ _ _ (HZ.out.below (by repeat (first | exact Below.refl _ _ | assumption | refine Below.drew ?_ | refine below_drewN ?_ _ | refine Below.alloc ?_ (by first | omega | (simp; done) | (simp; omega)) _ | refine Below.setCell ?_ (by first | omega | (simp; done) | (simp; omega)) _))) hlen).mono ?_
  rintro e1 w1 ⟨rfl, hO1, hb1⟩
  have X1 := Lib.hid hO1
  clear hO1
  have hz1 := hb1.size
  try simp at hz1
  have ha1 : Below w.heap.size w w1 := below_call (by repeat (first | exact Below.refl _ _ | assumption | refine Below.drew ?_ | refine below_drewN ?_ _ | refine Below.alloc ?_ (by first | omega | (simp; done) | (simp; omega)) _ | refine Below.setCell ?_ (by first | omega | (simp; done) | (simp; omega)) _)) hb1
  go_wp2_with fail
  refine (HS.out _ _ _ _ X1.out.row).mono ?_
  rintro e2 w2 hN2
  obtain ⟨aW0, cW0, rfl, hO2, hb2⟩ := hN2.told HN.out
  clear hN2
  have W0 := Lib.hid hO2
  clear hO2
  have X1_old := X1
  have hz2 := hb2.size
  try simp at hz2
  have ha2 : Below w.heap.size w w2 := below_call (by repeat (first | exact Below.refl _ _ | assumption | refine Below.drew ?_ | refine below_drewN ?_ _ | refine Below.alloc ?_ (by first | omega | (simp; done) | (simp; omega)) _ | refine Below.setCell ?_ (by first | omega | (simp; done) | (simp; omega)) _)) hb2
  replace X1 := Lib.hid (X1.out.below hb2)
  have NE_X1_W0 := Lib.hid (X1_old.out.apart W0.out (Nat.le_refl _))
  go_wp2_with fail
  refine (toInt64S_own _ _ _ _ _ (HZ.out.below (by repeat (first | exact Below.refl _ _ | assumption | refine Below.drew ?_ | refine below_drewN ?_ _ | refine Below.alloc ?_ (by first | omega | (simp; done) | (simp; omega)) _ | refine Below.setCell ?_ (by first | omega | (simp; done) | (simp; omega)) _))) hlen).mono ?_
  rintro e3 w3 ⟨rfl, hO3, hb3⟩
  have X2 := Lib.hid hO3
  clear hO3
  have X1_old := X1
  have W0_old := W0
  have hz3 := hb3.size
  try simp at hz3
  have ha3 : Below w.heap.size w w3 := below_call (by repeat (first | exact Below.refl _ _ | assumption | refine Below.drew ?_ | refine below_drewN ?_ _ | refine Below.alloc ?_ (by first | omega | (simp; done) | (simp; omega)) _ | refine Below.setCell ?_ (by first | omega | (simp; done) | (simp; omega)) _)) hb3
  replace X1 := Lib.hid (X1.out.below hb3)
  replace W0 := Lib.hid (W0.out.below hb3)
  have NE_X1_X2 := Lib.hid (X1_old.out.apart X2.out (Nat.le_refl _))
  have NE_W0_X2 := Lib.hid (W0_old.out.apart X2.out (Nat.le_refl _))
  go_wp2_with fail
  refine (HI.out _ _ _ _ X2.out.row).mono ?_
  rintro e4 w4 hN4
  obtain ⟨aG0, cG0, rfl, hO4, hb4⟩ := hN4.told HN.out
  clear hN4
  have G0 := Lib.hid hO4
  clear hO4
  have X1_old := X1
  have W0_old := W0
  have X2_old := X2
  have hz4 := hb4.size
  try simp at hz4
  have ha4 : Below w.heap.size w w4 := below_call (by repeat (first | exact Below.refl _ _ | assumption | refine Below.drew ?_ | refine below_drewN ?_ _ | refine Below.alloc ?_ (by first | omega | (simp; done) | (simp; omega)) _ | refine Below.setCell ?_ (by first | omega | (simp; done) | (simp; omega)) _)) hb4
  replace X1 := Lib.hid (X1.out.below hb4)
  replace W0 := Lib.hid (W0.out.below hb4)
  replace X2 := Lib.hid (X2.out.below hb4)
  have NE_X1_G0 := Lib.hid (X1_old.out.apart G0.out (Nat.le_refl _))
  have NE_W0_G0 := Lib.hid (W0_old.out.apart G0.out (Nat.le_refl _))
  have NE_X2_G0 := Lib.hid (X2_old.out.apart G0.out (Nat.le_refl _))
  go_wp2_with fail
  refine (eqInt64S_same _ _ _ _ _ _ _ G0.out.row W0.out.row).mono ?_
  rintro e5 w5 ⟨rfl, hb5⟩
  have hz5 := hb5.size
  try simp at hz5
  have ha5 : Below w.heap.size w w5 := below_call (by repeat (first | exact Below.refl _ _ | assumption | refine Below.drew ?_ | refine below_drewN ?_ _ | refine Below.alloc ?_ (by first | omega | (simp; done) | (simp; omega)) _ | refine Below.setCell ?_ (by first | omega | (simp; done) | (simp; omega)) _)) hb5
  replace X1 := Lib.hid (X1.out.below hb5)
  replace W0 := Lib.hid (W0.out.below hb5)
  replace X2 := Lib.hid (X2.out.below hb5)
  replace G0 := Lib.hid (G0.out.below hb5)
  go_wp2_with fail
  refine (toInt64S_own _ _ _ _ _ (HZ.out.below (by repeat (first | exact Below.refl _ _ | assumption | refine Below.drew ?_ | refine below_drewN ?_ _ | refine Below.alloc ?_ (by first | omega | (simp; done) | (simp; omega)) _ | refine Below.setCell ?_ (by first | omega | (simp; done) | (simp; omega)) _))) hlen).mono ?_
  rintro e6 w6 ⟨rfl, hO6, hb6⟩
  have X3 := Lib.hid hO6
  clear hO6
  have X1_old := X1
  have W0_old := W0
  have X2_old := X2
  have G0_old := G0
  have hz6 := hb6.size
  try simp at hz6
  have ha6 : Below w.heap.size w w6 := below_call (by repeat (first | exact Below.refl _ _ | assumption | refine Below.drew ?_ | refine below_drewN ?_ _ | refine Below.alloc ?_ (by first | omega | (simp; done) | (simp; omega)) _ | refine Below.setCell ?_ (by first | omega | (simp; done) | (simp; omega)) _)) hb6
  replace X1 := Lib.hid (X1.out.below hb6)
  replace W0 := Lib.hid (W0.out.below hb6)
  replace X2 := Lib.hid (X2.out.below hb6)
  replace G0 := Lib.hid (G0.out.below hb6)
  have NE_X1_X3 := Lib.hid (X1_old.out.apart X3.out (Nat.le_refl _))
  have NE_W0_X3 := Lib.hid (W0_old.out.apart X3.out (Nat.le_refl _))
  have NE_X2_X3 := Lib.hid (X2_old.out.apart X3.out (Nat.le_refl _))
  have NE_G0_X3 := Lib.hid (G0_old.out.apart X3.out (Nat.le_refl _))
  go_wp2_with fail
  refine (eqInt64S_same _ _ _ _ _ _ _ X2.out.row X3.out.row).mono ?_
  rintro e7 w7 ⟨rfl, hb7⟩
  have hz7 := hb7.size
  try simp at hz7
  have ha7 : Below w.heap.size w w7 := below_call (by repeat (first | exact Below.refl _ _ | assumption | refine Below.drew ?_ | refine below_drewN ?_ _ | refine Below.alloc ?_ (by first | omega | (simp; done) | (simp; omega)) _ | refine Below.setCell ?_ (by first | omega | (simp; done) | (simp; omega)) _)) hb7
  replace X1 := Lib.hid (X1.out.below hb7)
  replace W0 := Lib.hid (W0.out.below hb7)
  replace X2 := Lib.hid (X2.out.below hb7)
  replace G0 := Lib.hid (G0.out.below hb7)
  replace X3 := Lib.hid (X3.out.below hb7)
  go_wp2_with fail
  refine (markInt64S_any _ _ _ _ _ _ _ X2.out (by omega) (by omega) (by omega)).mono ?_
  rintro e8 w8 ⟨rfl, hO8, hG8⟩
  have ha8 : Below w.heap.size w w8 := below_mark (by repeat (first | exact Below.refl _ _ | assumption | refine Below.drew ?_ | refine below_drewN ?_ _ | refine Below.alloc ?_ (by first | omega | (simp; done) | (simp; omega)) _ | refine Below.setCell ?_ (by first | omega | (simp; done) | (simp; omega)) _)) (by omega) X2.out hG8
  have hz8 := hG8.size
  replace X1 := Lib.hid (OwnI.keptM X1.out hG8 NE_X1_X2.out.1)
  replace W0 := Lib.hid (OwnI.keptM W0.out hG8 NE_W0_X2.out.1)
  replace G0 := Lib.hid (OwnI.keptM G0.out hG8 NE_X2_G0.out.2)
  replace X3 := Lib.hid (OwnI.keptM X3.out hG8 NE_X2_X3.out.2)
  replace X2 := Lib.hid hO8
  clear hO8 hG8
  go_wp2_with fail
  refine (eqInt64S_same _ _ _ _ _ _ _ G0.out.row W0.out.row).mono ?_
  rintro e9 w9 ⟨rfl, hb9⟩
  have hz9 := hb9.size
  try simp at hz9
  have ha9 : Below w.heap.size w w9 := below_call (by repeat (first | exact Below.refl _ _ | assumption | refine Below.drew ?_ | refine below_drewN ?_ _ | refine Below.alloc ?_ (by first | omega | (simp; done) | (simp; omega)) _ | refine Below.setCell ?_ (by first | omega | (simp; done) | (simp; omega)) _)) hb9
  replace X1 := Lib.hid (X1.out.below hb9)
  replace W0 := Lib.hid (W0.out.below hb9)
  replace X2 := Lib.hid (X2.out.below hb9)
  replace G0 := Lib.hid (G0.out.below hb9)
  replace X3 := Lib.hid (X3.out.below hb9)
  go_wp2_with fail
  refine (markInt64S_any _ _ _ _ _ _ _ G0.out (by omega) (by omega) (by omega)).mono ?_
  rintro e10 w10 ⟨rfl, hO10, hG10⟩
  have ha10 : Below w.heap.size w w10 := below_mark (by repeat (first | exact Below.refl _ _ | assumption | refine Below.drew ?_ | refine below_drewN ?_ _ | refine Below.alloc ?_ (by first | omega | (simp; done) | (simp; omega)) _ | refine Below.setCell ?_ (by first | omega | (simp; done) | (simp; omega)) _)) (by omega) G0.out hG10
  have hz10 := hG10.size
  replace X1 := Lib.hid (OwnI.keptM X1.out hG10 NE_X1_G0.out.1)
  replace W0 := Lib.hid (OwnI.keptM W0.out hG10 NE_W0_G0.out.1)
  replace X2 := Lib.hid (OwnI.keptM X2.out hG10 NE_X2_G0.out.1)
  replace X3 := Lib.hid (OwnI.keptM X3.out hG10 NE_G0_X3.out.2)
  replace G0 := Lib.hid hO10
  clear hO10 hG10
  go_wp2_with fail
  refine (heldInt64S_any _ _ _ _ _ G0.out.row (by omega) (by omega) (by omega)).mono ?_
  rintro e11 v11 ⟨rfl, rfl⟩
  go_wp2_with fail
  refine (toInt64S_own _ _ _ _ _ (HZ.out.below (by repeat (first | exact Below.refl _ _ | assumption | refine Below.drew ?_ | refine below_drewN ?_ _ | refine Below.alloc ?_ (by first | omega | (simp; done) | (simp; omega)) _ | refine Below.setCell ?_ (by first | omega | (simp; done) | (simp; omega)) _))) hlen).mono ?_
  rintro e12 w12 ⟨rfl, hO12, hb12⟩
  have X4 := Lib.hid hO12
  clear hO12
  have X1_old := X1
  have W0_old := W0
  have X2_old := X2
  have G0_old := G0
  have X3_old := X3
  have hz12 := hb12.size
  try simp at hz12
  have ha12 : Below w.heap.size w w12 := below_call (by repeat (first | exact Below.refl _ _ | assumption | refine Below.drew ?_ | refine below_drewN ?_ _ | refine Below.alloc ?_ (by first | omega | (simp; done) | (simp; omega)) _ | refine Below.setCell ?_ (by first | omega | (simp; done) | (simp; omega)) _)) hb12
  replace X1 := Lib.hid (X1.out.below hb12)
  replace W0 := Lib.hid (W0.out.below hb12)
  replace X2 := Lib.hid (X2.out.below hb12)
  replace G0 := Lib.hid (G0.out.below hb12)
  replace X3 := Lib.hid (X3.out.below hb12)
  have NE_X1_X4 := Lib.hid (X1_old.out.apart X4.out (Nat.le_refl _))
  have NE_W0_X4 := Lib.hid (W0_old.out.apart X4.out (Nat.le_refl _))
  have NE_X2_X4 := Lib.hid (X2_old.out.apart X4.out (Nat.le_refl _))
  have NE_G0_X4 := Lib.hid (G0_old.out.apart X4.out (Nat.le_refl _))
  have NE_X3_X4 := Lib.hid (X3_old.out.apart X4.out (Nat.le_refl _))
  go_wp2_with fail
  refine (HI.out _ _ _ _ X4.out.row).mono ?_
  rintro e13 w13 hN13
  obtain ⟨aH0, cH0, rfl, hO13, hb13⟩ := hN13.told HN.out
  clear hN13
  have H0 := Lib.hid hO13
  clear hO13
  have X1_old := X1
  have W0_old := W0
  have X2_old := X2
  have G0_old := G0
  have X3_old := X3
  have X4_old := X4
  have hz13 := hb13.size
  try simp at hz13
  have ha13 : Below w.heap.size w w13 := below_call (by repeat (first | exact Below.refl _ _ | assumption | refine Below.drew ?_ | refine below_drewN ?_ _ | refine Below.alloc ?_ (by first | omega | (simp; done) | (simp; omega)) _ | refine Below.setCell ?_ (by first | omega | (simp; done) | (simp; omega)) _)) hb13
  replace X1 := Lib.hid (X1.out.below hb13)
  replace W0 := Lib.hid (W0.out.below hb13)
  replace X2 := Lib.hid (X2.out.below hb13)
  replace G0 := Lib.hid (G0.out.below hb13)
  replace X3 := Lib.hid (X3.out.below hb13)
  replace X4 := Lib.hid (X4.out.below hb13)
  have NE_X1_H0 := Lib.hid (X1_old.out.apart H0.out (Nat.le_refl _))
  have NE_W0_H0 := Lib.hid (W0_old.out.apart H0.out (Nat.le_refl _))
  have NE_X2_H0 := Lib.hid (X2_old.out.apart H0.out (Nat.le_refl _))
  have NE_G0_H0 := Lib.hid (G0_old.out.apart H0.out (Nat.le_refl _))
  have NE_X3_H0 := Lib.hid (X3_old.out.apart H0.out (Nat.le_refl _))
  have NE_X4_H0 := Lib.hid (X4_old.out.apart H0.out (Nat.le_refl _))
  go_wp2_with fail
  refine (eqInt64S_same _ _ _ _ _ _ _ H0.out.row W0.out.row).mono ?_
  rintro e14 w14 ⟨rfl, hb14⟩
  have hz14 := hb14.size
  try simp at hz14
  have ha14 : Below w.heap.size w w14 := below_call (by repeat (first | exact Below.refl _ _ | assumption | refine Below.drew ?_ | refine below_drewN ?_ _ | refine Below.alloc ?_ (by first | omega | (simp; done) | (simp; omega)) _ | refine Below.setCell ?_ (by first | omega | (simp; done) | (simp; omega)) _)) hb14
  replace X1 := Lib.hid (X1.out.below hb14)
  replace W0 := Lib.hid (W0.out.below hb14)
  replace X2 := Lib.hid (X2.out.below hb14)
  replace G0 := Lib.hid (G0.out.below hb14)
  replace X3 := Lib.hid (X3.out.below hb14)
  replace X4 := Lib.hid (X4.out.below hb14)
  replace H0 := Lib.hid (H0.out.below hb14)
  go_wp2_with fail
  refine (heldInt64S_any _ _ _ _ _ G0.out.row (by omega) (by omega) (by omega)).mono ?_
  rintro e15 v15 ⟨rfl, rfl⟩
  go_wp2
  go_ret
  exact ⟨rfl, (by repeat (first | exact Below.refl _ _ | assumption | refine Below.drew ?_ | refine below_drewN ?_ _ | refine Below.alloc ?_ (by first | omega | (simp; done) | (simp; omega)) _ | refine Below.setCell ?_ (by first | omega | (simp; done) | (simp; omega)) _))⟩
/-! ### The row's step: the arguments are opened, the walk is called, the arguments read as before. -/
set_option maxRecDepth 100000 in
set_option maxHeartbeats 1000000 in
set_option linter.unusedVariables false in
theorem lifted_FnExactLevelsOff (os : Os) (started : os.Started) (H : Type) (enc : TypeId × Value → H) :
    ReturnsInHanded {} Try.checked os 7 .any (Rows.fnExactLevelsOffSpec.pre6 enc Try.prog Try.f7 Rows.fnExactLevelsOffRow.domain false) (Rows.fnExactLevelsOffSpec.post enc Try.prog Try.f7 false true false false) := by
  refine returnsInHanded_of_change (C := Try.checked) ownNone started (by kernel_rfl) Try.func7
    (ChangeSpec.witness6 (enc := enc) (C := Try.checked) false ⟨#[], #[.int .i64 0, .int .i64 0, .slice none 0 0], []⟩ 8 (by kernel_rfl) (by kernel_rfl) (by kernel_rfl) (by kernel_rfl)) ?_
  intro W base args ds gs before hval0 hW hcnd _
  have hval : ∀ (j : Nat) t v, Try.f7.params[j]? = some t → args[j]? = some v → Value.okWide Try.prog W .any base t v := hval0
  have hW' := hW
  obtain ⟨p, q, hA0, hV, rfl, hfz, hnd⟩ := hW
  have hA : DataW.TrodAll enc Try.prog W 0 (fun _ => true) true Try.f7.params.toList args.toList ds p := hA0
  rw [Try.params7] at hA hval
  obtain ⟨v0, vs0, d0, ds0, p0, q0, hargs, rfl, rfl, h0, r0⟩ := trodAll_cons hA
  obtain ⟨v1, vs1, d1, ds1, p1, q1, rfl, rfl, rfl, h1, r1⟩ := trodAll_cons r0
  obtain ⟨v2, vs2, d2, ds2, p2, q2, rfl, rfl, rfl, h2, r2⟩ := trodAll_cons r1
  obtain ⟨rfl, rfl, rfl⟩ := trodAll_nil r2
  obtain rfl : args = #[v0, v1, v2] := by cases args; simp_all
  obtain ⟨rfl, rfl⟩ := trodVars_none hV
  obtain ⟨a0, rfl, rfl, rfl, w0⟩ := open_int Try.underlying2 (hval 0 2 v0 rfl rfl) h0
  obtain ⟨a1, rfl, rfl, rfl, w1⟩ := open_int Try.underlying2 (hval 1 2 v1 rfl rfl) h1
  have k2 := h2
  have lt2 : ∀ x ∈ p2, x.block < W.heap.size := by obtain ⟨m, hm⟩ := k2; exact DataW.trod_lt m _ _ _ hm
  obtain ⟨a2, len2, cap2, rfl⟩ := okWide_slice Try.underlying35 (hval 2 35 v2 rfl rfl)
  obtain ⟨z2, w2⟩ : ∃ zs, IsRow .i64 W a2 len2 cap2 zs := by
    obtain ⟨fuel, hf⟩ := h2
    rcases open_ints Try.underlying35 Try.underlying2 (by kernel_rfl) hf with ⟨hcs, _⟩ | ⟨x, l, c, zs, hcs, _, hl, hm, hz, _, hcell, hwz⟩
    · simp [Value.cells] at hcs
      obtain ⟨rfl, rfl, rfl⟩ := hcs
      exact ⟨[], isRow_nil⟩
    · simp [Value.cells] at hcs
      obtain ⟨rfl, rfl, rfl⟩ := hcs
      exact ⟨zs.take len2, isRow_mk hl hm (by simpa using hz) hcell hwz⟩
  clear hA0 hval0
  refine (exactLevelsOff_walk a0 (bounds_i64 w0).1 (bounds_i64 w0).2 a1 (bounds_i64 w1).1 (bounds_i64 w1).2 a2 len2 cap2 z2 W w2).mono fun e W' ⟨he, bel⟩ => ?_
  subst he
  exact ⟨_, rfl, _, _, _, [], _, [], hW', trodAll_mk1 (shut_bool Try.underlying4 _), (trodAll_cons_mk (shut_int Try.underlying2 w0) (trodAll_cons_mk (shut_int Try.underlying2 w1) (trodAll_cons_mk (Below.trod laidOut (by kernel_rfl) (of_decide_eq_true (by kernel_rfl)) k2 bel lt2) trodAll_mk0))), rfl, bel.frame _, fun h => by cases h⟩

/-- The statement, proved. -/
theorem fnExactLevelsOff_holds : Rows.FnExactLevelsOffSaid :=
  OpenClaim.holds_of_wide 7 Try.f7 rfl rfl rfl rfl rfl rfl rfl ⟨rfl, rfl, rfl, rfl, rfl⟩ rfl rfl rfl rfl rfl (by kernel_rfl) Try.func7 (by kernel_rfl)
    (of_decide_eq_true (by kernel_rfl)) (by unfold Func.isWrapper; first | (rw [if_pos (by decide +kernel)]; kernel_rfl) | (rw [if_neg (by decide +kernel)]; exact ⟨rfl, rfl⟩))
    (fun os started H enc _ => lifted_FnExactLevelsOff os started H enc)
end Go.Proofs.Ytgpcehokdfehjaa
