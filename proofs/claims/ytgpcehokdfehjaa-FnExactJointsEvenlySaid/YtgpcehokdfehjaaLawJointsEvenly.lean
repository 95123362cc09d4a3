/- For all arguments, the program's JointsEvenly returns what the reference's JointsEvenly returns, in new memory (the statement FnExactJointsEvenly); no condition. -/
import Derived.Test.YtgpcehokdfehjaaGaugeE
namespace Go.Proofs.Ytgpcehokdfehjaa
open Go.ChangeShapes Go.WideShapes Go.ChangeAt Go.RowKit
set_option maxHeartbeats 4000000 in
set_option linter.unusedVariables false in
theorem exactJointsEvenly_walk (a0_0 : Int) (l0_0 : -9223372036854775808 ≤ a0_0) (u0_0 : a0_0 ≤ 9223372036854775807) (a0_1 : Int) (l0_1 : -9223372036854775808 ≤ a0_1) (u0_1 : a0_1 ≤ 9223372036854775807) (a0_2 : Int) (l0_2 : -9223372036854775808 ≤ a0_2) (u0_2 : a0_2 ≤ 9223372036854775807) (a0_3 : Int) (l0_3 : -9223372036854775808 ≤ a0_3) (u0_3 : a0_3 ≤ 9223372036854775807) (a1 : Int) (l1 : -9223372036854775808 ≤ a1) (u1 : a1 ≤ 9223372036854775807) (a2 : Int) (l2 : -9223372036854775808 ≤ a2) (u2 : a2 ≤ 9223372036854775807) (w : World) :
    Calls Try.prog 5 #[.agg #[.int .i64 a0_0, .int .i64 a0_1, .int .i64 a0_2, .int .i64 a0_3], .int .i64 a1, .int .i64 a2] w fun e w' => e = .returned (.bool true) ∧ Below w.heap.size w w' := by
  have HS := Lib.hid fun w => (specJointsEvenly_any a0_0 a0_1 a0_2 a0_3 a1 a2 w)
  have HI := Lib.hid fun w => (jointsEvenly_any a0_0 a0_1 a0_2 a0_3 a1 a2 w)
  have hle := evenlyI_len a0_0 a0_1 a0_2 a0_3 a1 a2
  generalize evenlyI a0_0 a0_1 a0_2 a0_3 a1 a2 = Z at *
  generalize bedC a0_0 a0_1 a0_2 a0_3 a1 a2 = C at *
  obtain ⟨n, hn⟩ : ∃ n, Z.length = n := ⟨_, rfl⟩
  rw [hn] at hle
  have HN := Lib.hid hn
  clear hn
  have hm0 : ¬ (1 + (n : Int) < 0) := by omega
  go_enter Try.func5, Try.ntmps5
  go_wp2_with fail
  refine (toFormat_any _ _ _ _ _).mono ?_
  rintro e1 w1 ⟨rfl, hb1⟩
  have hz1 := hb1.size
  try simp at hz1
  have ha1 : Below w.heap.size w w1 := below_call (by repeat (first | exact Below.refl _ _ | assumption | refine Below.drew ?_ | refine below_drewN ?_ _ | refine Below.alloc ?_ (by first | omega | (simp; done) | (simp; omega)) _ | refine Below.setCell ?_ (by first | omega | (simp; done) | (simp; omega)) _)) hb1
  have f0_0 : w1.cell? ⟨w.heap.size, 0, none⟩ = some (.int .i64 a0_0) := by rw [(bcell hb1).1 _ _ (by first | omega | (simp; done) | (simp; omega))]; simp [go_sem]
  have f0_1 : w1.cell? ⟨w.heap.size, 1, none⟩ = some (.int .i64 a0_1) := by rw [(bcell hb1).1 _ _ (by first | omega | (simp; done) | (simp; omega))]; simp [go_sem]
  have f0_2 : w1.cell? ⟨w.heap.size, 2, none⟩ = some (.int .i64 a0_2) := by rw [(bcell hb1).1 _ _ (by first | omega | (simp; done) | (simp; omega))]; simp [go_sem]
  have f0_3 : w1.cell? ⟨w.heap.size, 3, none⟩ = some (.int .i64 a0_3) := by rw [(bcell hb1).1 _ _ (by first | omega | (simp; done) | (simp; omega))]; simp [go_sem]
  go_wp2_with fail
  refine (HS.out _).mono ?_
  rintro e2 w2 hN2
  obtain ⟨aW0, cW0, rfl, hO2, hb2⟩ := hN2.told HN.out
  clear hN2
  have W0 := Lib.hid hO2
  clear hO2
  have hz2 := hb2.size
  try simp at hz2
  have ha2 : Below w.heap.size w w2 := below_call (by repeat (first | exact Below.refl _ _ | assumption | refine Below.drew ?_ | refine below_drewN ?_ _ | refine Below.alloc ?_ (by first | omega | (simp; done) | (simp; omega)) _ | refine Below.setCell ?_ (by first | omega | (simp; done) | (simp; omega)) _)) hb2
  replace f0_0 := keep1 hb2 f0_0
  replace f0_1 := keep1 hb2 f0_1
  replace f0_2 := keep1 hb2 f0_2
  replace f0_3 := keep1 hb2 f0_3
  go_wp2_with fail
  refine (toFormat_any _ _ _ _ _).mono ?_
  rintro e3 w3 ⟨rfl, hb3⟩
  have hz3 := hb3.size
  try simp at hz3
  have ha3 : Below w.heap.size w w3 := below_call (by repeat (first | exact Below.refl _ _ | assumption | refine Below.drew ?_ | refine below_drewN ?_ _ | refine Below.alloc ?_ (by first | omega | (simp; done) | (simp; omega)) _ | refine Below.setCell ?_ (by first | omega | (simp; done) | (simp; omega)) _)) hb3
  replace f0_0 := keep1 hb3 f0_0
  replace f0_1 := keep1 hb3 f0_1
  replace f0_2 := keep1 hb3 f0_2
  replace f0_3 := keep1 hb3 f0_3
  replace W0 := Lib.hid (W0.out.below hb3)
  go_wp2_with fail
  refine (HI.out _).mono ?_
  rintro e4 w4 hN4
  obtain ⟨aG0, cG0, rfl, hO4, hb4⟩ := hN4.told HN.out
  clear hN4
  have G0 := Lib.hid hO4
  clear hO4
  have W0_old := W0
  have hz4 := hb4.size
  try simp at hz4
  have ha4 : Below w.heap.size w w4 := below_call (by repeat (first | exact Below.refl _ _ | assumption | refine Below.drew ?_ | refine below_drewN ?_ _ | refine Below.alloc ?_ (by first | omega | (simp; done) | (simp; omega)) _ | refine Below.setCell ?_ (by first | omega | (simp; done) | (simp; omega)) _)) hb4
  replace f0_0 := keep1 hb4 f0_0
  replace f0_1 := keep1 hb4 f0_1
  replace f0_2 := keep1 hb4 f0_2
  replace f0_3 := keep1 hb4 f0_3
  replace W0 := Lib.hid (W0.out.below hb4)
  have NE_W0_G0 := Lib.hid (W0_old.out.apart G0.out (Nat.le_refl _))
  go_wp2_with fail
  refine (eqInt64S_same _ _ _ _ _ _ _ G0.out.row W0.out.row).mono ?_
  rintro e5 w5 ⟨rfl, hb5⟩
  have hz5 := hb5.size
  try simp at hz5
  have ha5 : Below w.heap.size w w5 := below_call (by repeat (first | exact Below.refl _ _ | assumption | refine Below.drew ?_ | refine below_drewN ?_ _ | refine Below.alloc ?_ (by first | omega | (simp; done) | (simp; omega)) _ | refine Below.setCell ?_ (by first | omega | (simp; done) | (simp; omega)) _)) hb5
  replace f0_0 := keep1 hb5 f0_0
  replace f0_1 := keep1 hb5 f0_1
  replace f0_2 := keep1 hb5 f0_2
  replace f0_3 := keep1 hb5 f0_3
  replace W0 := Lib.hid (W0.out.below hb5)
  replace G0 := Lib.hid (G0.out.below hb5)
  go_wp2_with fail
  refine (markInt64S_any _ _ _ _ _ _ _ G0.out (by omega) (by omega) (by omega)).mono ?_
  rintro e6 w6 ⟨rfl, hO6, hG6⟩
  have ha6 : Below w.heap.size w w6 := below_mark (by repeat (first | exact Below.refl _ _ | assumption | refine Below.drew ?_ | refine below_drewN ?_ _ | refine Below.alloc ?_ (by first | omega | (simp; done) | (simp; omega)) _ | refine Below.setCell ?_ (by first | omega | (simp; done) | (simp; omega)) _)) (by omega) G0.out hG6
  have hz6 := hG6.size
  replace f0_0 := keepM G0.out hG6 (by omega) f0_0
  replace f0_1 := keepM G0.out hG6 (by omega) f0_1
  replace f0_2 := keepM G0.out hG6 (by omega) f0_2
  replace f0_3 := keepM G0.out hG6 (by omega) f0_3
  replace W0 := Lib.hid (OwnI.keptM W0.out hG6 NE_W0_G0.out.1)
  replace G0 := Lib.hid hO6
  clear hO6 hG6
  go_wp2_with fail
  refine (heldInt64S_any _ _ _ _ _ G0.out.row (by omega) (by omega) (by omega)).mono ?_
  rintro e7 v7 ⟨rfl, rfl⟩
  go_wp2_with fail
  refine (toFormat_any _ _ _ _ _).mono ?_
  rintro e8 w8 ⟨rfl, hb8⟩
  have hz8 := hb8.size
  try simp at hz8
  have ha8 : Below w.heap.size w w8 := below_call (by repeat (first | exact Below.refl _ _ | assumption | refine Below.drew ?_ | refine below_drewN ?_ _ | refine Below.alloc ?_ (by first | omega | (simp; done) | (simp; omega)) _ | refine Below.setCell ?_ (by first | omega | (simp; done) | (simp; omega)) _)) hb8
  replace f0_0 := keep1 hb8 f0_0
  replace f0_1 := keep1 hb8 f0_1
  replace f0_2 := keep1 hb8 f0_2
  replace f0_3 := keep1 hb8 f0_3
  replace W0 := Lib.hid (W0.out.below hb8)
  replace G0 := Lib.hid (G0.out.below hb8)
  go_wp2_with fail
  refine (HI.out _).mono ?_
  rintro e9 w9 hN9
  obtain ⟨aH0, cH0, rfl, hO9, hb9⟩ := hN9.told HN.out
  clear hN9
  have H0 := Lib.hid hO9
  clear hO9
  have W0_old := W0
  have G0_old := G0
  have hz9 := hb9.size
  try simp at hz9
  have ha9 : Below w.heap.size w w9 := below_call (by repeat (first | exact Below.refl _ _ | assumption | refine Below.drew ?_ | refine below_drewN ?_ _ | refine Below.alloc ?_ (by first | omega | (simp; done) | (simp; omega)) _ | refine Below.setCell ?_ (by first | omega | (simp; done) | (simp; omega)) _)) hb9
  replace f0_0 := keep1 hb9 f0_0
  replace f0_1 := keep1 hb9 f0_1
  replace f0_2 := keep1 hb9 f0_2
  replace f0_3 := keep1 hb9 f0_3
  replace W0 := Lib.hid (W0.out.below hb9)
  replace G0 := Lib.hid (G0.out.below hb9)
  have NE_W0_H0 := Lib.hid (W0_old.out.apart H0.out (Nat.le_refl _))
  have NE_G0_H0 := Lib.hid (G0_old.out.apart H0.out (Nat.le_refl _))
  go_wp2_with fail
  refine (eqInt64S_same _ _ _ _ _ _ _ H0.out.row W0.out.row).mono ?_
  rintro e10 w10 ⟨rfl, hb10⟩
  have hz10 := hb10.size
  try simp at hz10
  have ha10 : Below w.heap.size w w10 := below_call (by repeat (first | exact Below.refl _ _ | assumption | refine Below.drew ?_ | refine below_drewN ?_ _ | refine Below.alloc ?_ (by first | omega | (simp; done) | (simp; omega)) _ | refine Below.setCell ?_ (by first | omega | (simp; done) | (simp; omega)) _)) hb10
  replace f0_0 := keep1 hb10 f0_0
  replace f0_1 := keep1 hb10 f0_1
  replace f0_2 := keep1 hb10 f0_2
  replace f0_3 := keep1 hb10 f0_3
  replace W0 := Lib.hid (W0.out.below hb10)
  replace G0 := Lib.hid (G0.out.below hb10)
  replace H0 := Lib.hid (H0.out.below hb10)
  go_wp2_with fail
  refine (heldInt64S_any _ _ _ _ _ G0.out.row (by omega) (by omega) (by omega)).mono ?_
  rintro e11 v11 ⟨rfl, rfl⟩
  go_wp2
  go_ret
  exact ⟨rfl, (by repeat (first | exact Below.refl _ _ | assumption | refine Below.drew ?_ | refine below_drewN ?_ _ | refine Below.alloc ?_ (by first | omega | (simp; done) | (simp; omega)) _ | refine Below.setCell ?_ (by first | omega | (simp; done) | (simp; omega)) _))⟩
/-! ### The row's step: the arguments are opened, the walk is called, the arguments read as before. -/
set_option maxRecDepth 100000 in
set_option maxHeartbeats 1000000 in
set_option linter.unusedVariables false in
theorem lifted_FnExactJointsEvenly (os : Os) (started : os.Started) (H : Type) (enc : TypeId × Value → H) :
    ReturnsInHanded {} Try.checked os 5 .any (Rows.fnExactJointsEvenlySpec.pre6 enc Try.prog Try.f5 Rows.fnExactJointsEvenlyRow.domain false) (Rows.fnExactJointsEvenlySpec.post enc Try.prog Try.f5 false true false false) := by
  refine returnsInHanded_of_change (C := Try.checked) ownNone started (by kernel_rfl) Try.func5
    (ChangeSpec.witness6 (enc := enc) (C := Try.checked) false ⟨#[], #[.agg #[.int .i64 0, .int .i64 0, .int .i64 0, .int .i64 0], .int .i64 0, .int .i64 0], []⟩ 8 (by kernel_rfl) (by kernel_rfl) (by kernel_rfl) (by kernel_rfl)) ?_
  intro W base args ds gs before hval0 hW hcnd _
  have hval : ∀ (j : Nat) t v, Try.f5.params[j]? = some t → args[j]? = some v → Value.okWide Try.prog W .any base t v := hval0
  have hW' := hW
  obtain ⟨p, q, hA0, hV, rfl, hfz, hnd⟩ := hW
  have hA : DataW.TrodAll enc Try.prog W 0 (fun _ => true) true Try.f5.params.toList args.toList ds p := hA0
  rw [Try.params5] at hA hval
  obtain ⟨v0, vs0, d0, ds0, p0, q0, hargs, rfl, rfl, h0, r0⟩ := trodAll_cons hA
  obtain ⟨v1, vs1, d1, ds1, p1, q1, rfl, rfl, rfl, h1, r1⟩ := trodAll_cons r0
  obtain ⟨v2, vs2, d2, ds2, p2, q2, rfl, rfl, rfl, h2, r2⟩ := trodAll_cons r1
  obtain ⟨rfl, rfl, rfl⟩ := trodAll_nil r2
  obtain rfl : args = #[v0, v1, v2] := by cases args; simp_all
  obtain ⟨rfl, rfl⟩ := trodVars_none hV
  have k0 := h0
  have lt0 : ∀ x ∈ p0, x.block < W.heap.size := by obtain ⟨m, hm⟩ := k0; exact DataW.trod_lt m _ _ _ hm
  obtain ⟨c0_0, c0_1, c0_2, c0_3, y0_0, y0_1, y0_2, y0_3, m0, rfl, _, _, z0_0, z0_1, z0_2, z0_3⟩ := Joins.open_agg4 Try.underlying23 (by kernel_rfl) (by kernel_rfl) (hval 0 23 v0 rfl rfl) h0
  obtain ⟨a0_0, e0_0, _, w0_0⟩ := DataW.trod_int Try.underlying2 z0_0
  simp only [List.cons.injEq, and_true] at e0_0
  subst e0_0
  obtain ⟨a0_1, e0_1, _, w0_1⟩ := DataW.trod_int Try.underlying2 z0_1
  simp only [List.cons.injEq, and_true] at e0_1
  subst e0_1
  obtain ⟨a0_2, e0_2, _, w0_2⟩ := DataW.trod_int Try.underlying2 z0_2
  simp only [List.cons.injEq, and_true] at e0_2
  subst e0_2
  obtain ⟨a0_3, e0_3, _, w0_3⟩ := DataW.trod_int Try.underlying2 z0_3
  simp only [List.cons.injEq, and_true] at e0_3
  subst e0_3
  obtain ⟨a1, rfl, rfl, rfl, w1⟩ := open_int Try.underlying2 (hval 1 2 v1 rfl rfl) h1
  obtain ⟨a2, rfl, rfl, rfl, w2⟩ := open_int Try.underlying2 (hval 2 2 v2 rfl rfl) h2
  clear hA0 hval0
  refine (exactJointsEvenly_walk a0_0 (bounds_i64 w0_0).1 (bounds_i64 w0_0).2 a0_1 (bounds_i64 w0_1).1 (bounds_i64 w0_1).2 a0_2 (bounds_i64 w0_2).1 (bounds_i64 w0_2).2 a0_3 (bounds_i64 w0_3).1 (bounds_i64 w0_3).2 a1 (bounds_i64 w1).1 (bounds_i64 w1).2 a2 (bounds_i64 w2).1 (bounds_i64 w2).2 W).mono fun e W' ⟨he, bel⟩ => ?_
  subst he
  exact ⟨_, rfl, _, _, _, [], _, [], hW', trodAll_mk1 (shut_bool Try.underlying4 _), (trodAll_cons_mk (Below.trod laidOut (by kernel_rfl) (of_decide_eq_true (by kernel_rfl)) k0 bel lt0) (trodAll_cons_mk (shut_int Try.underlying2 w1) (trodAll_cons_mk (shut_int Try.underlying2 w2) trodAll_mk0))), rfl, bel.frame _, fun h => by cases h⟩

/-- The statement, proved. -/
theorem fnExactJointsEvenly_holds : Rows.FnExactJointsEvenlySaid :=
  OpenClaim.holds_of_wide 5 Try.f5 rfl rfl rfl rfl rfl rfl rfl ⟨rfl, rfl, rfl, rfl, rfl⟩ rfl rfl rfl rfl rfl (by kernel_rfl) Try.func5 (by kernel_rfl)
    (of_decide_eq_true (by kernel_rfl)) (by unfold Func.isWrapper; first | (rw [if_pos (by decide +kernel)]; kernel_rfl) | (rw [if_neg (by decide +kernel)]; exact ⟨rfl, rfl⟩))
    (fun os started H enc _ => lifted_FnExactJointsEvenly os started H enc)
end Go.Proofs.Ytgpcehokdfehjaa
