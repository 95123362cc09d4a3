/- For all arguments, the program's CoursesFor returns what the reference's CoursesFor returns (the statement FnExactCoursesFor); no condition. -/
import Derived.Test.YtgpcehokdfehjaaGaugeF
namespace Go.Proofs.Ytgpcehokdfehjaa
open Go.ChangeShapes Go.WideShapes Go.ChangeAt Go.RowKit
set_option maxHeartbeats 2000000 in
set_option linter.unusedVariables false in
theorem exactCoursesFor_walk (a0_0 : Int) (l0_0 : -9223372036854775808 ≤ a0_0) (u0_0 : a0_0 ≤ 9223372036854775807) (a0_1 : Int) (l0_1 : -9223372036854775808 ≤ a0_1) (u0_1 : a0_1 ≤ 9223372036854775807) (a0_2 : Int) (l0_2 : -9223372036854775808 ≤ a0_2) (u0_2 : a0_2 ≤ 9223372036854775807) (a0_3 : Int) (l0_3 : -9223372036854775808 ≤ a0_3) (u0_3 : a0_3 ≤ 9223372036854775807) (a1 : Int) (l1 : -9223372036854775808 ≤ a1) (u1 : a1 ≤ 9223372036854775807) (a2 : Int) (l2 : -9223372036854775808 ≤ a2) (u2 : a2 ≤ 9223372036854775807) (a3 : Int) (l3 : -9223372036854775808 ≤ a3) (u3 : a3 ≤ 9223372036854775807) (w : World) :
    Calls Try.prog 3 #[.agg #[.int .i64 a0_0, .int .i64 a0_1, .int .i64 a0_2, .int .i64 a0_3], .int .i64 a1, .int .i64 a2, .int .i64 a3] w fun e w' => e = .returned (.bool true) ∧ Below w.heap.size w w' := by
  go_enter Try.func3, Try.ntmps3
  go_wp2_with fail
  refine (toFormat_any _ _ _ _ _).mono ?_
  rintro e1 w1 ⟨rfl, hb1⟩
  have hz1 := hb1.size
  try simp at hz1
  have ha1 : Below w.heap.size w w1 := below_call (by repeat (first | exact Below.refl _ _ | assumption | refine Below.drew ?_ | refine below_drewN ?_ _ | refine Below.alloc ?_ (by first | omega | (simp; done) | (simp; omega)) _ | refine Below.setCell ?_ (by first | omega | (simp; done) | (simp; omega)) _)) hb1
  have f0_0 : w1.cell? ⟨w.heap.size, 0, none⟩ = some (.int .i64 a0_0) := by rw [(bcell hb1).1 _ _ (by first | omega | (simp; done) | (simp; omega))]; simp [go_sem]
  have f0_1 : w1.cell? ⟨w.heap.size, 1, none⟩ = some (.int .i64 a0_1) := by rw [(bcell hb1).1 _ _ (by first | omega | (simp; done) | (simp; omega))]; simp [go_sem]
  have f0_2 : w1.cell? ⟨w.heap.size, 2, none⟩ = some (.int .i64 a0_2) := by rw [(bcell hb1).1 _ _ (by first | omega | (simp; done) | (simp; omega))]; simp [go_sem]
  have f0_3 : w1.cell? ⟨w.heap.size, 3, none⟩ = some (.int .i64 a0_3) := by rw [(bcell hb1).1 _ _ (by first | omega | (simp; done) | (simp; omega))]; simp [go_sem]
  go_wp2_with fail
  refine (specCoursesFor_any _ _ _ _ _ _ _ _).mono ?_
  rintro e2 w2 ⟨rfl, hb2⟩
  have hz2 := hb2.size
  try simp at hz2
  have ha2 : Below w.heap.size w w2 := below_call (by repeat (first | exact Below.refl _ _ | assumption | refine Below.drew ?_ | refine below_drewN ?_ _ | refine Below.alloc ?_ (by first | omega | (simp; done) | (simp; omega)) _ | refine Below.setCell ?_ (by first | omega | (simp; done) | (simp; omega)) _)) hb2
  replace f0_0 := keep1 hb2 (by first | exact f0_0 | exact keepA f0_0 | exact keepA (keepA f0_0) | exact keepA (keepA (keepA f0_0)))
  replace f0_1 := keep1 hb2 (by first | exact f0_1 | exact keepA f0_1 | exact keepA (keepA f0_1) | exact keepA (keepA (keepA f0_1)))
  replace f0_2 := keep1 hb2 (by first | exact f0_2 | exact keepA f0_2 | exact keepA (keepA f0_2) | exact keepA (keepA (keepA f0_2)))
  replace f0_3 := keep1 hb2 (by first | exact f0_3 | exact keepA f0_3 | exact keepA (keepA f0_3) | exact keepA (keepA (keepA f0_3)))
  go_wp2_with fail
  refine (toFormat_any _ _ _ _ _).mono ?_
  rintro e3 w3 ⟨rfl, hb3⟩
  have hz3 := hb3.size
  try simp at hz3
  have ha3 : Below w.heap.size w w3 := below_call (by repeat (first | exact Below.refl _ _ | assumption | refine Below.drew ?_ | refine below_drewN ?_ _ | refine Below.alloc ?_ (by first | omega | (simp; done) | (simp; omega)) _ | refine Below.setCell ?_ (by first | omega | (simp; done) | (simp; omega)) _)) hb3
  replace f0_0 := keep1 hb3 (by first | exact f0_0 | exact keepA f0_0 | exact keepA (keepA f0_0) | exact keepA (keepA (keepA f0_0)))
  replace f0_1 := keep1 hb3 (by first | exact f0_1 | exact keepA f0_1 | exact keepA (keepA f0_1) | exact keepA (keepA (keepA f0_1)))
  replace f0_2 := keep1 hb3 (by first | exact f0_2 | exact keepA f0_2 | exact keepA (keepA f0_2) | exact keepA (keepA (keepA f0_2)))
  replace f0_3 := keep1 hb3 (by first | exact f0_3 | exact keepA f0_3 | exact keepA (keepA f0_3) | exact keepA (keepA (keepA f0_3)))
  go_wp2_with fail
  refine (coursesFor_any _ _ _ _ _ _ _ _).mono ?_
  rintro e4 w4 ⟨rfl, hb4⟩
  have hz4 := hb4.size
  try simp at hz4
  have ha4 : Below w.heap.size w w4 := below_call (by repeat (first | exact Below.refl _ _ | assumption | refine Below.drew ?_ | refine below_drewN ?_ _ | refine Below.alloc ?_ (by first | omega | (simp; done) | (simp; omega)) _ | refine Below.setCell ?_ (by first | omega | (simp; done) | (simp; omega)) _)) hb4
  replace f0_0 := keep1 hb4 (by first | exact f0_0 | exact keepA f0_0 | exact keepA (keepA f0_0) | exact keepA (keepA (keepA f0_0)))
  replace f0_1 := keep1 hb4 (by first | exact f0_1 | exact keepA f0_1 | exact keepA (keepA f0_1) | exact keepA (keepA (keepA f0_1)))
  replace f0_2 := keep1 hb4 (by first | exact f0_2 | exact keepA f0_2 | exact keepA (keepA f0_2) | exact keepA (keepA (keepA f0_2)))
  replace f0_3 := keep1 hb4 (by first | exact f0_3 | exact keepA f0_3 | exact keepA (keepA f0_3) | exact keepA (keepA (keepA f0_3)))
  go_wp2
  go_ret
  exact ⟨rfl, (by repeat (first | exact Below.refl _ _ | assumption | refine Below.drew ?_ | refine below_drewN ?_ _ | refine Below.alloc ?_ (by first | omega | (simp; done) | (simp; omega)) _ | refine Below.setCell ?_ (by first | omega | (simp; done) | (simp; omega)) _))⟩
/-! ### The row's step: the arguments are opened, the walk is called, the arguments read as before. -/
set_option maxRecDepth 100000 in
set_option maxHeartbeats 1000000 in
set_option linter.unusedVariables false in
theorem lifted_FnExactCoursesFor (os : Os) (started : os.Started) (H : Type) (enc : TypeId × Value → H) :
    ReturnsInHanded {} Try.checked os 3 .any (Rows.fnExactCoursesForSpec.pre6 enc Try.prog Try.f3 Rows.fnExactCoursesForRow.domain false) (Rows.fnExactCoursesForSpec.post enc Try.prog Try.f3 false true false false) := by
  refine returnsInHanded_of_change (C := Try.checked) ownNone started (by kernel_rfl) Try.func3
    (ChangeSpec.witness6 (enc := enc) (C := Try.checked) false ⟨#[], #[.agg #[.int .i64 0, .int .i64 0, .int .i64 0, .int .i64 0], .int .i64 0, .int .i64 0, .int .i64 0], []⟩ 8 (by kernel_rfl) (by kernel_rfl) (by kernel_rfl) (by kernel_rfl)) ?_
  intro W base args ds gs before hval0 hW hcnd _
  have hval : ∀ (j : Nat) t v, Try.f3.params[j]? = some t → args[j]? = some v → Value.okWide Try.prog W .any base t v := hval0
  have hW' := hW
  obtain ⟨p, q, hA0, hV, rfl, hfz, hnd⟩ := hW
  have hA : DataW.TrodAll enc Try.prog W 0 (fun _ => true) true Try.f3.params.toList args.toList ds p := hA0
  rw [Try.params3] at hA hval
  obtain ⟨v0, vs0, d0, ds0, p0, q0, hargs, rfl, rfl, h0, r0⟩ := trodAll_cons hA
  obtain ⟨v1, vs1, d1, ds1, p1, q1, rfl, rfl, rfl, h1, r1⟩ := trodAll_cons r0
  obtain ⟨v2, vs2, d2, ds2, p2, q2, rfl, rfl, rfl, h2, r2⟩ := trodAll_cons r1
  obtain ⟨v3, vs3, d3, ds3, p3, q3, rfl, rfl, rfl, h3, r3⟩ := trodAll_cons r2
  obtain ⟨rfl, rfl, rfl⟩ := trodAll_nil r3
  obtain rfl : args = #[v0, v1, v2, v3] := by cases args; simp_all
  obtain ⟨rfl, rfl⟩ := trodVars_none hV
  have k0 := h0
  have lt0 : ∀ x ∈ p0, x.block < W.heap.size := by obtain ⟨m, hm⟩ := k0; exact DataW.trod_lt m _ _ _ hm
  obtain ⟨c0_0, c0_1, c0_2, c0_3, y0_0, y0_1, y0_2, y0_3, m0, rfl, _, _, z0_0, z0_1, z0_2, z0_3⟩ := Joins.open_agg4 Try.underlying23 (by kernel_rfl) (by kernel_rfl) (hval 0 23 v0 rfl rfl) h0
  obtain ⟨a0_0, e0_0, _, w0_0⟩ := DataW.trod_int Try.underlying2 z0_0
  simp only [List.cons.injEq, and_true] at e0_0
  subst e0_0
  obtain ⟨a0_1, e0_1, _, w0_1⟩ := DataW.trod_int Try.underlying2 z0_1
  simp only [List.cons.injEq, and_true] at e0_1
  subst e0_1
  obtain ⟨a0_2, e0_2, _, w0_2⟩ := DataW.trod_int Try.underlying2 z0_2
  simp only [List.cons.injEq, and_true] at e0_2
  subst e0_2
  obtain ⟨a0_3, e0_3, _, w0_3⟩ := DataW.trod_int Try.underlying2 z0_3
  simp only [List.cons.injEq, and_true] at e0_3
  subst e0_3
  obtain ⟨a1, rfl, rfl, rfl, w1⟩ := open_int Try.underlying2 (hval 1 2 v1 rfl rfl) h1
  obtain ⟨a2, rfl, rfl, rfl, w2⟩ := open_int Try.underlying2 (hval 2 2 v2 rfl rfl) h2
  obtain ⟨a3, rfl, rfl, rfl, w3⟩ := open_int Try.underlying2 (hval 3 2 v3 rfl rfl) h3
  clear hA0 hval0
  refine (exactCoursesFor_walk a0_0 (bounds_i64 w0_0).1 (bounds_i64 w0_0).2 a0_1 (bounds_i64 w0_1).1 (bounds_i64 w0_1).2 a0_2 (bounds_i64 w0_2).1 (bounds_i64 w0_2).2 a0_3 (bounds_i64 w0_3).1 (bounds_i64 w0_3).2 a1 (bounds_i64 w1).1 (bounds_i64 w1).2 a2 (bounds_i64 w2).1 (bounds_i64 w2).2 a3 (bounds_i64 w3).1 (bounds_i64 w3).2 W).mono fun e W' ⟨he, bel⟩ => ?_
  subst he
  exact ⟨_, rfl, _, _, _, [], _, [], hW', trodAll_mk1 (shut_bool Try.underlying4 _), (trodAll_cons_mk (Below.trod laidOut (by kernel_rfl) (of_decide_eq_true (by kernel_rfl)) k0 bel lt0) (trodAll_cons_mk (shut_int Try.underlying2 w1) (trodAll_cons_mk (shut_int Try.underlying2 w2) (trodAll_cons_mk (shut_int Try.underlying2 w3) trodAll_mk0)))), rfl, bel.frame _, fun h => by cases h⟩

/-- The statement, proved. -/
theorem fnExactCoursesFor_holds : Rows.FnExactCoursesForSaid :=
  OpenClaim.holds_of_wide 3 Try.f3 rfl rfl rfl rfl rfl rfl rfl ⟨rfl, rfl, rfl, rfl, rfl⟩ rfl rfl rfl rfl rfl (by kernel_rfl) Try.func3 (by kernel_rfl)
    (of_decide_eq_true (by kernel_rfl)) (by unfold Func.isWrapper; first | (rw [if_pos (by decide +kernel)]; kernel_rfl) | (rw [if_neg (by decide +kernel)]; exact ⟨rfl, rfl⟩))
    (fun os started H enc _ => lifted_FnExactCoursesFor os started H enc)
end Go.Proofs.Ytgpcehokdfehjaa
