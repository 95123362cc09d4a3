/- For all arguments, the program's FlatWidths returns what the reference's FlatWidths returns (the statement FnExactFlatWidths); no condition. -/
import Derived.Test.YtjafjkndigchcaaArchG
namespace Go.Proofs.Ytjafjkndigchcaa
open Go.ChangeShapes Go.WideShapes Go.ChangeAt Go.RowKit
set_option maxHeartbeats 2000000 in
set_option linter.unusedVariables false in
theorem exactFlatWidths_walk (a0 : Int) (l0 : -9223372036854775808 ≤ a0) (u0 : a0 ≤ 9223372036854775807) (a1 : Int) (l1 : -9223372036854775808 ≤ a1) (u1 : a1 ≤ 9223372036854775807) (a2 : Int) (l2 : -9223372036854775808 ≤ a2) (u2 : a2 ≤ 9223372036854775807) (a3 : Int) (l3 : -9223372036854775808 ≤ a3) (u3 : a3 ≤ 9223372036854775807) (w : World) :
    Calls Try.prog 12 #[.int .i64 a0, .int .i64 a1, .int .i64 a2, .int .i64 a3] w fun e w' => e = .returned (.bool true) ∧ Below w.heap.size w w' := by
  go_enter Try.func12, Try.ntmps12
  go_wp2_with fail
  refine (specFlatWidths_any _ _ _ _ _).mono ?_
  rintro e1 w1 ⟨rfl, hb1⟩
  have hz1 := hb1.size
  try simp at hz1
  have ha1 : Below w.heap.size w w1 := below_call (by repeat (first | exact Below.refl _ _ | assumption | refine Below.drew ?_ | refine below_drewN ?_ _ | refine Below.alloc ?_ (by first | omega | (simp; done) | (simp; omega)) _ | refine Below.setCell ?_ (by first | omega | (simp; done) | (simp; omega)) _)) hb1
  go_wp2_with fail
  refine (flatWidths_any _ _ _ _ _).mono ?_
  rintro e2 w2 ⟨rfl, hb2⟩
  have hz2 := hb2.size
  try simp at hz2
  have ha2 : Below w.heap.size w w2 := below_call (by repeat (first | exact Below.refl _ _ | assumption | refine Below.drew ?_ | refine below_drewN ?_ _ | refine Below.alloc ?_ (by first | omega | (simp; done) | (simp; omega)) _ | refine Below.setCell ?_ (by first | omega | (simp; done) | (simp; omega)) _)) hb2
  have g0_0 : w2.cell? ⟨w1.heap.size, 0, none⟩ = some (.int .i64 (widI a0 a1 a2 a3).1) := by rw [(bcell hb2).1 _ _ (by first | omega | (simp; done) | (simp; omega))]; simp [go_sem]
  have g0_1 : w2.cell? ⟨w1.heap.size, 1, none⟩ = some (.int .i64 (widI a0 a1 a2 a3).2.1) := by rw [(bcell hb2).1 _ _ (by first | omega | (simp; done) | (simp; omega))]; simp [go_sem]
  have g1_0 : w2.cell? ⟨w1.heap.size + 1, 0, none⟩ = some (.int .i64 (widI a0 a1 a2 a3).2.2.1) := by rw [(bcell hb2).1 _ _ (by first | omega | (simp; done) | (simp; omega))]; simp [go_sem]
  have g1_1 : w2.cell? ⟨w1.heap.size + 1, 1, none⟩ = some (.int .i64 (widI a0 a1 a2 a3).2.2.2.1) := by rw [(bcell hb2).1 _ _ (by first | omega | (simp; done) | (simp; omega))]; simp [go_sem]
  have : w1.heap.size < w2.heap.size := by omega
  have : w1.heap.size ≤ w2.heap.size := by omega
  have : w1.heap.size ≤ w2.heap.size + 1 := by omega
  have : w1.heap.size + 1 < w2.heap.size := by omega
  have : w1.heap.size + 1 ≤ w2.heap.size := by omega
  have : w1.heap.size + 1 ≤ w2.heap.size + 1 := by omega
  go_wp2_with fail
  refine (eqFraction_same _ _ _).mono ?_
  rintro e3 w3 ⟨rfl, hb3⟩
  have hz3 := hb3.size
  try simp at hz3
  have ha3 : Below w.heap.size w w3 := below_call (by repeat (first | exact Below.refl _ _ | assumption | refine Below.drew ?_ | refine below_drewN ?_ _ | refine Below.alloc ?_ (by first | omega | (simp; done) | (simp; omega)) _ | refine Below.setCell ?_ (by first | omega | (simp; done) | (simp; omega)) _)) hb3
  replace g0_0 := keep1 hb3 (by first | exact g0_0 | exact keepA g0_0 | exact keepA (keepA g0_0) | exact keepA (keepA (keepA g0_0)))
  replace g0_1 := keep1 hb3 (by first | exact g0_1 | exact keepA g0_1 | exact keepA (keepA g0_1) | exact keepA (keepA (keepA g0_1)))
  replace g1_0 := keep1 hb3 (by first | exact g1_0 | exact keepA g1_0 | exact keepA (keepA g1_0) | exact keepA (keepA (keepA g1_0)))
  replace g1_1 := keep1 hb3 (by first | exact g1_1 | exact keepA g1_1 | exact keepA (keepA g1_1) | exact keepA (keepA (keepA g1_1)))
  have h0_0 : w3.cell? ⟨w2.heap.size, 0, none⟩ = some (.int .i64 (widI a0 a1 a2 a3).1) := by rw [(bcell hb3).1 _ _ (by first | omega | (simp; done) | (simp; omega))]; simp [go_sem]
  have h0_1 : w3.cell? ⟨w2.heap.size, 1, none⟩ = some (.int .i64 (widI a0 a1 a2 a3).2.1) := by rw [(bcell hb3).1 _ _ (by first | omega | (simp; done) | (simp; omega))]; simp [go_sem]
  have h1_0 : w3.cell? ⟨w2.heap.size + 1, 0, none⟩ = some (.int .i64 (widI a0 a1 a2 a3).2.2.1) := by rw [(bcell hb3).1 _ _ (by first | omega | (simp; done) | (simp; omega))]; simp [go_sem]
  have h1_1 : w3.cell? ⟨w2.heap.size + 1, 1, none⟩ = some (.int .i64 (widI a0 a1 a2 a3).2.2.2.1) := by rw [(bcell hb3).1 _ _ (by first | omega | (simp; done) | (simp; omega))]; simp [go_sem]
  have : w1.heap.size < w3.heap.size := by omega
  have : w1.heap.size ≤ w3.heap.size := by omega
  have : w1.heap.size ≤ w3.heap.size + 1 := by omega
  have : w1.heap.size + 1 < w3.heap.size := by omega
  have : w1.heap.size + 1 ≤ w3.heap.size := by omega
  have : w1.heap.size + 1 ≤ w3.heap.size + 1 := by omega
  have : w2.heap.size < w3.heap.size := by omega
  have : w2.heap.size ≤ w3.heap.size := by omega
  have : w2.heap.size ≤ w3.heap.size + 1 := by omega
  have : w2.heap.size + 1 < w3.heap.size := by omega
  have : w2.heap.size + 1 ≤ w3.heap.size := by omega
  have : w2.heap.size + 1 ≤ w3.heap.size + 1 := by omega
  go_wp2_with fail
  refine (eqFraction_same _ _ _).mono ?_
  rintro e4 w4 ⟨rfl, hb4⟩
  have hz4 := hb4.size
  try simp at hz4
  have ha4 : Below w.heap.size w w4 := below_call (by repeat (first | exact Below.refl _ _ | assumption | refine Below.drew ?_ | refine below_drewN ?_ _ | refine Below.alloc ?_ (by first | omega | (simp; done) | (simp; omega)) _ | refine Below.setCell ?_ (by first | omega | (simp; done) | (simp; omega)) _)) hb4
  replace g0_0 := keep1 hb4 (by first | exact g0_0 | exact keepA g0_0 | exact keepA (keepA g0_0) | exact keepA (keepA (keepA g0_0)))
  replace g0_1 := keep1 hb4 (by first | exact g0_1 | exact keepA g0_1 | exact keepA (keepA g0_1) | exact keepA (keepA (keepA g0_1)))
  replace g1_0 := keep1 hb4 (by first | exact g1_0 | exact keepA g1_0 | exact keepA (keepA g1_0) | exact keepA (keepA (keepA g1_0)))
  replace g1_1 := keep1 hb4 (by first | exact g1_1 | exact keepA g1_1 | exact keepA (keepA g1_1) | exact keepA (keepA (keepA g1_1)))
  replace h0_0 := keep1 hb4 (by first | exact h0_0 | exact keepA h0_0 | exact keepA (keepA h0_0) | exact keepA (keepA (keepA h0_0)))
  replace h0_1 := keep1 hb4 (by first | exact h0_1 | exact keepA h0_1 | exact keepA (keepA h0_1) | exact keepA (keepA (keepA h0_1)))
  replace h1_0 := keep1 hb4 (by first | exact h1_0 | exact keepA h1_0 | exact keepA (keepA h1_0) | exact keepA (keepA (keepA h1_0)))
  replace h1_1 := keep1 hb4 (by first | exact h1_1 | exact keepA h1_1 | exact keepA (keepA h1_1) | exact keepA (keepA (keepA h1_1)))
  have : w1.heap.size < w4.heap.size := by omega
  have : w1.heap.size ≤ w4.heap.size := by omega
  have : w1.heap.size ≤ w4.heap.size + 1 := by omega
  have : w1.heap.size + 1 < w4.heap.size := by omega
  have : w1.heap.size + 1 ≤ w4.heap.size := by omega
  have : w1.heap.size + 1 ≤ w4.heap.size + 1 := by omega
  have : w2.heap.size < w4.heap.size := by omega
  have : w2.heap.size ≤ w4.heap.size := by omega
  have : w2.heap.size ≤ w4.heap.size + 1 := by omega
  have : w2.heap.size + 1 < w4.heap.size := by omega
  have : w2.heap.size + 1 ≤ w4.heap.size := by omega
  have : w2.heap.size + 1 ≤ w4.heap.size + 1 := by omega
  go_wp2
  go_ret
  exact ⟨rfl, (by repeat (first | exact Below.refl _ _ | assumption | refine Below.drew ?_ | refine below_drewN ?_ _ | refine Below.alloc ?_ (by first | omega | (simp; done) | (simp; omega)) _ | refine Below.setCell ?_ (by first | omega | (simp; done) | (simp; omega)) _))⟩
/-! ### The row's step: the arguments are opened, the walk is called, the arguments read as before. -/
set_option maxRecDepth 100000 in
set_option maxHeartbeats 1000000 in
set_option linter.unusedVariables false in
theorem lifted_FnExactFlatWidths (os : Os) (started : os.Started) (H : Type) (enc : TypeId × Value → H) :
    ReturnsInHanded {} Try.checked os 12 .any (Rows.fnExactFlatWidthsSpec.pre6 enc Try.prog Try.f12 Rows.fnExactFlatWidthsRow.domain false) (Rows.fnExactFlatWidthsSpec.post enc Try.prog Try.f12 false true false false) := by
  refine returnsInHanded_of_change (C := Try.checked) ownNone started (by kernel_rfl) Try.func12
    (ChangeSpec.witness6 (enc := enc) (C := Try.checked) false ⟨#[], #[.int .i64 0, .int .i64 0, .int .i64 0, .int .i64 0], []⟩ 8 (by kernel_rfl) (by kernel_rfl) (by kernel_rfl) (by kernel_rfl)) ?_
  intro W base args ds gs before hval0 hW hcnd _
  have hval : ∀ (j : Nat) t v, Try.f12.params[j]? = some t → args[j]? = some v → Value.okWide Try.prog W .any base t v := hval0
  have hW' := hW
  obtain ⟨p, q, hA0, hV, rfl, hfz, hnd⟩ := hW
  have hA : DataW.TrodAll enc Try.prog W 0 (fun _ => true) true Try.f12.params.toList args.toList ds p := hA0
  rw [Try.params12] at hA hval
  obtain ⟨v0, vs0, d0, ds0, p0, q0, hargs, rfl, rfl, h0, r0⟩ := trodAll_cons hA
  obtain ⟨v1, vs1, d1, ds1, p1, q1, rfl, rfl, rfl, h1, r1⟩ := trodAll_cons r0
  obtain ⟨v2, vs2, d2, ds2, p2, q2, rfl, rfl, rfl, h2, r2⟩ := trodAll_cons r1
  obtain ⟨v3, vs3, d3, ds3, p3, q3, rfl, rfl, rfl, h3, r3⟩ := trodAll_cons r2
  obtain ⟨rfl, rfl, rfl⟩ := trodAll_nil r3
  obtain rfl : args = #[v0, v1, v2, v3] := by cases args; simp_all
  obtain ⟨rfl, rfl⟩ := trodVars_none hV
  obtain ⟨a0, rfl, rfl, rfl, w0⟩ := open_int Try.underlying2 (hval 0 2 v0 rfl rfl) h0
  obtain ⟨a1, rfl, rfl, rfl, w1⟩ := open_int Try.underlying2 (hval 1 2 v1 rfl rfl) h1
  obtain ⟨a2, rfl, rfl, rfl, w2⟩ := open_int Try.underlying2 (hval 2 2 v2 rfl rfl) h2
  obtain ⟨a3, rfl, rfl, rfl, w3⟩ := open_int Try.underlying2 (hval 3 2 v3 rfl rfl) h3
  clear hA0 hval0
  refine (exactFlatWidths_walk a0 (bounds_i64 w0).1 (bounds_i64 w0).2 a1 (bounds_i64 w1).1 (bounds_i64 w1).2 a2 (bounds_i64 w2).1 (bounds_i64 w2).2 a3 (bounds_i64 w3).1 (bounds_i64 w3).2 W).mono fun e W' ⟨he, bel⟩ => ?_
  subst he
  exact ⟨_, rfl, _, _, _, [], _, [], hW', trodAll_mk1 (shut_bool Try.underlying4 _), (trodAll_cons_mk (shut_int Try.underlying2 w0) (trodAll_cons_mk (shut_int Try.underlying2 w1) (trodAll_cons_mk (shut_int Try.underlying2 w2) (trodAll_cons_mk (shut_int Try.underlying2 w3) trodAll_mk0)))), rfl, bel.frame _, fun h => by cases h⟩

/-- The statement, proved. -/
theorem fnExactFlatWidths_holds : Rows.FnExactFlatWidthsSaid :=
  OpenClaim.holds_of_wide 12 Try.f12 rfl rfl rfl rfl rfl rfl rfl ⟨rfl, rfl, rfl, rfl, rfl⟩ rfl rfl rfl rfl rfl (by kernel_rfl) Try.func12 (by kernel_rfl)
    (of_decide_eq_true (by kernel_rfl)) (by unfold Func.isWrapper; first | (rw [if_pos (by decide +kernel)]; kernel_rfl) | (rw [if_neg (by decide +kernel)]; exact ⟨rfl, rfl⟩))
    (fun os started H enc _ => lifted_FnExactFlatWidths os started H enc)
end Go.Proofs.Ytjafjkndigchcaa
