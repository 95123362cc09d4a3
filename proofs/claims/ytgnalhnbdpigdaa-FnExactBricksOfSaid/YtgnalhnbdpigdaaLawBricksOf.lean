/- For all arguments, the program's BricksOf returns what the reference's BricksOf returns (the statement FnExactBricksOf); no condition. -/
import Derived.Test.YtgnalhnbdpigdaaPieceB
namespace Go.Proofs.Ytgnalhnbdpigdaa
open Go.ChangeShapes Go.WideShapes Go.ChangeAt Go.RowKit
set_option maxHeartbeats 4000000 in
set_option linter.unusedVariables false in
theorem exactBricksOf_walk (l : Int) (l0 : -9223372036854775808 ≤ l) (u0 : l ≤ 9223372036854775807) (d : Int) (l1 : -9223372036854775808 ≤ d) (u1 : d ≤ 9223372036854775807) (h : Int) (l2 : -9223372036854775808 ≤ h) (u2 : h ≤ 9223372036854775807) (j : Int) (l3 : -9223372036854775808 ≤ j) (u3 : j ≤ 9223372036854775807)
    (pl : Int) (l4 : -9223372036854775808 ≤ pl) (u4 : pl ≤ 9223372036854775807) (ph : Int) (l5 : -9223372036854775808 ≤ ph) (u5 : ph ≤ 9223372036854775807) (pk : Int) (l6 : -9223372036854775808 ≤ pk) (u6 : pk ≤ 9223372036854775807) (w : World) :
    Calls Try.prog 6 #[.agg #[.int .i64 l, .int .i64 d, .int .i64 h, .int .i64 j], .agg #[.int .i64 pl, .int .i64 ph, .int .i64 pk]] w fun e w' => e = .returned (.bool true) ∧ Below w.heap.size w w' := by
  go_enter Try.func6, Try.ntmps6
  go_wp2_with fail
  go_region_held3 (fun w' => w'.cell? ⟨w.heap.size, 0, none⟩ = some (.int .i64 l) ∧ w'.cell? ⟨w.heap.size, 1, none⟩ = some (.int .i64 d) ∧ w'.cell? ⟨w.heap.size, 2, none⟩ = some (.int .i64 h) ∧ w'.cell? ⟨w.heap.size, 3, none⟩ = some (.int .i64 j) ∧ w'.cell? ⟨w.heap.size + 1, 0, none⟩ = some (.int .i64 pl) ∧ w'.cell? ⟨w.heap.size + 1, 1, none⟩ = some (.int .i64 ph) ∧ w'.cell? ⟨w.heap.size + 1, 2, none⟩ = some (.int .i64 pk)) (first | exact keep7 hbx (by assumption) | (simp [go_sem]; done) | assumption)
    (first | (go_at_call 22; refine (toFormat_any _ _ _ _ _).mono ?_; rintro e wx ⟨rfl, hbx⟩; have ha1 : Below w.heap.size w wx := below_call (by repeat (first | exact Below.refl _ _ | assumption | refine Below.drew ?_ | refine below_drewN ?_ _ | refine Below.alloc ?_ (by first | omega | (simp; done) | (simp; omega)) _ | refine Below.setCell ?_ (by first | omega | (simp; done) | (simp; omega)) _)) hbx) | (go_at_call 23; refine (toPiece_any _ _ _ _).mono ?_; rintro e wx ⟨rfl, hbx⟩; have ha1 : Below w.heap.size w wx := below_call (by repeat (first | exact Below.refl _ _ | assumption | refine Below.drew ?_ | refine below_drewN ?_ _ | refine Below.alloc ?_ (by first | omega | (simp; done) | (simp; omega)) _ | refine Below.setCell ?_ (by first | omega | (simp; done) | (simp; omega)) _)) hbx) | (go_at_call 21; refine (specBricksOf_any _ _ _ _ _ _ _ _).mono ?_; rintro e wx ⟨rfl, hbx⟩; have ha1 : Below w.heap.size w wx := below_call (by repeat (first | exact Below.refl _ _ | assumption | refine Below.drew ?_ | refine below_drewN ?_ _ | refine Below.alloc ?_ (by first | omega | (simp; done) | (simp; omega)) _ | refine Below.setCell ?_ (by first | omega | (simp; done) | (simp; omega)) _)) hbx))
  all_goals
    go_wp2_with fail
    go_region_held3 (fun w' => w'.cell? ⟨w.heap.size, 0, none⟩ = some (.int .i64 l) ∧ w'.cell? ⟨w.heap.size, 1, none⟩ = some (.int .i64 d) ∧ w'.cell? ⟨w.heap.size, 2, none⟩ = some (.int .i64 h) ∧ w'.cell? ⟨w.heap.size, 3, none⟩ = some (.int .i64 j) ∧ w'.cell? ⟨w.heap.size + 1, 0, none⟩ = some (.int .i64 pl) ∧ w'.cell? ⟨w.heap.size + 1, 1, none⟩ = some (.int .i64 ph) ∧ w'.cell? ⟨w.heap.size + 1, 2, none⟩ = some (.int .i64 pk)) (first | exact keep7 hbx (by assumption) | (simp [go_sem]; done) | assumption)
      (first | (go_at_call 22; refine (toFormat_any _ _ _ _ _).mono ?_; rintro e wx ⟨rfl, hbx⟩; have ha1 : Below w.heap.size w wx := below_call (by repeat (first | exact Below.refl _ _ | assumption | refine Below.drew ?_ | refine below_drewN ?_ _ | refine Below.alloc ?_ (by first | omega | (simp; done) | (simp; omega)) _ | refine Below.setCell ?_ (by first | omega | (simp; done) | (simp; omega)) _)) hbx) | (go_at_call 23; refine (toPiece_any _ _ _ _).mono ?_; rintro e wx ⟨rfl, hbx⟩; have ha1 : Below w.heap.size w wx := below_call (by repeat (first | exact Below.refl _ _ | assumption | refine Below.drew ?_ | refine below_drewN ?_ _ | refine Below.alloc ?_ (by first | omega | (simp; done) | (simp; omega)) _ | refine Below.setCell ?_ (by first | omega | (simp; done) | (simp; omega)) _)) hbx) | (go_at_call 24; refine (bricksOfE_any _ _ _ _ _ _ _ _).mono ?_; rintro e wx ⟨rfl, hbx⟩; have ha1 : Below w.heap.size w wx := below_call (by repeat (first | exact Below.refl _ _ | assumption | refine Below.drew ?_ | refine below_drewN ?_ _ | refine Below.alloc ?_ (by first | omega | (simp; done) | (simp; omega)) _ | refine Below.setCell ?_ (by first | omega | (simp; done) | (simp; omega)) _)) hbx))
    all_goals
      go_wp2
      go_ret
      exact ⟨rfl, (by repeat (first | exact Below.refl _ _ | assumption | refine Below.drew ?_ | refine below_drewN ?_ _ | refine Below.alloc ?_ (by first | omega | (simp; done) | (simp; omega)) _ | refine Below.setCell ?_ (by first | omega | (simp; done) | (simp; omega)) _))⟩
/-! ### The row's step: the arguments are opened, the walk is called, the arguments read as before. -/
set_option maxRecDepth 100000 in
set_option maxHeartbeats 1000000 in
set_option linter.unusedVariables false in
theorem lifted_FnExactBricksOf (os : Os) (started : os.Started) (H : Type) (enc : TypeId × Value → H) :
    ReturnsInHanded {} Try.checked os 6 .any (Rows.fnExactBricksOfSpec.pre6 enc Try.prog Try.f6 Rows.fnExactBricksOfRow.domain false) (Rows.fnExactBricksOfSpec.post enc Try.prog Try.f6 false true false false) := by
  refine returnsInHanded_of_change (C := Try.checked) ownNone started (by kernel_rfl) Try.func6
    (ChangeSpec.witness6 (enc := enc) (C := Try.checked) false ⟨#[], #[.agg #[.int .i64 0, .int .i64 0, .int .i64 0, .int .i64 0], .agg #[.int .i64 0, .int .i64 0, .int .i64 0]], []⟩ 8 (by kernel_rfl) (by kernel_rfl) (by kernel_rfl) (by kernel_rfl)) ?_
  intro W base args ds gs before hval0 hW hcnd _
  have hval : ∀ (j : Nat) t v, Try.f6.params[j]? = some t → args[j]? = some v → Value.okWide Try.prog W .any base t v := hval0
  have hW' := hW
  obtain ⟨p, q, hA0, hV, rfl, hfz, hnd⟩ := hW
  have hA : DataW.TrodAll enc Try.prog W 0 (fun _ => true) true Try.f6.params.toList args.toList ds p := hA0
  rw [Try.params6] at hA hval
  obtain ⟨v0, vs0, d0, ds0, p0, q0, hargs, rfl, rfl, h0, r0⟩ := trodAll_cons hA
  obtain ⟨v1, vs1, d1, ds1, p1, q1, rfl, rfl, rfl, h1, r1⟩ := trodAll_cons r0
  obtain ⟨rfl, rfl, rfl⟩ := trodAll_nil r1
  obtain rfl : args = #[v0, v1] := by cases args; simp_all
  obtain ⟨rfl, rfl⟩ := trodVars_none hV
  have k0 := h0
  have lt0 : ∀ x ∈ p0, x.block < W.heap.size := by obtain ⟨m, hm⟩ := k0; exact DataW.trod_lt m _ _ _ hm
  obtain ⟨c0_0, c0_1, c0_2, c0_3, y0_0, y0_1, y0_2, y0_3, m0, rfl, _, _, z0_0, z0_1, z0_2, z0_3⟩ := Joins.open_agg4 Try.underlying34 (by kernel_rfl) (by kernel_rfl) (hval 0 34 v0 rfl rfl) h0
  obtain ⟨a0_0, e0_0, _, w0_0⟩ := DataW.trod_int Try.underlying2 z0_0
  simp only [List.cons.injEq, and_true] at e0_0
  subst e0_0
  obtain ⟨a0_1, e0_1, _, w0_1⟩ := DataW.trod_int Try.underlying2 z0_1
  simp only [List.cons.injEq, and_true] at e0_1
  subst e0_1
  obtain ⟨a0_2, e0_2, _, w0_2⟩ := DataW.trod_int Try.underlying2 z0_2
  simp only [List.cons.injEq, and_true] at e0_2
  subst e0_2
  obtain ⟨a0_3, e0_3, _, w0_3⟩ := DataW.trod_int Try.underlying2 z0_3
  simp only [List.cons.injEq, and_true] at e0_3
  subst e0_3
  have k1 := h1
  have lt1 : ∀ x ∈ p1, x.block < W.heap.size := by obtain ⟨m, hm⟩ := k1; exact DataW.trod_lt m _ _ _ hm
  obtain ⟨c1_0, c1_1, c1_2, y1_0, y1_1, y1_2, m1, rfl, _, _, z1_0, z1_1, z1_2⟩ := Joins.open_agg3 Try.underlying36 (by kernel_rfl) (by kernel_rfl) (hval 1 36 v1 rfl rfl) h1
  obtain ⟨a1_0, e1_0, _, w1_0⟩ := DataW.trod_int Try.underlying2 z1_0
  simp only [List.cons.injEq, and_true] at e1_0
  subst e1_0
  obtain ⟨a1_1, e1_1, _, w1_1⟩ := DataW.trod_int Try.underlying2 z1_1
  simp only [List.cons.injEq, and_true] at e1_1
  subst e1_1
  obtain ⟨a1_2, e1_2, _, w1_2⟩ := DataW.trod_int Try.underlying2 z1_2
  simp only [List.cons.injEq, and_true] at e1_2
  subst e1_2
  clear hA0 hval0
  refine (exactBricksOf_walk a0_0 (bounds_i64 w0_0).1 (bounds_i64 w0_0).2 a0_1 (bounds_i64 w0_1).1 (bounds_i64 w0_1).2 a0_2 (bounds_i64 w0_2).1 (bounds_i64 w0_2).2 a0_3 (bounds_i64 w0_3).1 (bounds_i64 w0_3).2 a1_0 (bounds_i64 w1_0).1 (bounds_i64 w1_0).2 a1_1 (bounds_i64 w1_1).1 (bounds_i64 w1_1).2 a1_2 (bounds_i64 w1_2).1 (bounds_i64 w1_2).2 W).mono fun e W' ⟨he, bel⟩ => ?_
  subst he
  exact ⟨_, rfl, _, _, _, [], _, [], hW', trodAll_mk1 (shut_bool Try.underlying4 _), (trodAll_cons_mk (Below.trod laidOut (by kernel_rfl) (of_decide_eq_true (by kernel_rfl)) k0 bel lt0) (trodAll_cons_mk (Below.trod laidOut (by kernel_rfl) (of_decide_eq_true (by kernel_rfl)) k1 bel lt1) trodAll_mk0)), rfl, bel.frame _, fun h => by cases h⟩

/-- The statement, proved. -/
theorem fnExactBricksOf_holds : Rows.FnExactBricksOfSaid :=
  OpenClaim.holds_of_wide 6 Try.f6 rfl rfl rfl rfl rfl rfl rfl ⟨rfl, rfl, rfl, rfl, rfl⟩ rfl rfl rfl rfl rfl (by kernel_rfl) Try.func6 (by kernel_rfl)
    (of_decide_eq_true (by kernel_rfl)) (by unfold Func.isWrapper; first | (rw [if_pos (by decide +kernel)]; kernel_rfl) | (rw [if_neg (by decide +kernel)]; exact ⟨rfl, rfl⟩))
    (fun os started H enc _ => lifted_FnExactBricksOf os started H enc)
end Go.Proofs.Ytgnalhnbdpigdaa
