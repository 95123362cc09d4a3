/- For all arguments, the program's BestGauge returns what the reference's BestGauge returns (the statement FnExactBestGauge); no condition. -/
import Derived.Test.YtgpcehokdfehjaaBest
namespace Go.Proofs.Ytgpcehokdfehjaa
open Go.ChangeShapes Go.WideShapes Go.ChangeAt Go.RowKit
set_option maxHeartbeats 4000000 in
set_option linter.unusedVariables false in
theorem exactBestGauge_walk (a0_0 : Int) (l0_0 : -9223372036854775808 ≤ a0_0) (u0_0 : a0_0 ≤ 9223372036854775807) (a0_1 : Int) (l0_1 : -9223372036854775808 ≤ a0_1) (u0_1 : a0_1 ≤ 9223372036854775807) (a0_2 : Int) (l0_2 : -9223372036854775808 ≤ a0_2) (u0_2 : a0_2 ≤ 9223372036854775807) (a0_3 : Int) (l0_3 : -9223372036854775808 ≤ a0_3) (u0_3 : a0_3 ≤ 9223372036854775807) (a1 : Int) (l1 : -9223372036854775808 ≤ a1) (u1 : a1 ≤ 9223372036854775807) (a2 : Int) (l2 : -9223372036854775808 ≤ a2) (u2 : a2 ≤ 9223372036854775807) (a3 : Int) (l3 : -9223372036854775808 ≤ a3) (u3 : a3 ≤ 9223372036854775807) (a4 : Option Addr) (len4 cap4 : Nat) (z4 : List Int) (w : World) (hz : IsRow .i64 w a4 len4 cap4 z4) :
    Calls Try.prog 8 #[.agg #[.int .i64 a0_0, .int .i64 a0_1, .int .i64 a0_2, .int .i64 a0_3], .int .i64 a1, .int .i64 a2, .int .i64 a3, .slice a4 len4 cap4] w fun e w' => e = .returned (.bool true) ∧ Below w.heap.size w w' := by
  by_cases hbig : 1048576 < len4
  · have hbig' : (1048576 : Int) < (len4 : Int) := by omega
    clear hz
    go_enter Try.func8, Try.ntmps8
    go_wp2
    go_ret
    exact ⟨rfl, (by repeat (first | exact Below.refl _ _ | assumption | refine Below.drew ?_ | refine below_drewN ?_ _ | refine Below.alloc ?_ (by first | omega | (simp; done) | (simp; omega)) _ | refine Below.setCell ?_ (by first | omega | (simp; done) | (simp; omega)) _))⟩
  have hlen : len4 ≤ 1048576 := by omega
  have hlen' : ¬ (1048576 : Int) < (len4 : Int) := by omega
  clear hbig
  have HS := Lib.hid fun a l c w => (specBestGauge_any a0_0 a0_1 a0_2 a0_3 a1 a2 a3 a l c z4 w)
  have HI := Lib.hid fun a l c w => (bestGauge_any a0_0 a0_1 a0_2 a0_3 a1 a2 a3 a l c z4 w)
  have HZ := Lib.hid hz
  clear hz
  generalize bgI a0_0 a0_1 a0_2 a0_3 a1 a2 a3 z4 = Z at *
  have hm1 : ¬ (1 + (len4 : Int) < 0) := by omega
  go_enter Try.func8, Try.ntmps8
  go_wp2_with fail
  refine (toFormat_any _ _ _ _ _).mono ?_
  rintro e1 w1 ⟨rfl, hb1⟩
  have hz1 := hb1.size
  try simp at hz1
  have ha1 : Below w.heap.size w w1 := below_call (by repeat (first | exact Below.refl _ _ | assumption | refine Below.drew ?_ | refine below_drewN ?_ _ | refine Below.alloc ?_ (by first | omega | (simp; done) | (simp; omega)) _ | refine Below.setCell ?_ (by first | omega | (simp; done) | (simp; omega)) _)) hb1
  have f0_0 : w1.cell? ⟨w.heap.size, 0, none⟩ = some (.int .i64 a0_0) := by rw [(bcell hb1).1 _ _ (by first | omega | (simp; done) | (simp; omega))]; simp [go_sem]
  have f0_1 : w1.cell? ⟨w.heap.size, 1, none⟩ = some (.int .i64 a0_1) := by rw [(bcell hb1).1 _ _ (by first | omega | (simp; done) | (simp; omega))]; simp [go_sem]
  have f0_2 : w1.cell? ⟨w.heap.size, 2, none⟩ = some (.int .i64 a0_2) := by rw [(bcell hb1).1 _ _ (by first | omega | (simp; done) | (simp; omega))]; simp [go_sem]
  have f0_3 : w1.cell? ⟨w.heap.size, 3, none⟩ = some (.int .i64 a0_3) := by rw [(bcell hb1).1 _ _ (by first | omega | (simp; done) | (simp; omega))]; simp [go_sem]
  go_wp2_with fail
  refine (toInt64S_own _ _ _ _ _ (HZ.out.below (by repeat (first | exact Below.refl _ _ | assumption | refine Below.drew ?_ | refine below_drewN ?_ _ | refine Below.alloc ?_ (by first | omega | (simp; done) | (simp; omega)) _ | refine Below.setCell ?_ (by first | omega | (simp; done) | (simp; omega)) _))) hlen).mono ?_
  rintro e2 w2 ⟨rfl, hO2, hb2⟩
  have X1 := Lib.hid hO2
  clear hO2
  have hz2 := hb2.size
  try simp at hz2
  have ha2 : Below w.heap.size w w2 := below_call (by repeat (first | exact Below.refl _ _ | assumption | refine Below.drew ?_ | refine below_drewN ?_ _ | refine Below.alloc ?_ (by first | omega | (simp; done) | (simp; omega)) _ | refine Below.setCell ?_ (by first | omega | (simp; done) | (simp; omega)) _)) hb2
  replace f0_0 := keep1 hb2 f0_0
  replace f0_1 := keep1 hb2 f0_1
  replace f0_2 := keep1 hb2 f0_2
  replace f0_3 := keep1 hb2 f0_3
  go_wp2_with fail
  refine (HS.out _ _ _ _ X1.out.row).mono ?_
  rintro e3 w3 ⟨rfl, hb3⟩
  have hz3 := hb3.size
  try simp at hz3
  have ha3 : Below w.heap.size w w3 := below_call (by repeat (first | exact Below.refl _ _ | assumption | refine Below.drew ?_ | refine below_drewN ?_ _ | refine Below.alloc ?_ (by first | omega | (simp; done) | (simp; omega)) _ | refine Below.setCell ?_ (by first | omega | (simp; done) | (simp; omega)) _)) hb3
  replace f0_0 := keep1 hb3 f0_0
  replace f0_1 := keep1 hb3 f0_1
  replace f0_2 := keep1 hb3 f0_2
  replace f0_3 := keep1 hb3 f0_3
  replace X1 := Lib.hid (X1.out.below hb3)
  go_wp2_with fail
  refine (toInt64S_own _ _ _ _ _ (HZ.out.below (by repeat (first | exact Below.refl _ _ | assumption | refine Below.drew ?_ | refine below_drewN ?_ _ | refine Below.alloc ?_ (by first | omega | (simp; done) | (simp; omega)) _ | refine Below.setCell ?_ (by first | omega | (simp; done) | (simp; omega)) _))) hlen).mono ?_
  rintro e4 w4 ⟨rfl, hO4, hb4⟩
  have X2 := Lib.hid hO4
  clear hO4
  have X1_old := X1
  have hz4 := hb4.size
  try simp at hz4
  have ha4 : Below w.heap.size w w4 := below_call (by repeat (first | exact Below.refl _ _ | assumption | refine Below.drew ?_ | refine below_drewN ?_ _ | refine Below.alloc ?_ (by first | omega | (simp; done) | (simp; omega)) _ | refine Below.setCell ?_ (by first | omega | (simp; done) | (simp; omega)) _)) hb4
  replace f0_0 := keep1 hb4 f0_0
  replace f0_1 := keep1 hb4 f0_1
  replace f0_2 := keep1 hb4 f0_2
  replace f0_3 := keep1 hb4 f0_3
  replace X1 := Lib.hid (X1.out.below hb4)
  have NE_X1_X2 := Lib.hid (X1_old.out.apart X2.out (Nat.le_refl _))
  go_wp2_with fail
  refine (toFormat_any _ _ _ _ _).mono ?_
  rintro e5 w5 ⟨rfl, hb5⟩
  have hz5 := hb5.size
  try simp at hz5
  have ha5 : Below w.heap.size w w5 := below_call (by repeat (first | exact Below.refl _ _ | assumption | refine Below.drew ?_ | refine below_drewN ?_ _ | refine Below.alloc ?_ (by first | omega | (simp; done) | (simp; omega)) _ | refine Below.setCell ?_ (by first | omega | (simp; done) | (simp; omega)) _)) hb5
  replace f0_0 := keep1 hb5 f0_0
  replace f0_1 := keep1 hb5 f0_1
  replace f0_2 := keep1 hb5 f0_2
  replace f0_3 := keep1 hb5 f0_3
  replace X1 := Lib.hid (X1.out.below hb5)
  replace X2 := Lib.hid (X2.out.below hb5)
  go_wp2_with fail
  refine (HI.out _ _ _ _ X2.out.row).mono ?_
  rintro e6 w6 ⟨rfl, hb6⟩
  have hz6 := hb6.size
  try simp at hz6
  have ha6 : Below w.heap.size w w6 := below_call (by repeat (first | exact Below.refl _ _ | assumption | refine Below.drew ?_ | refine below_drewN ?_ _ | refine Below.alloc ?_ (by first | omega | (simp; done) | (simp; omega)) _ | refine Below.setCell ?_ (by first | omega | (simp; done) | (simp; omega)) _)) hb6
  replace f0_0 := keep1 hb6 f0_0
  replace f0_1 := keep1 hb6 f0_1
  replace f0_2 := keep1 hb6 f0_2
  replace f0_3 := keep1 hb6 f0_3
  replace X1 := Lib.hid (X1.out.below hb6)
  replace X2 := Lib.hid (X2.out.below hb6)
  go_wp2_with fail
  refine (toInt64S_own _ _ _ _ _ (HZ.out.below (by repeat (first | exact Below.refl _ _ | assumption | refine Below.drew ?_ | refine below_drewN ?_ _ | refine Below.alloc ?_ (by first | omega | (simp; done) | (simp; omega)) _ | refine Below.setCell ?_ (by first | omega | (simp; done) | (simp; omega)) _))) hlen).mono ?_
  rintro e7 w7 ⟨rfl, hO7, hb7⟩
  have X3 := Lib.hid hO7
  clear hO7
  have X1_old := X1
  have X2_old := X2
  have hz7 := hb7.size
  try simp at hz7
  have ha7 : Below w.heap.size w w7 := below_call (by repeat (first | exact Below.refl _ _ | assumption | refine Below.drew ?_ | refine below_drewN ?_ _ | refine Below.alloc ?_ (by first | omega | (simp; done) | (simp; omega)) _ | refine Below.setCell ?_ (by first | omega | (simp; done) | (simp; omega)) _)) hb7
  replace f0_0 := keep1 hb7 f0_0
  replace f0_1 := keep1 hb7 f0_1
  replace f0_2 := keep1 hb7 f0_2
  replace f0_3 := keep1 hb7 f0_3
  replace X1 := Lib.hid (X1.out.below hb7)
  replace X2 := Lib.hid (X2.out.below hb7)
  have NE_X1_X3 := Lib.hid (X1_old.out.apart X3.out (Nat.le_refl _))
  have NE_X2_X3 := Lib.hid (X2_old.out.apart X3.out (Nat.le_refl _))
  go_wp2_with fail
  refine (eqInt64S_same _ _ _ _ _ _ _ X2.out.row X3.out.row).mono ?_
  rintro e8 w8 ⟨rfl, hb8⟩
  have hz8 := hb8.size
  try simp at hz8
  have ha8 : Below w.heap.size w w8 := below_call (by repeat (first | exact Below.refl _ _ | assumption | refine Below.drew ?_ | refine below_drewN ?_ _ | refine Below.alloc ?_ (by first | omega | (simp; done) | (simp; omega)) _ | refine Below.setCell ?_ (by first | omega | (simp; done) | (simp; omega)) _)) hb8
  replace f0_0 := keep1 hb8 f0_0
  replace f0_1 := keep1 hb8 f0_1
  replace f0_2 := keep1 hb8 f0_2
  replace f0_3 := keep1 hb8 f0_3
  replace X1 := Lib.hid (X1.out.below hb8)
  replace X2 := Lib.hid (X2.out.below hb8)
  replace X3 := Lib.hid (X3.out.below hb8)
  go_wp2
  go_ret
  exact ⟨rfl, (by repeat (first | exact Below.refl _ _ | assumption | refine Below.drew ?_ | refine below_drewN ?_ _ | refine Below.alloc ?_ (by first | omega | (simp; done) | (simp; omega)) _ | refine Below.setCell ?_ (by first | omega | (simp; done) | (simp; omega)) _))⟩
/-! ### The row's step: the arguments are opened, the walk is called, the arguments read as before. -/
set_option maxRecDepth 100000 in
set_option maxHeartbeats 1000000 in
set_option linter.unusedVariables false in
theorem lifted_FnExactBestGauge (os : Os) (started : os.Started) (H : Type) (enc : TypeId × Value → H) :
    ReturnsInHanded {} Try.checked os 8 .any (Rows.fnExactBestGaugeSpec.pre6 enc Try.prog Try.f8 Rows.fnExactBestGaugeRow.domain false) (Rows.fnExactBestGaugeSpec.post enc Try.prog Try.f8 false true false false) := by
  refine returnsInHanded_of_change (C := Try.checked) ownNone started (by kernel_rfl) Try.func8
    (ChangeSpec.witness6 (enc := enc) (C := Try.checked) false ⟨#[], #[.agg #[.int .i64 0, .int .i64 0, .int .i64 0, .int .i64 0], .int .i64 0, .int .i64 0, .int .i64 0, .slice none 0 0], []⟩ 8 (by kernel_rfl) (by kernel_rfl) (by kernel_rfl) (by kernel_rfl)) ?_
  intro W base args ds gs before hval0 hW hcnd _
  have hval : ∀ (j : Nat) t v, Try.f8.params[j]? = some t → args[j]? = some v → Value.okWide Try.prog W .any base t v := hval0
  have hW' := hW
  obtain ⟨p, q, hA0, hV, rfl, hfz, hnd⟩ := hW
  have hA : DataW.TrodAll enc Try.prog W 0 (fun _ => true) true Try.f8.params.toList args.toList ds p := hA0
  rw [Try.params8] at hA hval
  obtain ⟨v0, vs0, d0, ds0, p0, q0, hargs, rfl, rfl, h0, r0⟩ := trodAll_cons hA
  obtain ⟨v1, vs1, d1, ds1, p1, q1, rfl, rfl, rfl, h1, r1⟩ := trodAll_cons r0
  obtain ⟨v2, vs2, d2, ds2, p2, q2, rfl, rfl, rfl, h2, r2⟩ := trodAll_cons r1
  obtain ⟨v3, vs3, d3, ds3, p3, q3, rfl, rfl, rfl, h3, r3⟩ := trodAll_cons r2
  obtain ⟨v4, vs4, d4, ds4, p4, q4, rfl, rfl, rfl, h4, r4⟩ := trodAll_cons r3
  obtain ⟨rfl, rfl, rfl⟩ := trodAll_nil r4
  obtain rfl : args = #[v0, v1, v2, v3, v4] := by cases args; simp_all
  obtain ⟨rfl, rfl⟩ := trodVars_none hV
  have k0 := h0
  have lt0 : ∀ x ∈ p0, x.block < W.heap.size := by obtain ⟨m, hm⟩ := k0; exact DataW.trod_lt m _ _ _ hm
  obtain ⟨c0_0, c0_1, c0_2, c0_3, y0_0, y0_1, y0_2, y0_3, m0, rfl, _, _, z0_0, z0_1, z0_2, z0_3⟩ := Joins.open_agg4 Try.underlying23 (by kernel_rfl) (by kernel_rfl) (hval 0 23 v0 rfl rfl) h0
  obtain ⟨a0_0, e0_0, _, w0_0⟩ := DataW.trod_int Try.underlying2 z0_0
  simp only [List.cons.injEq, and_true] at e0_0
  subst e0_0
  obtain ⟨a0_1, e0_1, _, w0_1⟩ := DataW.trod_int Try.underlying2 z0_1
  simp only [List.cons.injEq, and_true] at e0_1
  subst e0_1
  obtain ⟨a0_2, e0_2, _, w0_2⟩ := DataW.trod_int Try.underlying2 z0_2
  simp only [List.cons.injEq, and_true] at e0_2
  subst e0_2
  obtain ⟨a0_3, e0_3, _, w0_3⟩ := DataW.trod_int Try.underlying2 z0_3
  simp only [List.cons.injEq, and_true] at e0_3
  subst e0_3
  obtain ⟨a1, rfl, rfl, rfl, w1⟩ := open_int Try.underlying2 (hval 1 2 v1 rfl rfl) h1
  obtain ⟨a2, rfl, rfl, rfl, w2⟩ := open_int Try.underlying2 (hval 2 2 v2 rfl rfl) h2
  obtain ⟨a3, rfl, rfl, rfl, w3⟩ := open_int Try.underlying2 (hval 3 2 v3 rfl rfl) h3
  have k4 := h4
  have lt4 : ∀ x ∈ p4, x.block < W.heap.size := by obtain ⟨m, hm⟩ := k4; exact DataW.trod_lt m _ _ _ hm
  obtain ⟨a4, len4, cap4, rfl⟩ := okWide_slice Try.underlying35 (hval 4 35 v4 rfl rfl)
  obtain ⟨z4, w4⟩ : ∃ zs, IsRow .i64 W a4 len4 cap4 zs := by
    obtain ⟨fuel, hf⟩ := h4
    rcases open_ints Try.underlying35 Try.underlying2 (by kernel_rfl) hf with ⟨hcs, _⟩ | ⟨x, l, c, zs, hcs, _, hl, hm, hz, _, hcell, hwz⟩
    · simp [Value.cells] at hcs
      obtain ⟨rfl, rfl, rfl⟩ := hcs
      exact ⟨[], isRow_nil⟩
    · simp [Value.cells] at hcs
      obtain ⟨rfl, rfl, rfl⟩ := hcs
      exact ⟨zs.take len4, isRow_mk hl hm (by simpa using hz) hcell hwz⟩
  clear hA0 hval0
  refine (exactBestGauge_walk a0_0 (bounds_i64 w0_0).1 (bounds_i64 w0_0).2 a0_1 (bounds_i64 w0_1).1 (bounds_i64 w0_1).2 a0_2 (bounds_i64 w0_2).1 (bounds_i64 w0_2).2 a0_3 (bounds_i64 w0_3).1 (bounds_i64 w0_3).2 a1 (bounds_i64 w1).1 (bounds_i64 w1).2 a2 (bounds_i64 w2).1 (bounds_i64 w2).2 a3 (bounds_i64 w3).1 (bounds_i64 w3).2 a4 len4 cap4 z4 W w4).mono fun e W' ⟨he, bel⟩ => ?_
  subst he
  exact ⟨_, rfl, _, _, _, [], _, [], hW', trodAll_mk1 (shut_bool Try.underlying4 _), (trodAll_cons_mk (Below.trod laidOut (by kernel_rfl) (of_decide_eq_true (by kernel_rfl)) k0 bel lt0) (trodAll_cons_mk (shut_int Try.underlying2 w1) (trodAll_cons_mk (shut_int Try.underlying2 w2) (trodAll_cons_mk (shut_int Try.underlying2 w3) (trodAll_cons_mk (Below.trod laidOut (by kernel_rfl) (of_decide_eq_true (by kernel_rfl)) k4 bel lt4) trodAll_mk0))))), rfl, bel.frame _, fun h => by cases h⟩

/-- The statement, proved. -/
theorem fnExactBestGauge_holds : Rows.FnExactBestGaugeSaid :=
  OpenClaim.holds_of_wide 8 Try.f8 rfl rfl rfl rfl rfl rfl rfl ⟨rfl, rfl, rfl, rfl, rfl⟩ rfl rfl rfl rfl rfl (by kernel_rfl) Try.func8 (by kernel_rfl)
    (of_decide_eq_true (by kernel_rfl)) (by unfold Func.isWrapper; first | (rw [if_pos (by decide +kernel)]; kernel_rfl) | (rw [if_neg (by decide +kernel)]; exact ⟨rfl, rfl⟩))
    (fun os started H enc _ => lifted_FnExactBestGauge os started H enc)
end Go.Proofs.Ytgpcehokdfehjaa
