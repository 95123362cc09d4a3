/- For all arguments, the program's BricksOfAll returns what the reference's BricksOfAll returns (the statement FnExactBricksOfAll); no condition. -/
import Derived.Test.YtgnalhnbdpigdaaPiecesA
namespace Go.Proofs.Ytgnalhnbdpigdaa
open Go.ChangeShapes Go.WideShapes Go.ChangeAt Go.RowKit
set_option maxHeartbeats 4000000 in
set_option linter.unusedVariables false in
theorem exactBricksOfAll_walk (a0_0 : Int) (l0_0 : -9223372036854775808 ≤ a0_0) (u0_0 : a0_0 ≤ 9223372036854775807) (a0_1 : Int) (l0_1 : -9223372036854775808 ≤ a0_1) (u0_1 : a0_1 ≤ 9223372036854775807) (a0_2 : Int) (l0_2 : -9223372036854775808 ≤ a0_2) (u0_2 : a0_2 ≤ 9223372036854775807) (a0_3 : Int) (l0_3 : -9223372036854775808 ≤ a0_3) (u0_3 : a0_3 ≤ 9223372036854775807) (a1 : Option Addr) (len1 cap1 : Nat) (z1 : List (Int × Int × Int)) (w : World) (hz : IsPieces w a1 len1 cap1 z1) :
    Calls Try.prog 10 #[.agg #[.int .i64 a0_0, .int .i64 a0_1, .int .i64 a0_2, .int .i64 a0_3], .slice a1 len1 cap1] w fun e w' => e = .returned (.bool true) ∧ Below w.heap.size w w' := by
  have hmax : len1 ≤ maxLen := Nat.le_trans hz.2.1 hz.2.2.1
  have HM := Lib.hid hmax
  have HZ := Lib.hid hz
  clear hz hmax
  by_cases hbig : 1048576 < len1
  · go_enter Try.func10, Try.ntmps10
    go_wp2_with fail
    refine (szPieceS_big _ _ _ _ hbig HM.out).mono ?_
    rintro e1 w1 ⟨rfl, rfl⟩
    go_wp2
    go_ret
    exact ⟨rfl, (by repeat (first | exact Below.refl _ _ | assumption | refine Below.drew ?_ | refine below_drewN ?_ _ | refine Below.alloc ?_ (by first | omega | (simp; done) | (simp; omega)) _ | refine Below.setCell ?_ (by first | omega | (simp; done) | (simp; omega)) _))⟩
  · have hlen : len1 ≤ 1048576 := by omega
    have hlt : ¬ (1048576 - (len1 : Int) < 0) := by omega
    clear hbig
    have HLE := Lib.hid hlen
    go_enter Try.func10, Try.ntmps10
    go_wp2_with fail
    refine (szPieceS_fits _ _ _ _ HLE.out HM.out).mono ?_
    rintro e1 w1 ⟨rfl, rfl⟩
    go_wp2_with fail
    refine (toFormat_any _ _ _ _ _).mono ?_
    rintro e2 w2 ⟨rfl, hb2⟩
    have ha2 : Below w.heap.size w w2 := below_call (by repeat (first | exact Below.refl _ _ | assumption | refine Below.drew ?_ | refine below_drewN ?_ _ | refine Below.alloc ?_ (by first | omega | (simp; done) | (simp; omega)) _ | refine Below.setCell ?_ (by first | omega | (simp; done) | (simp; omega)) _)) hb2
    have F : Hid (w2.heap[w.heap.size]? = some (.cells #[.int .i64 a0_0, .int .i64 a0_1, .int .i64 a0_2, .int .i64 a0_3] 34 (0, 0))) := Lib.hid (blk_call (blk_new _ _) hb2)
    go_wp2_with fail
    refine (toPieceS_own _ _ _ _ _ (HZ.out.below ha2) HLE.out).mono ?_
    rintro e3 w3 ⟨rfl, hP3, hb3⟩
    have X1 := Lib.hid hP3
    clear hP3
    have ha3 : Below w.heap.size w w3 := below_call (by repeat (first | exact Below.refl _ _ | assumption | refine Below.drew ?_ | refine below_drewN ?_ _ | refine Below.alloc ?_ (by first | omega | (simp; done) | (simp; omega)) _ | refine Below.setCell ?_ (by first | omega | (simp; done) | (simp; omega)) _)) hb3
    replace F := Lib.hid (blk_call F.out hb3)
    go_wp2_with fail
    refine (specBricksOfAll_any _ _ _ _ _ _ _ _ _ X1.out).mono ?_
    rintro e4 w4 ⟨rfl, hb4⟩
    have ha4 : Below w.heap.size w w4 := below_call (by repeat (first | exact Below.refl _ _ | assumption | refine Below.drew ?_ | refine below_drewN ?_ _ | refine Below.alloc ?_ (by first | omega | (simp; done) | (simp; omega)) _ | refine Below.setCell ?_ (by first | omega | (simp; done) | (simp; omega)) _)) hb4
    replace F := Lib.hid (blk_call F.out hb4)
    go_wp2_with fail
    refine (toPieceS_own _ _ _ _ _ (HZ.out.below ha4) HLE.out).mono ?_
    rintro e5 w5 ⟨rfl, hP5, hb5⟩
    have X2 := Lib.hid hP5
    clear hP5
    have ha5 : Below w.heap.size w w5 := below_call (by repeat (first | exact Below.refl _ _ | assumption | refine Below.drew ?_ | refine below_drewN ?_ _ | refine Below.alloc ?_ (by first | omega | (simp; done) | (simp; omega)) _ | refine Below.setCell ?_ (by first | omega | (simp; done) | (simp; omega)) _)) hb5
    replace F := Lib.hid (blk_call F.out hb5)
    have c0 := cellOf F.out 0
    have c1 := cellOf F.out 1
    have c2 := cellOf F.out 2
    have c3 := cellOf F.out 3
    have clt := blk_lt F.out
    simp at c0 c1 c2 c3
    go_wp2_with fail
    refine (toFormat_any _ _ _ _ _).mono ?_
    rintro e6 w6 ⟨rfl, hb6⟩
    have ha6 : Below w.heap.size w w6 := below_call (by repeat (first | exact Below.refl _ _ | assumption | refine Below.drew ?_ | refine below_drewN ?_ _ | refine Below.alloc ?_ (by first | omega | (simp; done) | (simp; omega)) _ | refine Below.setCell ?_ (by first | omega | (simp; done) | (simp; omega)) _)) hb6
    replace F := Lib.hid (blk_call F.out hb6)
    replace X2 := Lib.hid (X2.out.below hb6)
    clear c0 c1 c2 c3 clt
    go_wp2_with fail
    refine (bricksOfAll_any _ _ _ _ _ _ _ _ _ X2.out).mono ?_
    rintro e7 w7 ⟨rfl, hb7⟩
    have ha7 : Below w.heap.size w w7 := below_call (by repeat (first | exact Below.refl _ _ | assumption | refine Below.drew ?_ | refine below_drewN ?_ _ | refine Below.alloc ?_ (by first | omega | (simp; done) | (simp; omega)) _ | refine Below.setCell ?_ (by first | omega | (simp; done) | (simp; omega)) _)) hb7
    replace F := Lib.hid (blk_call F.out hb7)
    replace X2 := Lib.hid (X2.out.below hb7)
    go_wp2_with fail
    refine (toPieceS_own _ _ _ _ _ (HZ.out.below ha7) HLE.out).mono ?_
    rintro e8 w8 ⟨rfl, hP8, hb8⟩
    have X3 := Lib.hid hP8
    clear hP8
    have ha8 : Below w.heap.size w w8 := below_call (by repeat (first | exact Below.refl _ _ | assumption | refine Below.drew ?_ | refine below_drewN ?_ _ | refine Below.alloc ?_ (by first | omega | (simp; done) | (simp; omega)) _ | refine Below.setCell ?_ (by first | omega | (simp; done) | (simp; omega)) _)) hb8
    replace F := Lib.hid (blk_call F.out hb8)
    replace X2 := Lib.hid (X2.out.below hb8)
    go_wp2_with fail
    refine (eqPieceS_same _ _ _ _ _ _ _ X2.out X3.out).mono ?_
    rintro e9 w9 ⟨rfl, hb9⟩
    have ha9 : Below w.heap.size w w9 := below_call (by repeat (first | exact Below.refl _ _ | assumption | refine Below.drew ?_ | refine below_drewN ?_ _ | refine Below.alloc ?_ (by first | omega | (simp; done) | (simp; omega)) _ | refine Below.setCell ?_ (by first | omega | (simp; done) | (simp; omega)) _)) hb9
    replace F := Lib.hid (blk_call F.out hb9)
    go_wp2
    go_ret
    exact ⟨rfl, (by repeat (first | exact Below.refl _ _ | assumption | refine Below.drew ?_ | refine below_drewN ?_ _ | refine Below.alloc ?_ (by first | omega | (simp; done) | (simp; omega)) _ | refine Below.setCell ?_ (by first | omega | (simp; done) | (simp; omega)) _))⟩
/-! ### The row's step: the arguments are opened, the walk is called, the arguments read as before. -/
set_option maxRecDepth 100000 in
set_option maxHeartbeats 1000000 in
set_option linter.unusedVariables false in
theorem lifted_FnExactBricksOfAll (os : Os) (started : os.Started) (H : Type) (enc : TypeId × Value → H) :
    ReturnsInHanded {} Try.checked os 10 .any (Rows.fnExactBricksOfAllSpec.pre6 enc Try.prog Try.f10 Rows.fnExactBricksOfAllRow.domain false) (Rows.fnExactBricksOfAllSpec.post enc Try.prog Try.f10 false true false false) := by
  refine returnsInHanded_of_change (C := Try.checked) ownNone started (by kernel_rfl) Try.func10
    (ChangeSpec.witness6 (enc := enc) (C := Try.checked) false ⟨#[], #[.agg #[.int .i64 0, .int .i64 0, .int .i64 0, .int .i64 0], .slice none 0 0], []⟩ 8 (by kernel_rfl) (by kernel_rfl) (by kernel_rfl) (by kernel_rfl)) ?_
  intro W base args ds gs before hval0 hW hcnd _
  have hval : ∀ (j : Nat) t v, Try.f10.params[j]? = some t → args[j]? = some v → Value.okWide Try.prog W .any base t v := hval0
  have hW' := hW
  obtain ⟨p, q, hA0, hV, rfl, hfz, hnd⟩ := hW
  have hA : DataW.TrodAll enc Try.prog W 0 (fun _ => true) true Try.f10.params.toList args.toList ds p := hA0
  rw [Try.params10] at hA hval
  obtain ⟨v0, vs0, d0, ds0, p0, q0, hargs, rfl, rfl, h0, r0⟩ := trodAll_cons hA
  obtain ⟨v1, vs1, d1, ds1, p1, q1, rfl, rfl, rfl, h1, r1⟩ := trodAll_cons r0
  obtain ⟨rfl, rfl, rfl⟩ := trodAll_nil r1
  obtain rfl : args = #[v0, v1] := by cases args; simp_all
  obtain ⟨rfl, rfl⟩ := trodVars_none hV
  have k0 := h0
  have lt0 : ∀ x ∈ p0, x.block < W.heap.size := by obtain ⟨m, hm⟩ := k0; exact DataW.trod_lt m _ _ _ hm
  obtain ⟨c0_0, c0_1, c0_2, c0_3, y0_0, y0_1, y0_2, y0_3, m0, rfl, _, _, z0_0, z0_1, z0_2, z0_3⟩ := Joins.open_agg4 Try.underlying34 (by kernel_rfl) (by kernel_rfl) (hval 0 34 v0 rfl rfl) h0
  obtain ⟨a0_0, e0_0, _, w0_0⟩ := DataW.trod_int Try.underlying2 z0_0
  simp only [List.cons.injEq, and_true] at e0_0
  subst e0_0
  obtain ⟨a0_1, e0_1, _, w0_1⟩ := DataW.trod_int Try.underlying2 z0_1
  simp only [List.cons.injEq, and_true] at e0_1
  subst e0_1
  obtain ⟨a0_2, e0_2, _, w0_2⟩ := DataW.trod_int Try.underlying2 z0_2
  simp only [List.cons.injEq, and_true] at e0_2
  subst e0_2
  obtain ⟨a0_3, e0_3, _, w0_3⟩ := DataW.trod_int Try.underlying2 z0_3
  simp only [List.cons.injEq, and_true] at e0_3
  subst e0_3
  have k1 := h1
  have lt1 : ∀ x ∈ p1, x.block < W.heap.size := by obtain ⟨m, hm⟩ := k1; exact DataW.trod_lt m _ _ _ hm
  obtain ⟨a1, len1, cap1, rfl⟩ := okWide_slice Try.underlying47 (hval 1 47 v1 rfl rfl)
  obtain ⟨z1, w1⟩ : ∃ zs, IsPieces W a1 len1 cap1 zs := by
    obtain ⟨fuel, hf⟩ := h1
    exact isPieces_open Try.underlying47 Try.underlying36 Try.underlying2 (by kernel_rfl) rfl (by kernel_rfl) hf
  clear hA0 hval0
  refine (exactBricksOfAll_walk a0_0 (bounds_i64 w0_0).1 (bounds_i64 w0_0).2 a0_1 (bounds_i64 w0_1).1 (bounds_i64 w0_1).2 a0_2 (bounds_i64 w0_2).1 (bounds_i64 w0_2).2 a0_3 (bounds_i64 w0_3).1 (bounds_i64 w0_3).2 a1 len1 cap1 z1 W w1).mono fun e W' ⟨he, bel⟩ => ?_
  subst he
  exact ⟨_, rfl, _, _, _, [], _, [], hW', trodAll_mk1 (shut_bool Try.underlying4 _), (trodAll_cons_mk (Below.trod laidOut (by kernel_rfl) (of_decide_eq_true (by kernel_rfl)) k0 bel lt0) (trodAll_cons_mk (Below.trod laidOut (by kernel_rfl) (of_decide_eq_true (by kernel_rfl)) k1 bel lt1) trodAll_mk0)), rfl, bel.frame _, fun h => by cases h⟩

/-- The statement, proved. -/
theorem fnExactBricksOfAll_holds : Rows.FnExactBricksOfAllSaid :=
  OpenClaim.holds_of_wide 10 Try.f10 rfl rfl rfl rfl rfl rfl rfl ⟨rfl, rfl, rfl, rfl, rfl⟩ rfl rfl rfl rfl rfl (by kernel_rfl) Try.func10 (by kernel_rfl)
    (of_decide_eq_true (by kernel_rfl)) (by unfold Func.isWrapper; first | (rw [if_pos (by decide +kernel)]; kernel_rfl) | (rw [if_neg (by decide +kernel)]; exact ⟨rfl, rfl⟩))
    (fun os started H enc _ => lifted_FnExactBricksOfAll os started H enc)
end Go.Proofs.Ytgnalhnbdpigdaa
