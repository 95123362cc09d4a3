/- For all arguments, the program's ValidPieces returns what the reference's ValidPieces returns (the statement FnExactValidPieces); no condition. -/
import Derived.Test.YtgnalhnbdpigdaaPiecesV
namespace Go.Proofs.Ytgnalhnbdpigdaa
open Go.ChangeShapes Go.WideShapes Go.ChangeAt Go.RowKit
set_option maxHeartbeats 2000000 in
theorem exactValidPieces_walk (a0 : Option Addr) (len0 cap0 : Nat) (z0 : List (Int × Int × Int)) (w : World) (hz : IsPieces w a0 len0 cap0 z0) :
    Calls Try.prog 8 #[.slice a0 len0 cap0] w fun e w' => e = .returned (.bool true) ∧ Below w.heap.size w w' := by
  have hmax : len0 ≤ maxLen := Nat.le_trans hz.2.1 hz.2.2.1
  have HM := Lib.hid hmax
  have HZ := Lib.hid hz
  clear hz hmax
  by_cases hbig : 1048576 < len0
  · go_enter Try.func8, Try.ntmps8
    go_wp2_with fail
    refine (szPieceS_big _ _ _ _ hbig HM.out).mono ?_
    rintro e1 w1 ⟨rfl, rfl⟩
    go_wp2
    go_ret
    exact ⟨rfl, (by repeat (first | exact Below.refl _ _ | assumption | refine Below.drew ?_ | refine below_drewN ?_ _ | refine Below.alloc ?_ (by first | omega | (simp; done) | (simp; omega)) _ | refine Below.setCell ?_ (by first | omega | (simp; done) | (simp; omega)) _))⟩
  · have hlen : len0 ≤ 1048576 := by omega
    have hlt : ¬ (1048576 - (len0 : Int) < 0) := by omega
    clear hbig
    have HLE := Lib.hid hlen
    go_enter Try.func8, Try.ntmps8
    go_wp2_with fail
    refine (szPieceS_fits _ _ _ _ HLE.out HM.out).mono ?_
    rintro e1 w1 ⟨rfl, rfl⟩
    go_wp2_with fail
    refine (toPieceS_own _ _ _ _ _ HZ.out HLE.out).mono ?_
    rintro e2 w2 ⟨rfl, hP2, hb2⟩
    have HP2 := Lib.hid hP2
    clear hP2
    have ha2 : Below w.heap.size w w2 := below_call (by repeat (first | exact Below.refl _ _ | assumption | refine Below.drew ?_ | refine below_drewN ?_ _ | refine Below.alloc ?_ (by first | omega | (simp; done) | (simp; omega)) _ | refine Below.setCell ?_ (by first | omega | (simp; done) | (simp; omega)) _)) hb2
    go_wp2_with fail
    refine (specValidPieces_any _ _ _ _ _ HP2.out).mono ?_
    rintro e3 w3 ⟨rfl, hb3⟩
    have ha3 : Below w.heap.size w w3 := below_call (by repeat (first | exact Below.refl _ _ | assumption | refine Below.drew ?_ | refine below_drewN ?_ _ | refine Below.alloc ?_ (by first | omega | (simp; done) | (simp; omega)) _ | refine Below.setCell ?_ (by first | omega | (simp; done) | (simp; omega)) _)) hb3
    go_wp2_with fail
    refine (toPieceS_own _ _ _ _ _ (HZ.out.below ha3) HLE.out).mono ?_
    rintro e4 w4 ⟨rfl, hP4, hb4⟩
    have HP4 := Lib.hid hP4
    clear hP4
    have ha4 : Below w.heap.size w w4 := below_call (by repeat (first | exact Below.refl _ _ | assumption | refine Below.drew ?_ | refine below_drewN ?_ _ | refine Below.alloc ?_ (by first | omega | (simp; done) | (simp; omega)) _ | refine Below.setCell ?_ (by first | omega | (simp; done) | (simp; omega)) _)) hb4
    go_wp2_with fail
    refine (validPieces_any _ _ _ _ _ HP4.out).mono ?_
    rintro e5 w5 ⟨rfl, hb5⟩
    have ha5 : Below w.heap.size w w5 := below_call (by repeat (first | exact Below.refl _ _ | assumption | refine Below.drew ?_ | refine below_drewN ?_ _ | refine Below.alloc ?_ (by first | omega | (simp; done) | (simp; omega)) _ | refine Below.setCell ?_ (by first | omega | (simp; done) | (simp; omega)) _)) hb5
    replace HP4 := Lib.hid (HP4.out.below hb5)
    go_wp2_with fail
    refine (toPieceS_own _ _ _ _ _ (HZ.out.below ha5) HLE.out).mono ?_
    rintro e6 w6 ⟨rfl, hP6, hb6⟩
    have HP6 := Lib.hid hP6
    clear hP6
    have ha6 : Below w.heap.size w w6 := below_call (by repeat (first | exact Below.refl _ _ | assumption | refine Below.drew ?_ | refine below_drewN ?_ _ | refine Below.alloc ?_ (by first | omega | (simp; done) | (simp; omega)) _ | refine Below.setCell ?_ (by first | omega | (simp; done) | (simp; omega)) _)) hb6
    replace HP4 := Lib.hid (HP4.out.below hb6)
    go_wp2_with fail
    refine (eqPieceS_same _ _ _ _ _ _ _ HP4.out HP6.out).mono ?_
    rintro e7 w7 ⟨rfl, hb7⟩
    have ha7 : Below w.heap.size w w7 := below_call (by repeat (first | exact Below.refl _ _ | assumption | refine Below.drew ?_ | refine below_drewN ?_ _ | refine Below.alloc ?_ (by first | omega | (simp; done) | (simp; omega)) _ | refine Below.setCell ?_ (by first | omega | (simp; done) | (simp; omega)) _)) hb7
    go_wp2
    go_ret
    exact ⟨rfl, (by repeat (first | exact Below.refl _ _ | assumption | refine Below.drew ?_ | refine below_drewN ?_ _ | refine Below.alloc ?_ (by first | omega | (simp; done) | (simp; omega)) _ | refine Below.setCell ?_ (by first | omega | (simp; done) | (simp; omega)) _))⟩
/-! ### The row's step: the arguments are opened, the walk is called, the arguments read as before. -/
set_option maxRecDepth 100000 in
set_option maxHeartbeats 1000000 in
set_option linter.unusedVariables false in
theorem lifted_FnExactValidPieces (os : Os) (started : os.Started) (H : Type) (enc : TypeId × Value → H) :
    ReturnsInHanded {} Try.checked os 8 .any (Rows.fnExactValidPiecesSpec.pre6 enc Try.prog Try.f8 Rows.fnExactValidPiecesRow.domain false) (Rows.fnExactValidPiecesSpec.post enc Try.prog Try.f8 false true false false) := by
  refine returnsInHanded_of_change (C := Try.checked) ownNone started (by kernel_rfl) Try.func8
    (ChangeSpec.witness6 (enc := enc) (C := Try.checked) false ⟨#[], #[.slice none 0 0], []⟩ 8 (by kernel_rfl) (by kernel_rfl) (by kernel_rfl) (by kernel_rfl)) ?_
  intro W base args ds gs before hval0 hW hcnd _
  have hval : ∀ (j : Nat) t v, Try.f8.params[j]? = some t → args[j]? = some v → Value.okWide Try.prog W .any base t v := hval0
  have hW' := hW
  obtain ⟨p, q, hA0, hV, rfl, hfz, hnd⟩ := hW
  have hA : DataW.TrodAll enc Try.prog W 0 (fun _ => true) true Try.f8.params.toList args.toList ds p := hA0
  rw [Try.params8] at hA hval
  obtain ⟨v0, vs0, d0, ds0, p0, q0, hargs, rfl, rfl, h0, r0⟩ := trodAll_cons hA
  obtain ⟨rfl, rfl, rfl⟩ := trodAll_nil r0
  obtain rfl : args = #[v0] := by cases args; simp_all
  obtain ⟨rfl, rfl⟩ := trodVars_none hV
  have k0 := h0
  have lt0 : ∀ x ∈ p0, x.block < W.heap.size := by obtain ⟨m, hm⟩ := k0; exact DataW.trod_lt m _ _ _ hm
  obtain ⟨a0, len0, cap0, rfl⟩ := okWide_slice Try.underlying47 (hval 0 47 v0 rfl rfl)
  obtain ⟨z0, w0⟩ : ∃ zs, IsPieces W a0 len0 cap0 zs := by
    obtain ⟨fuel, hf⟩ := h0
    exact isPieces_open Try.underlying47 Try.underlying36 Try.underlying2 (by kernel_rfl) rfl (by kernel_rfl) hf
  clear hA0 hval0
  refine (exactValidPieces_walk a0 len0 cap0 z0 W w0).mono fun e W' ⟨he, bel⟩ => ?_
  subst he
  exact ⟨_, rfl, _, _, _, [], _, [], hW', trodAll_mk1 (shut_bool Try.underlying4 _), (trodAll_cons_mk (Below.trod laidOut (by kernel_rfl) (of_decide_eq_true (by kernel_rfl)) k0 bel lt0) trodAll_mk0), rfl, bel.frame _, fun h => by cases h⟩

/-- The statement, proved. -/
theorem fnExactValidPieces_holds : Rows.FnExactValidPiecesSaid :=
  OpenClaim.holds_of_wide 8 Try.f8 rfl rfl rfl rfl rfl rfl rfl ⟨rfl, rfl, rfl, rfl, rfl⟩ rfl rfl rfl rfl rfl (by kernel_rfl) Try.func8 (by kernel_rfl)
    (of_decide_eq_true (by kernel_rfl)) (by unfold Func.isWrapper; first | (rw [if_pos (by decide +kernel)]; kernel_rfl) | (rw [if_neg (by decide +kernel)]; exact ⟨rfl, rfl⟩))
    (fun os started H enc _ => lifted_FnExactValidPieces os started H enc)
end Go.Proofs.Ytgnalhnbdpigdaa
