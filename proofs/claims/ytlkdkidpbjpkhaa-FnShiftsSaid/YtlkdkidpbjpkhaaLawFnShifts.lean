/- For all bytes, the law FnShifts holds: a shifted pattern is found by its shift, shifting back restores it, and the shifts that keep it divide its bricks; no condition. -/
import Derived.Test.YtlkdkidpbjpkhaaShQ
import Derived.Test.YtlkdkidpbjpkhaaTuS
import Derived.Test.YtlkdkidpbjpkhaaPatD
import Derived.Test.YtlkdkidpbjpkhaaDrawA
namespace Go.Proofs.Ytlkdkidpbjpkhaa
set_option linter.unusedVariables false
open Go.ChangeShapes Go.WideShapes Go.ChangeAt Go.RowKit

set_option maxHeartbeats 2000000 in
theorem a2Text_same (a a' : Option Addr) (len cap cap' : Nat) (ss : List ByteArray) (w : World) (h : IsStrs w a len cap ss) (h' : IsStrs w a' len cap' ss) :
    Calls Try.prog 44 #[.slice a len cap, .slice a' len cap'] w fun e w' => e = .returned (.bool true) ∧ Below w.heap.size w w' := by
  have hm : len ≤ maxLen := Nat.le_trans h.2.1 h.2.2.1
  unfold maxLen at hm
  have H := Lib.hid h
  have H' := Lib.hid h'
  clear h h'
  go_enter Try.func44, Try.ntmps44
  go_wp2
  go_loopw [5] (fun i wr => ∃ k : Nat, k ≤ len ∧ i = .int .i64 (k : Int) ∧ Below w.heap.size w wr) (fun i _ => (len - intOf i).toNat)
  case atStart => exact ⟨0, by omega, rfl, Below.refl _ _⟩
  case round =>
    obtain ⟨k, hk, rfl, hB⟩ := hrel
    by_cases hlt : k < len
    · obtain ⟨b, o, rfl, hb, hc⟩ := (H.out.below hB).cell hlt
      obtain ⟨b', o', rfl, hb', hc'⟩ := (H'.out.below hB).cell hlt
      generalize ss.getD k ByteArray.empty = x at *
      have hlt' : (k : Int) < (len : Int) := by omega
      go_wp2
      go_quiet (fail)
      go_wp2
      go_roundw
      case rel => exact ⟨k + 1, by omega, by go_num, below_drewN hB _⟩
      case measure => simp [intOf]; omega
    · go_wp2
      go_ret
      exact ⟨rfl, hB⟩
theorem shift_at (a : Option Addr) (c : Nat) (ss : List ByteArray) (r u : Int) (W : World) (h : IsStrs W a ss.length c ss) (g : patB ss = true) (hr : inB r (-100) 100 = true) (hu : inB u (-100) 100 = true) :
    Calls Try.prog 28 #[.slice a ss.length c, .int .i64 r, .int .i64 u] W fun e w' => ∃ x c', e = .returned (.tuple #[.slice x ss.length c', .int .i64 0]) ∧ IsStrs w' x ss.length c' (shL ss r u) ∧ Below W.heap.size W w' := by
  refine (shiftPattern_any a ss.length c ss r u W h).mono ?_
  rintro e w' ⟨x, c', rfl, hO, hs, hb⟩
  obtain ⟨e1, e2⟩ := sp_0 (r := r) (u := u) g (by simp [spW, hr, hu])
  rw [e1] at hO hs ⊢
  rw [e2]
  have hr := hO.row hs
  rw [shL_len] at hr ⊢
  exact ⟨x, c', rfl, hr, hb⟩
theorem fs_at {xs ys : List ByteArray} (g : patB xs = true) (g2 : patB ys = true) (hl : ys.length = xs.length) (hn : patN ys = patN xs) : fsR xs ys = hdR (fL xs ys) ∧ fsU xs ys = hdU (fL xs ys) ∧ fsC xs ys = if hdB (fL xs ys) = true then 0 else 3 :=
  fs_yes (by simp [twoB, g, g2]) (by simp [dimB, hl, hn])
set_option maxRecDepth 100000 in
set_option maxHeartbeats 8000000 in
theorem shifts_walk (a : Option Addr) (len cap : Nat) (zs : List Int) (a1 : Option Addr) (len1 cap1 : Nat) (zs1 : List Int) (w : World) (h : IsRow .u8 w a len cap zs) (h1 : IsRow .u8 w a1 len1 cap1 zs1) :
    Calls Try.prog 13 #[.slice a len cap, .slice a1 len1 cap1] w fun e w' => e = .returned (.bool true) ∧ Below w.heap.size w w' := by
  have hm : len ≤ maxLen := Nat.le_trans h.2.1 h.2.2.1
  have hm0 : len1 ≤ maxLen := Nat.le_trans h1.2.1 h1.2.2.1
  have HL := Lib.hid (fun W => a2Long_any a a1 len cap len1 cap1 W hm hm0)
  cases hl : longB len len1
  case true =>
    have HB := Lib.hid hl
    clear hl h h1
    go_enter Try.func13, Try.ntmps13
    go_wp2_with fail
    refine (HL.out _).mono ?_
    rintro e1 w1 ⟨rfl, rfl⟩
    rw [HB.out]
    go_wp2
    go_ret
    exact ⟨rfl, (by repeat (first | exact Below.refl _ _ | assumption | refine Below.drew ?_ | refine below_drewN ?_ _ | refine Below.alloc ?_ (by first | omega | (simp; done) | (simp; omega)) _ | refine Below.setCell ?_ (by first | omega | (simp; done) | (simp; omega)) _))⟩
  have HB := Lib.hid hl
  have HA := Lib.hid (a2Pattern_any a len cap zs w h)
  obtain ⟨r0, r1, r2, A0⟩ := a2At_at h1 0 60 (by omega) (by omega) (by omega)
  obtain ⟨u0, u1, u2, A1⟩ := a2At_at h1 1 60 (by omega) (by omega) (by omega)
  obtain ⟨kind, q1, q2, A2⟩ := a2At_at h1 2 3 (by omega) (by omega) (by omega)
  clear h h1 hm hm0 hl
  go_enter Try.func13, Try.ntmps13
  go_wp2_with fail
  refine (HL.out _).mono ?_
  rintro e1 w1 ⟨rfl, rfl⟩
  rw [HB.out]
  go_wp2_with fail
  refine HA.out.mono ?_
  rintro e wa ⟨x, n, c, ss, rfl, g, hS, hba⟩
  have hn := hS.1
  obtain ⟨v1, v2, v3, v4, v5⟩ := patB_t g
  have b1 : inB (r0 - 30) (-100) 100 = true := inB_mk (by omega)
  have b2 : inB (u0 - 30) (-100) 100 = true := inB_mk (by omega)
  have b3 : inB (-(r0 - 30)) (-100) 100 = true := inB_mk (by omega)
  have b4 : inB (-(u0 - 30)) (-100) 100 = true := inB_mk (by omega)
  obtain ⟨p1, p2⟩ := shL_pat g (r0 - 30) (u0 - 30)
  obtain ⟨fa, fb, f1, f2, f3, f4⟩ := shift_first g (r0 - 30) (u0 - 30)
  obtain ⟨d1, d2, d3⟩ := hd_some f1
  obtain ⟨k1, k2⟩ := keep_div g
  have hk := fL_len (ys := ss) g
  have hr := all_rem g
  obtain ⟨s1, s2, s3⟩ := fs_at g p1 (shL_len ss _ _) p2
  rw [d1] at s1
  rw [d2] at s2
  rw [d3, if_pos rfl] at s3
  have gk : inB kind 0 2 = true := inB_mk (by omega)
  obtain ⟨t1, t2, t3⟩ := tu_0 (kind := kind) g gk
  obtain ⟨z1, z2⟩ := tuL_pat g kind
  obtain ⟨y1, y2, y3⟩ := fs_at g z1 (tuL_len ss kind) z2
  have HC1 := Lib.hid (fun a c W hW => shift_at a c ss (r0 - 30) (u0 - 30) W hW g b1 b2)
  have HC2 := Lib.hid (fun a c W hW => shift_at a c (shL ss (r0 - 30) (u0 - 30)) (-(r0 - 30)) (-(u0 - 30)) W hW p1 b3 b4)
  rw [shL_back g, shL_len] at HC2
  have HC3 := Lib.hid (fun a c a' c' W hW hW' => findShift_any a n c ss a' n c' (shL ss (r0 - 30) (u0 - 30)) W hW hW')
  rw [s1, s2, s3] at HC3
  have HC4 := Lib.hid (fun a c W hW => shift_at a c ss (fa : Int) (fb : Int) W hW g (inB_mk (by omega)) (inB_mk (by omega)))
  rw [f4] at HC4
  have HC5 := Lib.hid (fun a c W hW => shiftsKept_any a n c ss W hW)
  rw [sh_yes g, (dark_yes g).2] at HC5
  have HC6 := Lib.hid (fun a c W hW => specTurnPattern_any a n c ss kind W hW)
  rw [t1, t2] at HC6
  have HC7 := Lib.hid (fun a c W hW => keepsTurn_any a n c ss kind W hW)
  rw [t1, t3] at HC7
  have HC8 := Lib.hid (fun a c a' c' W hW hW' => specFindShift_any a n c ss a' n c' (tuL ss kind) W hW hW')
  rw [y1, y2, y3] at HC8
  have HTL := Lib.hid ((tuL_len ss kind).trans hn)
  rw [hn] at HC1 HC2 HC4 hr v1 v2
  generalize shL ss (r0 - 30) (u0 - 30) = S at *
  generalize tuL ss kind = T at *
  obtain ⟨bo, oo, rfl, hbo⟩ := hS.addr (by omega)
  have hd0 := hS.same (i := 0) (by omega)
  simp only [Nat.add_zero] at hd0
  have hz0 : (ss.getD 0 ByteArray.empty).size = patN ss := rfl
  generalize ss.getD 0 ByteArray.empty = row0 at hd0 hz0
  generalize patN ss = WW at *
  generalize (fL ss ss).length = K at *
  generalize fL ss T = lt at *
  have w1 : n * WW ≤ 24 * 24 := Nat.mul_le_mul v2 v4
  have i1 := IntWalk.i64_in ((n : Int) * (WW : Int)) (by rw [← Int.natCast_mul]; omega)
  have hn0 : ((n : Int) == 0) = false := by simp; omega
  have hn1 : (0 : Int) < (n : Int) := by omega
  have hK0 : ¬ (K : Int) = 0 := by omega
  have hK1 : decide ((K : Int) < 1) = false := decide_eq_false (by omega)
  have HS := Lib.hid hS
  have HBA := Lib.hid hba
  have HD0 := Lib.hid hd0
  clear hS hba f1 f2 f3 f4 d1 d2 d3 s1 s2 s3 t1 t2 t3 y1 y2 y3 z1 z2 p1 p2 b1 b2 b3 b4 g v5 k2 hn w1 hd0 gk HA HB HL
  go_wp2_with fail
  refine (A0.out _ HBA.out).mono ?_
  rintro e q0 ⟨rfl, rfl⟩
  go_wp2_with fail
  refine (A1.out _ HBA.out).mono ?_
  rintro e q0 ⟨rfl, rfl⟩
  go_wp2_with fail
  refine (HC1.out _ _ _ HS.out).mono ?_
  rintro e wb ⟨x1, c1, rfl, hX, hb1⟩
  have HS1 := Lib.hid (HS.out.below hb1)
  have ha1 := below_call HBA.out hb1
  have HD1 := Lib.hid (keep1 hb1 HD0.out)
  clear hb1 HS HD0
  go_wp2_with fail
  refine (HC2.out _ _ _ hX).mono ?_
  rintro e wc ⟨x2, c2, rfl, hX2, hb2⟩
  have HS2 := Lib.hid (HS1.out.below hb2)
  have HX2 := Lib.hid (hX.below hb2)
  have HD2 := Lib.hid (keep1 hb2 HD1.out)
  have ha2 := below_call ha1 hb2
  clear hb2 hX HS1 HD1 ha1
  go_wp2_with fail
  refine (a2Text_same _ _ _ _ _ _ _ hX2 HS2.out).mono ?_
  rintro e wd ⟨rfl, hb3⟩
  have HS3 := Lib.hid (HS2.out.below hb3)
  have HX3 := Lib.hid (HX2.out.below hb3)
  have HD3 := Lib.hid (keep1 hb3 HD2.out)
  have ha3 := below_call ha2 hb3
  clear hb3 hX2 HS2 HX2 HD2 ha2
  go_wp2_with fail
  refine (HC3.out _ _ _ _ _ HS3.out HX3.out).mono ?_
  rintro e we ⟨rfl, hb4⟩
  have HS4 := Lib.hid (HS3.out.below hb4)
  have HX4 := Lib.hid (HX3.out.below hb4)
  have HD4 := Lib.hid (keep1 hb4 HD3.out)
  have ha4 := below_call ha3 hb4
  clear hb4 HS3 HX3 HD3 ha3
  go_wp2_with fail
  refine (HC4.out _ _ _ HS4.out).mono ?_
  rintro e wf ⟨x5, c5, rfl, hX5, hb5⟩
  have HS5 := Lib.hid (HS4.out.below hb5)
  have HX5 := Lib.hid (HX4.out.below hb5)
  have HD5 := Lib.hid (keep1 hb5 HD4.out)
  have ha5 := below_call ha4 hb5
  clear hb5 HS4 HX4 HD4 ha4
  go_wp2_with fail
  refine (HC5.out _ _ _ HS5.out).mono ?_
  rintro e wg ⟨rfl, hb6⟩
  have HS6 := Lib.hid (HS5.out.below hb6)
  have HX6 := Lib.hid (HX5.out.below hb6)
  have HY6 := Lib.hid (hX5.below hb6)
  have hd6 := keep1 hb6 HD5.out
  have ha6 := below_call ha5 hb6
  clear hb6 HS5 HX5 HD5 ha5 hX5
  go_wp2_with fail
  refine (a2Text_same _ _ _ _ _ _ _ HY6.out HX6.out).mono ?_
  rintro e wh ⟨rfl, hb7⟩
  have HS7 := Lib.hid (HS6.out.below hb7)
  have HBA7 := Lib.hid (below_call ha6 hb7)
  clear hb7 HS6 HX6 HY6 hd6 ha6
  go_wp2_with fail
  refine (A2.out _ HBA7.out).mono ?_
  rintro e q0 ⟨rfl, rfl⟩
  go_wp2_with fail
  refine (HC6.out _ _ _ HS7.out).mono ?_
  rintro e wi ⟨x8, c8, rfl, hO8, hs8, hb8⟩
  rw [HTL.out] at hO8 ⊢
  have HT8 := Lib.hid (hO8.row hs8)
  have HS8 := Lib.hid (HS7.out.below hb8)
  have ha8 := below_call HBA7.out hb8
  clear hb8 hO8 hs8
  go_wp2_with fail
  refine (HC7.out _ _ _ HS8.out).mono ?_
  rintro e wj ⟨rfl, hb9⟩
  have HT9 := Lib.hid (HT8.out.below hb9)
  have HS9 := Lib.hid (HS8.out.below hb9)
  have ha9 := below_call ha8 hb9
  clear hb9
  go_wp2_with fail
  refine (HC8.out _ _ _ _ _ HS9.out HT9.out).mono ?_
  rintro e wk ⟨rfl, hb10⟩
  have ha10 := below_call ha9 hb10
  clear hb10
  cases hdB lt
  · go_wp2
    go_ret
    exact ⟨rfl, ha10⟩
  · go_wp2
    go_ret
    exact ⟨rfl, ha10⟩
/-! ### The row's step: the arguments are opened, the walk is called, the arguments read as before. -/
set_option maxRecDepth 100000 in
set_option maxHeartbeats 1000000 in
set_option linter.unusedVariables false in
theorem lifted_FnShifts (os : Os) (started : os.Started) (H : Type) (enc : TypeId × Value → H) :
    ReturnsInHanded {} Try.checked os 13 .any (Rows.fnShiftsSpec.pre6 enc Try.prog Try.f13 Rows.fnShiftsRow.domain false) (Rows.fnShiftsSpec.post enc Try.prog Try.f13 false true false false) := by
  refine returnsInHanded_of_change (C := Try.checked) ownNone started (by kernel_rfl) Try.func13
    (ChangeSpec.witness6 (enc := enc) (C := Try.checked) false ⟨#[], #[.slice none 0 0, .slice none 0 0], []⟩ 8 (by kernel_rfl) (by kernel_rfl) (by kernel_rfl) (by kernel_rfl)) ?_
  intro W base args ds gs before hval0 hW hcnd _
  have hval : ∀ (j : Nat) t v, Try.f13.params[j]? = some t → args[j]? = some v → Value.okWide Try.prog W .any base t v := hval0
  have hW' := hW
  obtain ⟨p, q, hA0, hV, rfl, hfz, hnd⟩ := hW
  have hA : DataW.TrodAll enc Try.prog W 0 (fun _ => true) true Try.f13.params.toList args.toList ds p := hA0
  rw [Try.params13] at hA hval
  obtain ⟨v0, vs0, d0, ds0, p0, q0, hargs, rfl, rfl, h0, r0⟩ := trodAll_cons hA
  obtain ⟨v1, vs1, d1, ds1, p1, q1, rfl, rfl, rfl, h1, r1⟩ := trodAll_cons r0
  obtain ⟨rfl, rfl, rfl⟩ := trodAll_nil r1
  obtain rfl : args = #[v0, v1] := by cases args; simp_all
  obtain ⟨rfl, rfl⟩ := trodVars_none hV
  have k0 := h0
  have lt0 : ∀ x ∈ p0, x.block < W.heap.size := by obtain ⟨m, hm⟩ := k0; exact DataW.trod_lt m _ _ _ hm
  obtain ⟨a0, len0, cap0, rfl⟩ := okWide_slice Try.underlying40 (hval 0 40 v0 rfl rfl)
  obtain ⟨z0, w0⟩ : ∃ zs, IsRow .u8 W a0 len0 cap0 zs := by
    obtain ⟨fuel, hf⟩ := h0
    rcases open_ints Try.underlying40 Try.underlying5 (by kernel_rfl) hf with ⟨hcs, _⟩ | ⟨x, l, c, zs, hcs, _, hl, hm, hz, _, hcell, hwz⟩
    · simp [Value.cells] at hcs
      obtain ⟨rfl, rfl, rfl⟩ := hcs
      exact ⟨[], isRow_nil⟩
    · simp [Value.cells] at hcs
      obtain ⟨rfl, rfl, rfl⟩ := hcs
      exact ⟨zs.take len0, isRow_mk hl hm (by simpa using hz) hcell hwz⟩
  have k1 := h1
  have lt1 : ∀ x ∈ p1, x.block < W.heap.size := by obtain ⟨m, hm⟩ := k1; exact DataW.trod_lt m _ _ _ hm
  obtain ⟨a1, len1, cap1, rfl⟩ := okWide_slice Try.underlying40 (hval 1 40 v1 rfl rfl)
  obtain ⟨z1, w1⟩ : ∃ zs, IsRow .u8 W a1 len1 cap1 zs := by
    obtain ⟨fuel, hf⟩ := h1
    rcases open_ints Try.underlying40 Try.underlying5 (by kernel_rfl) hf with ⟨hcs, _⟩ | ⟨x, l, c, zs, hcs, _, hl, hm, hz, _, hcell, hwz⟩
    · simp [Value.cells] at hcs
      obtain ⟨rfl, rfl, rfl⟩ := hcs
      exact ⟨[], isRow_nil⟩
    · simp [Value.cells] at hcs
      obtain ⟨rfl, rfl, rfl⟩ := hcs
      exact ⟨zs.take len1, isRow_mk hl hm (by simpa using hz) hcell hwz⟩
  clear hA0 hval0
  refine (shifts_walk a0 len0 cap0 z0 a1 len1 cap1 z1 W w0 w1).mono fun e W' ⟨he, bel⟩ => ?_
  subst he
  exact ⟨_, rfl, _, _, _, [], _, [], hW', trodAll_mk1 (shut_bool Try.underlying4 _), (trodAll_cons_mk (Below.trod laidOut (by kernel_rfl) (of_decide_eq_true (by kernel_rfl)) k0 bel lt0) (trodAll_cons_mk (Below.trod laidOut (by kernel_rfl) (of_decide_eq_true (by kernel_rfl)) k1 bel lt1) trodAll_mk0)), rfl, bel.frame _, fun h => by cases h⟩

/-- The statement, proved. -/
theorem fnShifts_holds : Rows.FnShiftsSaid :=
  OpenClaim.holds_of_wide 13 Try.f13 rfl rfl rfl rfl rfl rfl rfl ⟨rfl, rfl, rfl, rfl, rfl⟩ rfl rfl rfl rfl rfl (by kernel_rfl) Try.func13 (by kernel_rfl)
    (of_decide_eq_true (by kernel_rfl)) (by unfold Func.isWrapper; first | (rw [if_pos (by decide +kernel)]; kernel_rfl) | (rw [if_neg (by decide +kernel)]; exact ⟨rfl, rfl⟩))
    (fun os started H enc _ => lifted_FnShifts os started H enc)
end Go.Proofs.Ytlkdkidpbjpkhaa
