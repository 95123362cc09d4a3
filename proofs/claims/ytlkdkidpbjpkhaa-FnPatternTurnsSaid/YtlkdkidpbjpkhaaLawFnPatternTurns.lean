/- For all bytes, the law FnPatternTurns holds: two equal turns restore a pattern, both turns together are the third one, and diagonals change their direction with one turn; no condition. -/
import Derived.Test.YtlkdkidpbjpkhaaPtQ
import Derived.Test.YtlkdkidpbjpkhaaDiagI
import Derived.Test.YtlkdkidpbjpkhaaDrawA
namespace Go.Proofs.Ytlkdkidpbjpkhaa
set_option linter.unusedVariables false
open Go.ChangeShapes Go.WideShapes Go.ChangeAt Go.RowKit

set_option maxHeartbeats 2000000 in
theorem a2Text_same (a a' : Option Addr) (len cap cap' : Nat) (ss : List ByteArray) (w : World) (h : IsStrs w a len cap ss) (h' : IsStrs w a' len cap' ss) :
    Calls Try.prog 44 #[.slice a len cap, .slice a' len cap'] w fun e w' => e = .returned (.bool true) ∧ Below w.heap.size w w' := by
  have hm : len ≤ maxLen := Nat.le_trans h.2.1 h.2.2.1
  unfold maxLen at hm
  have H := Lib.hid h
  have H' := Lib.hid h'
  clear h h'
  go_enter Try.func44, Try.ntmps44
  go_wp2
  go_loopw [5] (fun i wr => ∃ k : Nat, k ≤ len ∧ i = .int .i64 (k : Int) ∧ Below w.heap.size w wr) (fun i _ => (len - intOf i).toNat)
  case atStart => exact ⟨0, by omega, rfl, Below.refl _ _⟩
  case round =>
    obtain ⟨k, hk, rfl, hB⟩ := hrel
    by_cases hlt : k < len
    · obtain ⟨b, o, rfl, hb, hc⟩ := (H.out.below hB).cell hlt
      obtain ⟨b', o', rfl, hb', hc'⟩ := (H'.out.below hB).cell hlt
      generalize ss.getD k ByteArray.empty = x at *
      have hlt' : (k : Int) < (len : Int) := by omega
      go_wp2
      go_quiet (fail)
      go_wp2
      go_roundw
      case rel => exact ⟨k + 1, by omega, by go_num, below_drewN hB _⟩
      case measure => simp [intOf]; omega
    · go_wp2
      go_ret
      exact ⟨rfl, hB⟩
theorem turn_at (a : Option Addr) (c : Nat) (ss : List ByteArray) (kind : Int) (W : World) (h : IsStrs W a ss.length c ss) (g : patB ss = true) (hk : inB kind 0 2 = true) :
    Calls Try.prog 34 #[.slice a ss.length c, .int .i64 kind] W fun e w' => ∃ x c', e = .returned (.tuple #[.slice x ss.length c', .int .i64 0]) ∧ IsStrs w' x ss.length c' (tuL ss kind) ∧ Below W.heap.size W w' := by
  refine (turnPattern2_any a ss.length c ss kind W h).mono ?_
  rintro e w' ⟨x, c', rfl, hO, hs, hb⟩
  obtain ⟨e1, e2, _⟩ := tu_0 g hk
  rw [e2] at hO hs ⊢
  rw [e1]
  have hr := hO.row hs
  rw [tuL_len] at hr ⊢
  exact ⟨x, c', rfl, hr, hb⟩
theorem dark_at (a : Option Addr) (c : Nat) (ss : List ByteArray) (W : World) (h : IsStrs W a ss.length c ss) (g : patB ss = true) :
    Calls Try.prog 40 #[.slice a ss.length c] W fun e w' => e = .returned (.tuple #[.int .i64 (darkK ss ss.length), .int .i64 0]) ∧ Below W.heap.size W w' := by
  have := darkIn_any a ss.length c ss W h
  rw [(dark_yes g).1, (dark_yes g).2] at this
  exact this
theorem diag_at (a : Option Addr) (c : Nat) (ss : List ByteArray) (W : World) (h : IsStrs W a ss.length c ss) (g : patB ss = true) :
    Calls Try.prog 24 #[.slice a ss.length c] W fun e w' => e = .returned (.tuple #[.int .i64 (diG ss 1), .int .i64 (diG ss (-1)), .int .i64 0]) ∧ Below W.heap.size W w' := by
  have := darkDiagonals_any a ss.length c ss W h
  rw [(di_yes g).1, (di_yes g).2, (dark_yes g).2] at this
  exact this
set_option maxRecDepth 100000 in
set_option maxHeartbeats 8000000 in
theorem patternTurns_walk (a : Option Addr) (len cap : Nat) (zs : List Int) (w : World) (h : IsRow .u8 w a len cap zs) :
    Calls Try.prog 15 #[.slice a len cap] w fun e w' => e = .returned (.bool true) ∧ Below w.heap.size w w' := by
  have hm : len ≤ maxLen := Nat.le_trans h.2.1 h.2.2.1
  have hm0 : 0 ≤ maxLen := Nat.zero_le _
  have HL := Lib.hid (fun W => a2Long_any a none len cap 0 0 W hm hm0)
  by_cases hl : 3000 < len
  · have HB := Lib.hid (show longB len 0 = true by simp [longB, hl])
    go_enter Try.func15, Try.ntmps15
    go_wp2_with fail
    refine (HL.out _).mono ?_
    rintro e1 w1 ⟨rfl, rfl⟩
    rw [HB.out]
    go_wp2
    go_ret
    exact ⟨rfl, (by repeat (first | exact Below.refl _ _ | assumption | refine Below.drew ?_ | refine below_drewN ?_ _ | refine Below.alloc ?_ (by first | omega | (simp; done) | (simp; omega)) _ | refine Below.setCell ?_ (by first | omega | (simp; done) | (simp; omega)) _))⟩
  have HB := Lib.hid (show longB len 0 = false by simp [longB, hl])
  have HA := Lib.hid (a2Pattern_any a len cap zs w h)
  clear h hm hm0 hl
  go_enter Try.func15, Try.ntmps15
  go_wp2_with fail
  refine (HL.out _).mono ?_
  rintro e1 w1 ⟨rfl, rfl⟩
  rw [HB.out]
  go_wp2_with fail
  refine HA.out.mono ?_
  rintro e wa ⟨x, n, c, ss, rfl, g, hS, hba⟩
  have hn := hS.1
  have hpz := di_zero g (st := 1) (.inl rfl)
  have hqz := di_zero g (st := -1) (.inr rfl)
  have hpd := di_dark (ss := ss) (st := 1) (.inl rfl)
  have hqd := di_dark (ss := ss) (st := -1) (.inr rfl)
  have DT := di_turn g
  have HNL := Lib.hid hn
  have HTX := Lib.hid (fun a c W hW => turn_at a c ss 0 W hW g (by decide))
  have HTY := Lib.hid (fun a c W hW => turn_at a c (tuL ss 0) 1 W hW (tuL_pat g 0).1 (by decide))
  have HTZ := Lib.hid (fun a c W hW => turn_at a c ss 2 W hW g (by decide))
  have HDX := Lib.hid (fun a c W hW => dark_at a c ss W hW g)
  have HGX := Lib.hid (fun a c W hW => diag_at a c ss W hW g)
  rw [tuL_01, tuL_len] at HTY
  rw [hn] at HTX HTY HTZ HDX HGX
  rw [hn] at hpz hqz hpd hqd
  obtain ⟨D, hD⟩ : ∃ D, darkK ss n = D := ⟨_, rfl⟩
  obtain ⟨U, hU⟩ : ∃ U, diG ss 1 = U := ⟨_, rfl⟩
  obtain ⟨V, hV⟩ : ∃ V, diG ss (-1) = V := ⟨_, rfl⟩
  rw [hD] at HDX hpz hqz hpd hqd
  rw [hU] at HGX hpz hpd
  rw [hV] at HGX hqz hqd
  have HDD : Hid (darkK ss ss.length = D) := Lib.hid (by rw [hn]; exact hD)
  have HUU := Lib.hid hU
  have HVV := Lib.hid hV
  obtain ⟨bz, hbz⟩ : ∃ bz : Bool, decide (D = 0) = bz := ⟨_, rfl⟩
  have hbz2 : (D == 0) = bz := by rw [← hbz]; by_cases h : D = 0 <;> simp [h]
  have hbu : (U == 0) = bz := by rw [← hbz]; by_cases h : D = 0 <;> simp [h, hpz.1, ← hpz]
  have hbv : (V == 0) = bz := by rw [← hbz]; by_cases h : D = 0 <;> simp [h, hqz.1, ← hqz]
  have hbu2 : decide (U = 0) = bz := by rw [← hbu]; by_cases h : U = 0 <;> simp [h]
  have hbv2 : decide (V = 0) = bz := by rw [← hbv]; by_cases h : V = 0 <;> simp [h]
  have hgu : decide (D < U) = false := decide_eq_false (by omega)
  have hgv : decide (D < V) = false := decide_eq_false (by omega)
  have HS := Lib.hid hS
  have HBA := Lib.hid hba
  clear hD hU hV hS hpz hqz hpd hqd hn hba HA HB HL
  go_wp2_with fail
  refine (HDX.out _ _ _ HS.out).mono ?_
  rintro e wb ⟨rfl, hbb⟩
  have HSb := Lib.hid (HS.out.below hbb)
  have hab := below_call HBA.out hbb
  clear hbb
  go_wp2_with fail
  refine (HGX.out _ _ _ HSb.out).mono ?_
  rintro e wc ⟨rfl, hbc⟩
  have HSc := Lib.hid (HSb.out.below hbc)
  have hac := below_call hab hbc
  clear hbc hab HS HSb HBA
  go_wp2_with fail
  go_loopw [9, 10, 11, 12, 13, 14, 15, 16, 17, 18] (fun i _ _ _ _ _ _ _ _ _ wr => ∃ k : Nat, k ≤ 3 ∧ i = .int .i64 (k : Int) ∧ IsStrs wr x n c ss ∧ Below w.heap.size w wr) (fun i _ _ _ _ _ _ _ _ _ _ => (3 - intOf i).toNat)
  case atStart => exact ⟨0, by omega, rfl, HSc.out, hac⟩
  case round =>
    clear hac HSc
    obtain ⟨k, hk, rfl, hS, hB⟩ := hrel
    have HS := Lib.hid hS
    clear hS
    by_cases hk3 : k = 3
    · subst hk3
      have HB := Lib.hid hB
      clear hB hk
      go_wp2_with fail
      refine (HTX.out _ _ _ HS.out).mono ?_
      rintro e w1 ⟨x1, c1, rfl, hT1, hb1⟩
      have HS1 := Lib.hid (HS.out.below hb1)
      have ha1 := below_call HB.out hb1
      go_wp2_with fail
      refine (HTY.out _ _ _ hT1).mono ?_
      rintro e w2 ⟨x2, c2, rfl, hT2, hb2⟩
      have HS2 := Lib.hid (HS1.out.below hb2)
      have ha2 := below_call ha1 hb2
      go_wp2_with fail
      refine (HTZ.out _ _ _ HS2.out).mono ?_
      rintro e w3 ⟨x3, c3, rfl, hT3, hb3⟩
      have hT2b := hT2.below hb3
      have ha3 := below_call ha2 hb3
      clear hT1 hb1 hb2 hb3 ha1 ha2
      go_wp2_with fail
      refine (a2Text_same _ _ _ _ _ _ _ hT2b hT3).mono ?_
      rintro e w4 ⟨rfl, hb4⟩
      have ha4 := below_call ha3 hb4
      clear hT2 hT3 hT2b
      go_wp2
      go_ret
      exact ⟨rfl, ha4⟩
    · have hk4 : k = 0 ∨ k = 1 ∨ k = 2 := by omega
      clear hk3 hk
      rcases hk4 with rfl | rfl | rfl
      · have HTK := Lib.hid (fun a c W hW => turn_at a c ss 0 W hW g (by decide))
        have HTT := Lib.hid (fun a c W hW => turn_at a c (tuL ss 0) 0 W hW (tuL_pat g 0).1 (by decide))
        have HDK := Lib.hid (fun a c W hW => dark_at a c (tuL ss 0) W hW (tuL_pat g 0).1)
        have HGK := Lib.hid (fun a c W hW => diag_at a c (tuL ss 0) W hW (tuL_pat g 0).1)
        have e1 := dark_turn ss 0
        obtain ⟨e2, e3⟩ := (DT.1)
        rw [tuL_tuL] at HTT
        rw [e1, HDD.out] at HDK
        rw [e2, e3, HVV.out, HUU.out] at HGK
        rw [tuL_len, HNL.out] at HTT HDK HGK
        rw [HNL.out] at HTK
        generalize tuL ss 0 = T at *
        clear e1 e2 e3
        go_wp2_with fail
        refine (HTK.out _ _ _ HS.out).mono ?_
        rintro e w1 ⟨x1, c1, rfl, hT1, hb1⟩
        have HS1 := Lib.hid (HS.out.below hb1)
        have ha1 := below_call hB hb1
        go_wp2_with fail
        refine (HTT.out _ _ _ hT1).mono ?_
        rintro e w2 ⟨x2, c2, rfl, hT2, hb2⟩
        have HS2 := Lib.hid (HS1.out.below hb2)
        have hT1b := hT1.below hb2
        have ha2 := below_call ha1 hb2
        go_wp2_with fail
        refine (HDK.out _ _ _ hT1b).mono ?_
        rintro e w3 ⟨rfl, hb3⟩
        have HS3 := Lib.hid (HS2.out.below hb3)
        have hT1c := hT1b.below hb3
        have hT2c := hT2.below hb3
        have ha3 := below_call ha2 hb3
        go_wp2_with fail
        refine (HGK.out _ _ _ hT1c).mono ?_
        rintro e w4 ⟨rfl, hb4⟩
        have HS4 := Lib.hid (HS3.out.below hb4)
        have HX4 := Lib.hid (hT2c.below hb4)
        have ha4 := below_call ha3 hb4
        clear hT1 hT2 hT1b hT1c hT2c hb1 hb2 hb3 hb4 ha1 ha2 ha3 hB
        go_wp2_with fail
        refine (a2Text_same _ _ _ _ _ _ _ HX4.out HS4.out).mono ?_
        rintro e w5 ⟨rfl, hb5⟩
        have HS5 := Lib.hid (HS4.out.below hb5)
        have ha5 := below_call ha4 hb5
        clear hb5
        go_wp2
        go_roundw
        case rel => exact ⟨1, by omega, rfl, HS5.out, ha5⟩
        case measure => first | (simp [intOf]; done) | (simp [intOf]; omega) | decide
      · have HTK := Lib.hid (fun a c W hW => turn_at a c ss 1 W hW g (by decide))
        have HTT := Lib.hid (fun a c W hW => turn_at a c (tuL ss 1) 1 W hW (tuL_pat g 1).1 (by decide))
        have HDK := Lib.hid (fun a c W hW => dark_at a c (tuL ss 1) W hW (tuL_pat g 1).1)
        have HGK := Lib.hid (fun a c W hW => diag_at a c (tuL ss 1) W hW (tuL_pat g 1).1)
        have e1 := dark_turn ss 1
        obtain ⟨e2, e3⟩ := (DT.2.1)
        rw [tuL_tuL] at HTT
        rw [e1, HDD.out] at HDK
        rw [e2, e3, HVV.out, HUU.out] at HGK
        rw [tuL_len, HNL.out] at HTT HDK HGK
        rw [HNL.out] at HTK
        generalize tuL ss 1 = T at *
        clear e1 e2 e3
        go_wp2_with fail
        refine (HTK.out _ _ _ HS.out).mono ?_
        rintro e w1 ⟨x1, c1, rfl, hT1, hb1⟩
        have HS1 := Lib.hid (HS.out.below hb1)
        have ha1 := below_call hB hb1
        go_wp2_with fail
        refine (HTT.out _ _ _ hT1).mono ?_
        rintro e w2 ⟨x2, c2, rfl, hT2, hb2⟩
        have HS2 := Lib.hid (HS1.out.below hb2)
        have hT1b := hT1.below hb2
        have ha2 := below_call ha1 hb2
        go_wp2_with fail
        refine (HDK.out _ _ _ hT1b).mono ?_
        rintro e w3 ⟨rfl, hb3⟩
        have HS3 := Lib.hid (HS2.out.below hb3)
        have hT1c := hT1b.below hb3
        have hT2c := hT2.below hb3
        have ha3 := below_call ha2 hb3
        go_wp2_with fail
        refine (HGK.out _ _ _ hT1c).mono ?_
        rintro e w4 ⟨rfl, hb4⟩
        have HS4 := Lib.hid (HS3.out.below hb4)
        have HX4 := Lib.hid (hT2c.below hb4)
        have ha4 := below_call ha3 hb4
        clear hT1 hT2 hT1b hT1c hT2c hb1 hb2 hb3 hb4 ha1 ha2 ha3 hB
        go_wp2_with fail
        refine (a2Text_same _ _ _ _ _ _ _ HX4.out HS4.out).mono ?_
        rintro e w5 ⟨rfl, hb5⟩
        have HS5 := Lib.hid (HS4.out.below hb5)
        have ha5 := below_call ha4 hb5
        clear hb5
        go_wp2
        go_roundw
        case rel => exact ⟨2, by omega, rfl, HS5.out, ha5⟩
        case measure => first | (simp [intOf]; done) | (simp [intOf]; omega) | decide
      · have HTK := Lib.hid (fun a c W hW => turn_at a c ss 2 W hW g (by decide))
        have HTT := Lib.hid (fun a c W hW => turn_at a c (tuL ss 2) 2 W hW (tuL_pat g 2).1 (by decide))
        have HDK := Lib.hid (fun a c W hW => dark_at a c (tuL ss 2) W hW (tuL_pat g 2).1)
        have HGK := Lib.hid (fun a c W hW => diag_at a c (tuL ss 2) W hW (tuL_pat g 2).1)
        have e1 := dark_turn ss 2
        obtain ⟨e2, e3⟩ := (DT.2.2)
        rw [tuL_tuL] at HTT
        rw [e1, HDD.out] at HDK
        rw [e2, e3, HUU.out, HVV.out] at HGK
        rw [tuL_len, HNL.out] at HTT HDK HGK
        rw [HNL.out] at HTK
        generalize tuL ss 2 = T at *
        clear e1 e2 e3
        go_wp2_with fail
        refine (HTK.out _ _ _ HS.out).mono ?_
        rintro e w1 ⟨x1, c1, rfl, hT1, hb1⟩
        have HS1 := Lib.hid (HS.out.below hb1)
        have ha1 := below_call hB hb1
        go_wp2_with fail
        refine (HTT.out _ _ _ hT1).mono ?_
        rintro e w2 ⟨x2, c2, rfl, hT2, hb2⟩
        have HS2 := Lib.hid (HS1.out.below hb2)
        have hT1b := hT1.below hb2
        have ha2 := below_call ha1 hb2
        go_wp2_with fail
        refine (HDK.out _ _ _ hT1b).mono ?_
        rintro e w3 ⟨rfl, hb3⟩
        have HS3 := Lib.hid (HS2.out.below hb3)
        have hT1c := hT1b.below hb3
        have hT2c := hT2.below hb3
        have ha3 := below_call ha2 hb3
        go_wp2_with fail
        refine (HGK.out _ _ _ hT1c).mono ?_
        rintro e w4 ⟨rfl, hb4⟩
        have HS4 := Lib.hid (HS3.out.below hb4)
        have HX4 := Lib.hid (hT2c.below hb4)
        have ha4 := below_call ha3 hb4
        clear hT1 hT2 hT1b hT1c hT2c hb1 hb2 hb3 hb4 ha1 ha2 ha3 hB
        go_wp2_with fail
        refine (a2Text_same _ _ _ _ _ _ _ HX4.out HS4.out).mono ?_
        rintro e w5 ⟨rfl, hb5⟩
        have HS5 := Lib.hid (HS4.out.below hb5)
        have ha5 := below_call ha4 hb5
        clear hb5
        go_wp2
        go_roundw
        case rel => exact ⟨3, by omega, rfl, HS5.out, ha5⟩
        case measure => first | (simp [intOf]; done) | (simp [intOf]; omega) | decide
/-! ### The row's step: the arguments are opened, the walk is called, the arguments read as before. -/
set_option maxRecDepth 100000 in
set_option maxHeartbeats 1000000 in
set_option linter.unusedVariables false in
theorem lifted_FnPatternTurns (os : Os) (started : os.Started) (H : Type) (enc : TypeId × Value → H) :
    ReturnsInHanded {} Try.checked os 15 .any (Rows.fnPatternTurnsSpec.pre6 enc Try.prog Try.f15 Rows.fnPatternTurnsRow.domain false) (Rows.fnPatternTurnsSpec.post enc Try.prog Try.f15 false true false false) := by
  refine returnsInHanded_of_change (C := Try.checked) ownNone started (by kernel_rfl) Try.func15
    (ChangeSpec.witness6 (enc := enc) (C := Try.checked) false ⟨#[], #[.slice none 0 0], []⟩ 8 (by kernel_rfl) (by kernel_rfl) (by kernel_rfl) (by kernel_rfl)) ?_
  intro W base args ds gs before hval0 hW hcnd _
  have hval : ∀ (j : Nat) t v, Try.f15.params[j]? = some t → args[j]? = some v → Value.okWide Try.prog W .any base t v := hval0
  have hW' := hW
  obtain ⟨p, q, hA0, hV, rfl, hfz, hnd⟩ := hW
  have hA : DataW.TrodAll enc Try.prog W 0 (fun _ => true) true Try.f15.params.toList args.toList ds p := hA0
  rw [Try.params15] at hA hval
  obtain ⟨v0, vs0, d0, ds0, p0, q0, hargs, rfl, rfl, h0, r0⟩ := trodAll_cons hA
  obtain ⟨rfl, rfl, rfl⟩ := trodAll_nil r0
  obtain rfl : args = #[v0] := by cases args; simp_all
  obtain ⟨rfl, rfl⟩ := trodVars_none hV
  have k0 := h0
  have lt0 : ∀ x ∈ p0, x.block < W.heap.size := by obtain ⟨m, hm⟩ := k0; exact DataW.trod_lt m _ _ _ hm
  obtain ⟨a0, len0, cap0, rfl⟩ := okWide_slice Try.underlying40 (hval 0 40 v0 rfl rfl)
  obtain ⟨z0, w0⟩ : ∃ zs, IsRow .u8 W a0 len0 cap0 zs := by
    obtain ⟨fuel, hf⟩ := h0
    rcases open_ints Try.underlying40 Try.underlying5 (by kernel_rfl) hf with ⟨hcs, _⟩ | ⟨x, l, c, zs, hcs, _, hl, hm, hz, _, hcell, hwz⟩
    · simp [Value.cells] at hcs
      obtain ⟨rfl, rfl, rfl⟩ := hcs
      exact ⟨[], isRow_nil⟩
    · simp [Value.cells] at hcs
      obtain ⟨rfl, rfl, rfl⟩ := hcs
      exact ⟨zs.take len0, isRow_mk hl hm (by simpa using hz) hcell hwz⟩
  clear hA0 hval0
  refine (patternTurns_walk a0 len0 cap0 z0 W w0).mono fun e W' ⟨he, bel⟩ => ?_
  subst he
  exact ⟨_, rfl, _, _, _, [], _, [], hW', trodAll_mk1 (shut_bool Try.underlying4 _), (trodAll_cons_mk (Below.trod laidOut (by kernel_rfl) (of_decide_eq_true (by kernel_rfl)) k0 bel lt0) trodAll_mk0), rfl, bel.frame _, fun h => by cases h⟩

/-- The statement, proved. -/
theorem fnPatternTurns_holds : Rows.FnPatternTurnsSaid :=
  OpenClaim.holds_of_wide 15 Try.f15 rfl rfl rfl rfl rfl rfl rfl ⟨rfl, rfl, rfl, rfl, rfl⟩ rfl rfl rfl rfl rfl (by kernel_rfl) Try.func15 (by kernel_rfl)
    (of_decide_eq_true (by kernel_rfl)) (by unfold Func.isWrapper; first | (rw [if_pos (by decide +kernel)]; kernel_rfl) | (rw [if_neg (by decide +kernel)]; exact ⟨rfl, rfl⟩))
    (fun os started H enc _ => lifted_FnPatternTurns os started H enc)
end Go.Proofs.Ytlkdkidpbjpkhaa
