/- For all bytes, the law FnTop holds: a wall that is bonded keeps its lap, no course has fewer cuts than the best one, and an arch has a line of thrust, or joints that prove that it has none; no condition. -/
import Derived.Test.YtklhaanapembdaaThrT
import Derived.Test.YtklhaanapembdaaM20
import Derived.Test.YtklhaanapembdaaCanI
import Derived.Test.YtklhaanapembdaaLotI
import Derived.Test.YtklhaanapembdaaWhyI
import Derived.Test.YtklhaanapembdaaFallS
import Derived.Test.YtklhaanapembdaaIsLineS
import Derived.Test.YtklhaanapembdaaM27
import Derived.Test.YtklhaanapembdaaM38
import Derived.Test.YtklhaanapembdaaBCour
import Derived.Test.YtklhaanapembdaaCourD
import Derived.Test.YtklhaanapembdaaBndD

namespace Go.Proofs.Ytklhaanapembdaa
set_option linter.unusedVariables false
set_option linter.unusedSimpArgs false
open Go.ChangeShapes Go.WideShapes Go.ChangeAt Go.RowKit

theorem atB3' {W : World} {g : Nat} {v0 v1 v2 : Value} (h : W.heap[g]? = some (.cells #[v0, v1, v2] 26 (0, 0))) : W.cell? ⟨g, 0, none⟩ = some v0 ∧ W.cell? ⟨g, 1, none⟩ = some v1 ∧ W.cell? ⟨g, 2, none⟩ = some v2 := by
  refine ⟨?_, ?_, ?_⟩ <;> (rw [cellOf h]; rfl)
set_option maxRecDepth 100000 in
set_option maxHeartbeats 16000000 in
theorem top_walk (a : Option Addr) (len cap : Nat) (zs : List Int) (a' : Option Addr) (len' cap' : Nat) (zs' : List Int) (w : World) (h : IsRow .u8 w a len cap zs) (h' : IsRow .u8 w a' len' cap' zs') :
    Calls Try.prog 4 #[.slice a len cap, .slice a' len' cap'] w fun e w' => e = .returned (.bool true) ∧ Below w.heap.size w w' := by
  have hm : len ≤ maxLen := Nat.le_trans h.2.1 h.2.2.1
  have hm' : len' ≤ maxLen := Nat.le_trans h'.2.1 h'.2.2.1
  have HL := Lib.hid (fun W => a2Long_any a a' len cap len' cap' W hm hm')
  have H := Lib.hid h
  have H' := Lib.hid h'
  cases hl : longB len len'
  case true =>
    rw [hl] at HL
    clear hl h h' hm hm'
    go_enter Try.func4, Try.ntmps4
    go_wp2_with fail
    refine (HL.out _).mono ?_
    rintro e w1 ⟨rfl, rfl⟩
    go_wp2
    go_ret
    exact ⟨rfl, (by repeat (first | exact Below.refl _ _ | assumption | refine Below.drew ?_ | refine below_drewN ?_ _ | refine Below.alloc ?_ (by first | omega | (simp; done) | (simp; omega)) _ | refine Below.setCell ?_ (by first | omega | (simp; done) | (simp; omega)) _))⟩
  case false =>
    rw [hl] at HL
    have hlen : len ≤ 3000 := by
      simp only [longB, Bool.or_eq_false_iff, decide_eq_false_iff_not] at hl
      omega
    have HBN := Lib.hid (a2Bond_any a len cap zs w h)
    clear hl h h' hm hm'
    go_enter Try.func4, Try.ntmps4
    go_wp2_with fail
    refine (HL.out _).mono ?_
    rintro e w1 ⟨rfl, rfl⟩
    clear HL
    go_wp2_with fail
    refine HBN.out.mono ?_
    rintro e w2 ⟨nm, xb, nb, cb, ps, rfl, hbd, hb2⟩
    go_wp2_with fail
    obtain ⟨W3, hW3⟩ : ∃ W3, w2.alloc (.cells #[.string nm, .slice xb nb cb] 45) = W3 := ⟨_, rfl⟩
    have hb3 : Below w.heap.size w W3 := by rw [← hW3]; exact hb2.alloc hb2.size _
    have BD := Lib.hid (show Bond W3 nm xb nb cb ps by rw [← hW3]; exact hbd.below (by repeat (first | exact Below.refl _ _ | assumption | refine Below.drew ?_ | refine below_drewN ?_ _ | refine Below.alloc ?_ (by first | omega | (simp; done) | (simp; omega)) _ | refine Below.setCell ?_ (by first | omega | (simp; done) | (simp; omega)) _)))
    have K3 : Hid (W3.heap[w2.heap.size]? = some (.cells #[.string nm, .slice xb nb cb] 45 (0, 0))) := Lib.hid (by rw [← hW3]; exact blk_new _ _)
    rw [hW3]
    clear hW3 hbd hb2 HBN
    refine (a2Length_any _ _ _ _ _ (H'.out.below hb3)).mono ?_
    rintro e w4 ⟨L, rfl, ⟨l1, l2⟩, hb4⟩
    have hb4' := below_call hb3 hb4
    have HAA := Lib.hid (a2At_any a' len' cap' zs' 3 2 w4 (H'.out.below hb4') (by omega) (by omega))
    have hab := atI_bd zs' 3 2 (by omega)
    have K4 := Lib.hid (blk_call K3.out hb4)
    have BD4 := Lib.hid (BD.out.below hb4)
    have HB4 := Lib.hid hb4'
    clear hb3 hb4 hb4' K3 BD
    go_wp2_with fail
    refine HAA.out.mono ?_
    rintro e w5 ⟨rfl, rfl⟩
    generalize atI zs' 3 2 = at' at *
    have f0 := zeroB K4.out
    have f1 := B6s1 K4.out
    go_wp2_with fail
    clear f0 f1
    obtain ⟨lap, hlap⟩ : ∃ lap, 1 + at' = lap := ⟨_, rfl⟩
    have p1 : 1 ≤ lap := by omega
    have p4 : lap ≤ 4 := by omega
    rw [hlap]
    clear hlap hab K4 HAA
    have HLW := Lib.hid (layWall_any nm xb nb cb 4 (L : Int) ps w4 BD4.out (by omega) (by omega) (by omega) (by omega))
    rw [show ((4 : Nat) : Int) = 4 from rfl] at HLW
    refine HLW.out.mono ?_
    rintro e w5 ⟨xa, ca, ss, rfl, hsl, hwl, hst, hb5⟩
    have hb5' := below_call HB4.out hb5
    have HB5 := Lib.hid hb5'
    have ST := Lib.hid hst
    have WL := Lib.hid hwl
    have SL := Lib.hid hsl
    have HBC := Lib.hid (fun W => bestC_any L W l1 l2)
    have HAC := Lib.hid (fun W (hB : Below w.heap.size w W) => a2Course_any a len cap zs L W (H.out.below hB) l1 l2 hlen)
    have HIB := Lib.hid (isBonded_any (L : Int) lap xa 4 ca ss w5 hst (by omega) (by omega) hwl p1 p4)
    clear hsl hwl hst hb5 hb5' HLW HB4 BD4
    go_wp2_with fail
    refine HIB.out.mono ?_
    rintro e w6 ⟨hb6, hcase⟩
    have ST6 := Lib.hid (ST.out.below hb6)
    have HB6 := Lib.hid (below_call HB5.out hb6)
    have HFC := Lib.hid (firstClash_any (L : Int) lap xa 4 ca ss w6 ST6.out (by omega) (by omega) WL.out p1 p4)
    clear hb6 ST HB5 HIB
    rcases hcase with ⟨hA, rfl⟩ | ⟨hA, rfl⟩
    · have HA := Lib.hid hA
      clear hA
      go_wp2_with fail
      refine HFC.out.mono ?_
      rintro e w7 ⟨hb7, ⟨_, rfl⟩ | ⟨k, x, y, hC, rfl⟩⟩
      · have ST7 := Lib.hid (ST6.out.below hb7)
        have HB7 := Lib.hid (below_call HB6.out hb7)
        have HCP := Lib.hid (fun k (hk : k < 4) W => specCoursePerpends_yes (L : Int) (ss.getD k ByteArray.empty) W (WL.out k (by rw [SL.out]; exact hk)))
        have HPB := Lib.hid (fun k (hk : k < 4) => perpU_bd (ss.getD k ByteArray.empty) (WL.out k (by rw [SL.out]; exact hk)).s1)
        have HAP := Lib.hid (fun k (hk : k + 1 < 4) => HA.out k (by rw [SL.out]; exact hk))
        clear hb7 HFC ST6 HB6 HA
        go_wp2_with fail
        go_loopw [20, 21, 22, 23, 24] (fun iv _ _ _ _ wr => ∃ k : Nat, k ≤ 3 ∧ iv = .int .i64 (k : Int) ∧ Below w7.heap.size w7 wr) (fun iv _ _ _ _ _ => (4 - intOf iv).toNat)
        case atStart => exact ⟨0, by omega, rfl, Below.refl _ _⟩
        case round =>
          obtain ⟨k, hk, rfl, hB⟩ := hrel
          by_cases hlt : k < 3
          · have hlt' : (k : Int) + 1 < 4 := by omega
            have hk4 : (k : Int) < 4 := by omega
            obtain ⟨r, o, rfl, hr, hc⟩ := (ST7.out.below hB).cell (i := k) (by omega)
            have H1 := Lib.hid (HCP.out k (by omega) wr)
            have H2 := Lib.hid (fun W => HCP.out (k + 1) (by omega) W)
            have HX := Lib.hid (HPB.out k (by omega))
            have HY := Lib.hid (HPB.out (k + 1) (by omega))
            have HZ := Lib.hid (HAP.out k (by omega))
            have HS2 := Lib.hid (fun W (hW : Below w7.heap.size w7 W) => (ST7.out.below hW).cell (i := k + 1) (by omega))
            generalize ss.getD k ByteArray.empty = s1 at *
            generalize ss.getD (k + 1) ByteArray.empty = s2 at *
            go_wp2_with fail
            refine H1.out.mono ?_
            rintro e w8 ⟨x1, c1, rfl, hO1, hb8⟩
            have hB8 := below_call hB hb8
            have hz8 := hB8.size
            have R1 := Lib.hid hO1.row
            obtain ⟨r2, o2, hr2, _, hc2⟩ := HS2.out _ hB8
            injection hr2 with hr2
            injection hr2 with hr3 hr4
            subst hr3 hr4
            have HB8 := Lib.hid hB8
            clear hO1 hb8 hc hB8 H1
            go_wp2_with fail
            refine (H2.out _).mono ?_
            rintro e w9 ⟨x2, c2, rfl, hO2, hb9⟩
            have HB9 := Lib.hid (below_call HB8.out hb9)
            have R2 := Lib.hid hO2.row
            have R19 := Lib.hid (R1.out.below hb9)
            have HAY := Lib.hid (a2Apart_yes x1 x2 (perpU s1).length c1 (perpU s2).length c2 (perpU s1) (perpU s2) lap w9 R19.out R2.out HX.out HY.out HZ.out)
            generalize (perpU s1).length = m1 at *
            generalize (perpU s2).length = m2 at *
            clear hO2 hb9 hc2 H2 R1 R2 R19 HB8
            go_wp2_with fail
            refine HAY.out.mono ?_
            rintro e wa ⟨rfl, hba⟩
            have HBa := Lib.hid (below_call HB9.out hba)
            clear hba HAY HB9
            go_wp2
            go_roundw
            case rel => exact ⟨k + 1, by omega, by go_num, HBa.out⟩
            case measure => first | (simp [intOf]; done) | (simp [intOf]; omega)
          · obtain rfl : k = 3 := by omega
            have HAT := Lib.hid (below_call HB7.out hB)
            clear hB HCP HPB HAP HB7 ST7 WL SL
            have haT := HAT.out
            clear HAT
            go_wp2_with fail
            refine (HBC.out _).mono ?_
            rintro eb wb ⟨s, rfl, hcs, hcu, hbb⟩
            have HCI := Lib.hid (fun W => specCutsIn_yes (L : Int) s W hcs)
            have HCU := Lib.hid hcu
            have HAB := below_call haT hbb
            clear haT hbb hcs hcu
            go_wp2_with fail
            refine (HCI.out _).mono ?_
            rintro ec wc ⟨rfl, rfl⟩
            go_wp2_with fail
            refine (HAC.out _ HAB).mono ?_
            rintro ed wd ⟨t, rfl, hct, hbd⟩
            have HCI2 := Lib.hid (fun W => specCutsIn_yes (L : Int) t W hct)
            have HAD := below_call HAB hbd
            have hle : ¬ cutU t.data.toList < cutU s.data.toList := by have := best_least HCU.out hct; omega
            generalize cutU t.data.toList = c2 at *
            generalize cutU s.data.toList = c1 at *
            have hzD := HAD.size
            clear hct hbd HAB HCU HCI HBC HAC
            go_wp2_with fail
            refine (HCI2.out _).mono ?_
            rintro ee we ⟨rfl, rfl⟩
            go_wp2_with fail
            refine (a2Blocks_any _ _ _ _ _ (H'.out.below HAD)).mono ?_
            rintro e w2 ⟨a0, a1, a2, n0, k0, n1, k1, n2, k2, ls, lo, hi, rfl, hv, hsm, hb2, hB2⟩
            obtain ⟨v1, v2, v3, v4, v5, v6, v7, v8⟩ := blkB_t hv
            obtain ⟨e0, e1, e2⟩ := hb2.len
            have hn0 : 2 ≤ n0 := by omega
            have hn1 : 3 ≤ n1 := by omega
            have hn2 : n2 = n1 := by omega
            have hn11 : n1 ≤ 11 := by omega
            subst hn2
            have HCA := Lib.hid (fun W hW => canStand_any a0 a1 a2 n0 k0 n2 k1 n2 k2 ls lo hi W hW)
            have HLT := Lib.hid (fun W hW => lineOfThrust_any a0 a1 a2 n0 k0 n2 k1 n2 k2 ls lo hi W hW)
            rw [show momC ls lo hi = 0 by simp [momC, hv]] at HCA
            have HV := Lib.hid hv
            have HI2 := Lib.hid hb2
            have E1 := Lib.hid e1
            have ha2 : Below w.heap.size w w2 := below_call HAD hB2
            have hz2 := ha2.size
            clear hb2 hB2 v1 v2 v3 v4 v5 v6 v7 v8 e0 e1 e2 hv hsm HAD hzD
            cases hcv : canV ls lo hi
            · have hs := hcv
              rw [canV_eq HV.out] at hs
              obtain ⟨p1, p2, p3⟩ := fall_law HV.out hs
              rw [hcv] at HCA
              have HWN := Lib.hid (fun W hW => whyNot_any a0 a1 a2 n0 k0 n2 k1 n2 k2 ls lo hi W hW)
              have HPF := Lib.hid (fun a3 n3 c3 a4 n4 c4 W hW h3 h4 => specProvesFall_any a0 a1 a2 n0 k0 n2 k1 n2 k2 ls lo hi a3 n3 c3 (wnL ls lo hi) a4 n4 c4 (wnH ls lo hi) W hW h3 h4)
              rw [p1] at HWN
              rw [p2, p3] at HPF
              clear hs p1 p2 p3 hcv HLT
              generalize wnL ls lo hi = zl at *
              generalize wnH ls lo hi = zh at *
              go_wp2_with fail
              have F1 : Hid ((w2.alloc (.cells #[.slice a0 n0 k0, .slice a1 n2 k1, .slice a2 n2 k2] 26)).heap[w2.heap.size]? = some _) := Lib.hid (blk_new _ _)
              refine (HCA.out _ (HI2.out.below (by repeat (first | exact Below.refl _ _ | assumption | refine Below.drew ?_ | refine below_drewN ?_ _ | refine Below.alloc ?_ (by first | omega | (simp; done) | (simp; omega)) _ | refine Below.setCell ?_ (by first | omega | (simp; done) | (simp; omega)) _)))).mono ?_
              rintro e w3 ⟨rfl, hb3⟩
              have hb3' : Below w2.heap.size w2 w3 := below_call (by repeat (first | exact Below.refl _ _ | assumption | refine Below.drew ?_ | refine below_drewN ?_ _ | refine Below.alloc ?_ (by first | omega | (simp; done) | (simp; omega)) _ | refine Below.setCell ?_ (by first | omega | (simp; done) | (simp; omega)) _)) hb3
              have HI3 := Lib.hid (HI2.out.below hb3')
              have F3 := Lib.hid (blk_call F1.out hb3)
              have ha3 := below_call ha2 hb3'
              clear hb3 hb3' HI2 F1
              obtain ⟨f0, f1, f2⟩ := atB3' F3.out
              go_wp2_with fail
              clear f0 f1 f2
              refine (HWN.out _ HI3.out).mono ?_
              rintro e w7 ⟨x1, d1, x2, d2, b1, t1, b2, t2, rfl, hO1, hO2, _, _, _, _, _, hb7⟩
              have HI7 := Lib.hid (HI3.out.below hb7)
              have F7 := Lib.hid (blk_call F3.out hb7)
              have ha7 := below_call ha3 hb7
              have R1 := Lib.hid hO1.row
              have R2 := Lib.hid hO2.row
              clear hb7 HI3 F3 hO1 hO2
              obtain ⟨f0, f1, f2⟩ := atB3' F7.out
              go_wp2_with fail
              clear f0 f1 f2
              refine (HPF.out _ _ _ _ _ _ _ HI7.out R1.out R2.out).mono ?_
              rintro e w8 ⟨rfl, hb8⟩
              have ha8 := below_call ha7 hb8
              go_wp2
              go_ret
              exact ⟨rfl, ha8⟩
            · obtain ⟨hv, hs⟩ := canV_t hcv
              obtain ⟨i1, i2⟩ := lot_isLine hcv
              obtain ⟨bd, bl⟩ := lot_bend hcv
              have hcs : csC ls lo hi = 0 := cs_ok hv hs
              rw [hcv] at HCA
              rw [hcs] at HLT
              have HIL := Lib.hid (fun a3 n3 c3 W hW h3 => specIsLine_any a0 a1 a2 n0 k0 n2 k1 n2 k2 ls lo hi a3 n3 c3 (lotI ls lo hi) (lotD ls lo hi) W hW h3)
              rw [i1, i2] at HIL
              rw [E1.out] at bl
              have BL := Lib.hid bl
              clear hv hs i1 i2 hcs hcv bd bl
              generalize lotI ls lo hi = Z at *
              generalize lotD ls lo hi = D at *
              go_wp2_with fail
              have F1 : Hid ((w2.alloc (.cells #[.slice a0 n0 k0, .slice a1 n2 k1, .slice a2 n2 k2] 26)).heap[w2.heap.size]? = some _) := Lib.hid (blk_new _ _)
              refine (HCA.out _ (HI2.out.below (by repeat (first | exact Below.refl _ _ | assumption | refine Below.drew ?_ | refine below_drewN ?_ _ | refine Below.alloc ?_ (by first | omega | (simp; done) | (simp; omega)) _ | refine Below.setCell ?_ (by first | omega | (simp; done) | (simp; omega)) _)))).mono ?_
              rintro e w3 ⟨rfl, hb3⟩
              have hb3' : Below w2.heap.size w2 w3 := below_call (by repeat (first | exact Below.refl _ _ | assumption | refine Below.drew ?_ | refine below_drewN ?_ _ | refine Below.alloc ?_ (by first | omega | (simp; done) | (simp; omega)) _ | refine Below.setCell ?_ (by first | omega | (simp; done) | (simp; omega)) _)) hb3
              have HI3 := Lib.hid (HI2.out.below hb3')
              have F3 := Lib.hid (blk_call F1.out hb3)
              have ha3 := below_call ha2 hb3'
              clear hb3 hb3' HI2 F1
              obtain ⟨f0, f1, f2⟩ := atB3' F3.out
              go_wp2_with fail
              clear f0 f1 f2
              refine (HLT.out _ HI3.out).mono ?_
              rintro e w6 hN6
              obtain ⟨x6, d6, rfl, hO6, hb6⟩ := hN6.toldT (n := n2) BL.out
              have HI7 := Lib.hid (HI3.out.below hb6)
              have F7 := Lib.hid (blk_call F3.out hb6)
              have Z7 := Lib.hid hO6.row
              have ha7 := below_call ha3 hb6
              clear hb6 HI3 F3 hN6 hO6
              obtain ⟨f0, f1, f2⟩ := atB3' F7.out
              go_wp2_with fail
              clear f0 f1 f2
              refine (HIL.out _ _ _ _ HI7.out Z7.out).mono ?_
              rintro e w8 ⟨rfl, hb8⟩
              have ha8 := below_call ha7 hb8
              go_wp2
              go_ret
              exact ⟨rfl, ha8⟩
      · exact absurd HA.out hC.no
    · have HA := Lib.hid hA
      clear hA
      go_wp2_with fail
      refine HFC.out.mono ?_
      rintro e w7 ⟨hb7, ⟨hA', rfl⟩ | ⟨k, x, y, hC, rfl⟩⟩
      · exact absurd hA' HA.out
      · have ST7 := Lib.hid (ST6.out.below hb7)
        have HB7 := Lib.hid (below_call HB6.out hb7)
        have hk3 : k < 3 := by have := hC.k1; rw [SL.out] at this; omega
        have hxm := hC.xm
        have hym := hC.ym
        have hlt := hC.lt
        have C1 := WL.out k (by rw [SL.out]; omega)
        have C2 := WL.out (k + 1) (by rw [SL.out]; omega)
        obtain ⟨x0, x9⟩ := perpU_bd _ C1.s1 x hxm
        obtain ⟨y0, y9⟩ := perpU_bd _ C2.s1 y hym
        have H1 := Lib.hid (fun W => specCoursePerpends_yes (L : Int) (ss.getD k ByteArray.empty) W C1)
        have H2 := Lib.hid (fun W => specCoursePerpends_yes (L : Int) (ss.getD (k + 1) ByteArray.empty) W C2)
        have XM := Lib.hid hxm
        have YM := Lib.hid hym
        obtain ⟨r, o, rfl, hr, hc⟩ := ST7.out.cell (i := k) (by omega)
        have HS2 := Lib.hid (fun W (hW : Below w7.heap.size w7 W) => (ST7.out.below hW).cell (i := k + 1) (by omega))
        obtain ⟨mx, hm1⟩ : ∃ m, (if x - y ≤ y - x then y - x else x - y) = m := ⟨_, rfl⟩
        have hm2 : (if x - y < y - x then y - x else x - y) = mx := by
          rw [← hm1]
          repeat' split
          all_goals omega
        have hm3 : max (x - y) (y - x) = mx := by rw [← hm1]; split <;> omega
        have hml : mx < lap := by rw [← hm3]; exact hlt
        have t2 : decide (lap ≤ mx) = false := decide_eq_false (by omega)
        have hk0 : ¬ (k : Int) < 0 := by omega
        have hk2 : ¬ (2 : Int) < (k : Int) := by omega
        have hk4 : (k : Int) < 4 := by omega
        have hk5 : (k : Int) + 1 < 4 := by omega
        have HMX := Lib.hid (And.intro hm1 (And.intro hm2 hm3))
        clear hC hxm hym hlt C1 C2 hb7 HFC ST6 HB6 HA hm1 hm2 hm3
        generalize ss.getD k ByteArray.empty = s1 at *
        generalize ss.getD (k + 1) ByteArray.empty = s2 at *
        go_wp2_with fail
        refine (H1.out _).mono ?_
        rintro e w8 ⟨x1, c1, rfl, hO1, hb8⟩
        have R1 := Lib.hid hO1.row
        obtain ⟨r2, o2, hr2, _, hc2⟩ := HS2.out _ hb8
        injection hr2 with hr2
        injection hr2 with hr3 hr4
        subst hr3 hr4
        have hz8 := hb8.size
        have HB8 := Lib.hid (below_call HB7.out hb8)
        clear hO1 hb8 hc H1 HS2
        go_wp2_with fail
        refine (H2.out _).mono ?_
        rintro e w9 ⟨x2, c2, rfl, hO2, hb9⟩
        have HB9 := Lib.hid (below_call HB8.out hb9)
        have R2 := Lib.hid hO2.row
        have R19 := Lib.hid (R1.out.below hb9)
        have HH1 := Lib.hid (a2Has_yes x1 (perpU s1).length c1 (perpU s1) x w9 R19.out XM.out)
        have HH2 := Lib.hid (a2Has_yes x2 (perpU s2).length c2 (perpU s2) y w9 R2.out YM.out)
        generalize (perpU s1).length = m1 at *
        generalize (perpU s2).length = m2 at *
        clear hO2 hb9 hc2 H2 R1 R2 R19 HB8 XM YM
        go_wp2_with fail
        refine HH1.out.mono ?_
        rintro e wa ⟨rfl, rfl⟩
        go_wp2_with fail
        refine HH2.out.mono ?_
        rintro e wa ⟨rfl, rfl⟩
        obtain ⟨hm1, hm2, hm3⟩ := HMX.out
        go_wp2_with fail
        clear hm1 hm2 hm3 t2 hk0 hk2 hk4 hk5 HMX HH1 HH2 hml x0 x9 y0 y9
        go_loopw [20, 21, 22, 23, 24] (fun iv _ _ _ _ wr => iv = .int .i64 0 ∧ Below w.heap.size w wr) (fun _ _ _ _ _ _ => 0)
        case atStart => exact ⟨rfl, HB9.out⟩
        case round =>
          obtain ⟨rfl, hB⟩ := hrel
          have HAT := Lib.hid hB
          clear hB HB7 ST7 WL SL HB9
          have haT := HAT.out
          clear HAT
          go_wp2_with fail
          refine (HBC.out _).mono ?_
          rintro eb wb ⟨s, rfl, hcs, hcu, hbb⟩
          have HCI := Lib.hid (fun W => specCutsIn_yes (L : Int) s W hcs)
          have HCU := Lib.hid hcu
          have HAB := below_call haT hbb
          clear haT hbb hcs hcu
          go_wp2_with fail
          refine (HCI.out _).mono ?_
          rintro ec wc ⟨rfl, rfl⟩
          go_wp2_with fail
          refine (HAC.out _ HAB).mono ?_
          rintro ed wd ⟨t, rfl, hct, hbd⟩
          have HCI2 := Lib.hid (fun W => specCutsIn_yes (L : Int) t W hct)
          have HAD := below_call HAB hbd
          have hle : ¬ cutU t.data.toList < cutU s.data.toList := by have := best_least HCU.out hct; omega
          generalize cutU t.data.toList = c2 at *
          generalize cutU s.data.toList = c1 at *
          have hzD := HAD.size
          clear hct hbd HAB HCU HCI HBC HAC
          go_wp2_with fail
          refine (HCI2.out _).mono ?_
          rintro ee we ⟨rfl, rfl⟩
          go_wp2_with fail
          refine (a2Blocks_any _ _ _ _ _ (H'.out.below HAD)).mono ?_
          rintro e w2 ⟨a0, a1, a2, n0, k0, n1, k1, n2, k2, ls, lo, hi, rfl, hv, hsm, hb2, hB2⟩
          obtain ⟨v1, v2, v3, v4, v5, v6, v7, v8⟩ := blkB_t hv
          obtain ⟨e0, e1, e2⟩ := hb2.len
          have hn0 : 2 ≤ n0 := by omega
          have hn1 : 3 ≤ n1 := by omega
          have hn2 : n2 = n1 := by omega
          have hn11 : n1 ≤ 11 := by omega
          subst hn2
          have HCA := Lib.hid (fun W hW => canStand_any a0 a1 a2 n0 k0 n2 k1 n2 k2 ls lo hi W hW)
          have HLT := Lib.hid (fun W hW => lineOfThrust_any a0 a1 a2 n0 k0 n2 k1 n2 k2 ls lo hi W hW)
          rw [show momC ls lo hi = 0 by simp [momC, hv]] at HCA
          have HV := Lib.hid hv
          have HI2 := Lib.hid hb2
          have E1 := Lib.hid e1
          have ha2 : Below w.heap.size w w2 := below_call HAD hB2
          have hz2 := ha2.size
          clear hb2 hB2 v1 v2 v3 v4 v5 v6 v7 v8 e0 e1 e2 hv hsm HAD hzD
          cases hcv : canV ls lo hi
          · have hs := hcv
            rw [canV_eq HV.out] at hs
            obtain ⟨p1, p2, p3⟩ := fall_law HV.out hs
            rw [hcv] at HCA
            have HWN := Lib.hid (fun W hW => whyNot_any a0 a1 a2 n0 k0 n2 k1 n2 k2 ls lo hi W hW)
            have HPF := Lib.hid (fun a3 n3 c3 a4 n4 c4 W hW h3 h4 => specProvesFall_any a0 a1 a2 n0 k0 n2 k1 n2 k2 ls lo hi a3 n3 c3 (wnL ls lo hi) a4 n4 c4 (wnH ls lo hi) W hW h3 h4)
            rw [p1] at HWN
            rw [p2, p3] at HPF
            clear hs p1 p2 p3 hcv HLT
            generalize wnL ls lo hi = zl at *
            generalize wnH ls lo hi = zh at *
            go_wp2_with fail
            have F1 : Hid ((w2.alloc (.cells #[.slice a0 n0 k0, .slice a1 n2 k1, .slice a2 n2 k2] 26)).heap[w2.heap.size]? = some _) := Lib.hid (blk_new _ _)
            refine (HCA.out _ (HI2.out.below (by repeat (first | exact Below.refl _ _ | assumption | refine Below.drew ?_ | refine below_drewN ?_ _ | refine Below.alloc ?_ (by first | omega | (simp; done) | (simp; omega)) _ | refine Below.setCell ?_ (by first | omega | (simp; done) | (simp; omega)) _)))).mono ?_
            rintro e w3 ⟨rfl, hb3⟩
            have hb3' : Below w2.heap.size w2 w3 := below_call (by repeat (first | exact Below.refl _ _ | assumption | refine Below.drew ?_ | refine below_drewN ?_ _ | refine Below.alloc ?_ (by first | omega | (simp; done) | (simp; omega)) _ | refine Below.setCell ?_ (by first | omega | (simp; done) | (simp; omega)) _)) hb3
            have HI3 := Lib.hid (HI2.out.below hb3')
            have F3 := Lib.hid (blk_call F1.out hb3)
            have ha3 := below_call ha2 hb3'
            clear hb3 hb3' HI2 F1
            obtain ⟨f0, f1, f2⟩ := atB3' F3.out
            go_wp2_with fail
            clear f0 f1 f2
            refine (HWN.out _ HI3.out).mono ?_
            rintro e w7 ⟨x1, d1, x2, d2, b1, t1, b2, t2, rfl, hO1, hO2, _, _, _, _, _, hb7⟩
            have HI7 := Lib.hid (HI3.out.below hb7)
            have F7 := Lib.hid (blk_call F3.out hb7)
            have ha7 := below_call ha3 hb7
            have R1 := Lib.hid hO1.row
            have R2 := Lib.hid hO2.row
            clear hb7 HI3 F3 hO1 hO2
            obtain ⟨f0, f1, f2⟩ := atB3' F7.out
            go_wp2_with fail
            clear f0 f1 f2
            refine (HPF.out _ _ _ _ _ _ _ HI7.out R1.out R2.out).mono ?_
            rintro e w8 ⟨rfl, hb8⟩
            have ha8 := below_call ha7 hb8
            go_wp2
            go_ret
            exact ⟨rfl, ha8⟩
          · obtain ⟨hv, hs⟩ := canV_t hcv
            obtain ⟨i1, i2⟩ := lot_isLine hcv
            obtain ⟨bd, bl⟩ := lot_bend hcv
            have hcs : csC ls lo hi = 0 := cs_ok hv hs
            rw [hcv] at HCA
            rw [hcs] at HLT
            have HIL := Lib.hid (fun a3 n3 c3 W hW h3 => specIsLine_any a0 a1 a2 n0 k0 n2 k1 n2 k2 ls lo hi a3 n3 c3 (lotI ls lo hi) (lotD ls lo hi) W hW h3)
            rw [i1, i2] at HIL
            rw [E1.out] at bl
            have BL := Lib.hid bl
            clear hv hs i1 i2 hcs hcv bd bl
            generalize lotI ls lo hi = Z at *
            generalize lotD ls lo hi = D at *
            go_wp2_with fail
            have F1 : Hid ((w2.alloc (.cells #[.slice a0 n0 k0, .slice a1 n2 k1, .slice a2 n2 k2] 26)).heap[w2.heap.size]? = some _) := Lib.hid (blk_new _ _)
            refine (HCA.out _ (HI2.out.below (by repeat (first | exact Below.refl _ _ | assumption | refine Below.drew ?_ | refine below_drewN ?_ _ | refine Below.alloc ?_ (by first | omega | (simp; done) | (simp; omega)) _ | refine Below.setCell ?_ (by first | omega | (simp; done) | (simp; omega)) _)))).mono ?_
            rintro e w3 ⟨rfl, hb3⟩
            have hb3' : Below w2.heap.size w2 w3 := below_call (by repeat (first | exact Below.refl _ _ | assumption | refine Below.drew ?_ | refine below_drewN ?_ _ | refine Below.alloc ?_ (by first | omega | (simp; done) | (simp; omega)) _ | refine Below.setCell ?_ (by first | omega | (simp; done) | (simp; omega)) _)) hb3
            have HI3 := Lib.hid (HI2.out.below hb3')
            have F3 := Lib.hid (blk_call F1.out hb3)
            have ha3 := below_call ha2 hb3'
            clear hb3 hb3' HI2 F1
            obtain ⟨f0, f1, f2⟩ := atB3' F3.out
            go_wp2_with fail
            clear f0 f1 f2
            refine (HLT.out _ HI3.out).mono ?_
            rintro e w6 hN6
            obtain ⟨x6, d6, rfl, hO6, hb6⟩ := hN6.toldT (n := n2) BL.out
            have HI7 := Lib.hid (HI3.out.below hb6)
            have F7 := Lib.hid (blk_call F3.out hb6)
            have Z7 := Lib.hid hO6.row
            have ha7 := below_call ha3 hb6
            clear hb6 HI3 F3 hN6 hO6
            obtain ⟨f0, f1, f2⟩ := atB3' F7.out
            go_wp2_with fail
            clear f0 f1 f2
            refine (HIL.out _ _ _ _ HI7.out Z7.out).mono ?_
            rintro e w8 ⟨rfl, hb8⟩
            have ha8 := below_call ha7 hb8
            go_wp2
            go_ret
            exact ⟨rfl, ha8⟩
/-! ### The row's step: the arguments are opened, the walk is called, the arguments read as before. -/
set_option maxRecDepth 100000 in
set_option maxHeartbeats 1000000 in
set_option linter.unusedVariables false in
theorem lifted_FnTop (os : Os) (started : os.Started) (H : Type) (enc : TypeId × Value → H) :
    ReturnsInHanded {} Try.checked os 4 .any (Rows.fnTopSpec.pre6 enc Try.prog Try.f4 Rows.fnTopRow.domain false) (Rows.fnTopSpec.post enc Try.prog Try.f4 false true false false) := by
  refine returnsInHanded_of_change (C := Try.checked) ownNone started (by kernel_rfl) Try.func4
    (ChangeSpec.witness6 (enc := enc) (C := Try.checked) false ⟨#[], #[.slice none 0 0, .slice none 0 0], []⟩ 8 (by kernel_rfl) (by kernel_rfl) (by kernel_rfl) (by kernel_rfl)) ?_
  intro W base args ds gs before hval0 hW hcnd _
  have hval : ∀ (j : Nat) t v, Try.f4.params[j]? = some t → args[j]? = some v → Value.okWide Try.prog W .any base t v := hval0
  have hW' := hW
  obtain ⟨p, q, hA0, hV, rfl, hfz, hnd⟩ := hW
  have hA : DataW.TrodAll enc Try.prog W 0 (fun _ => true) true Try.f4.params.toList args.toList ds p := hA0
  rw [Try.params4] at hA hval
  obtain ⟨v0, vs0, d0, ds0, p0, q0, hargs, rfl, rfl, h0, r0⟩ := trodAll_cons hA
  obtain ⟨v1, vs1, d1, ds1, p1, q1, rfl, rfl, rfl, h1, r1⟩ := trodAll_cons r0
  obtain ⟨rfl, rfl, rfl⟩ := trodAll_nil r1
  obtain rfl : args = #[v0, v1] := by cases args; simp_all
  obtain ⟨rfl, rfl⟩ := trodVars_none hV
  have k0 := h0
  have lt0 : ∀ x ∈ p0, x.block < W.heap.size := by obtain ⟨m, hm⟩ := k0; exact DataW.trod_lt m _ _ _ hm
  obtain ⟨a0, len0, cap0, rfl⟩ := okWide_slice Try.underlying22 (hval 0 22 v0 rfl rfl)
  obtain ⟨z0, w0⟩ : ∃ zs, IsRow .u8 W a0 len0 cap0 zs := by
    obtain ⟨fuel, hf⟩ := h0
    rcases open_ints Try.underlying22 Try.underlying5 (by kernel_rfl) hf with ⟨hcs, _⟩ | ⟨x, l, c, zs, hcs, _, hl, hm, hz, _, hcell, hwz⟩
    · simp [Value.cells] at hcs
      obtain ⟨rfl, rfl, rfl⟩ := hcs
      exact ⟨[], isRow_nil⟩
    · simp [Value.cells] at hcs
      obtain ⟨rfl, rfl, rfl⟩ := hcs
      exact ⟨zs.take len0, isRow_mk hl hm (by simpa using hz) hcell hwz⟩
  have k1 := h1
  have lt1 : ∀ x ∈ p1, x.block < W.heap.size := by obtain ⟨m, hm⟩ := k1; exact DataW.trod_lt m _ _ _ hm
  obtain ⟨a1, len1, cap1, rfl⟩ := okWide_slice Try.underlying22 (hval 1 22 v1 rfl rfl)
  obtain ⟨z1, w1⟩ : ∃ zs, IsRow .u8 W a1 len1 cap1 zs := by
    obtain ⟨fuel, hf⟩ := h1
    rcases open_ints Try.underlying22 Try.underlying5 (by kernel_rfl) hf with ⟨hcs, _⟩ | ⟨x, l, c, zs, hcs, _, hl, hm, hz, _, hcell, hwz⟩
    · simp [Value.cells] at hcs
      obtain ⟨rfl, rfl, rfl⟩ := hcs
      exact ⟨[], isRow_nil⟩
    · simp [Value.cells] at hcs
      obtain ⟨rfl, rfl, rfl⟩ := hcs
      exact ⟨zs.take len1, isRow_mk hl hm (by simpa using hz) hcell hwz⟩
  clear hA0 hval0
  refine (top_walk a0 len0 cap0 z0 a1 len1 cap1 z1 W w0 w1).mono fun e W' ⟨he, bel⟩ => ?_
  subst he
  exact ⟨_, rfl, _, _, _, [], _, [], hW', trodAll_mk1 (shut_bool Try.underlying4 _), (trodAll_cons_mk (Below.trod laidOut (by kernel_rfl) (of_decide_eq_true (by kernel_rfl)) k0 bel lt0) (trodAll_cons_mk (Below.trod laidOut (by kernel_rfl) (of_decide_eq_true (by kernel_rfl)) k1 bel lt1) trodAll_mk0)), rfl, bel.frame _, fun h => by cases h⟩

/-- The statement, proved. -/
theorem fnTop_holds : Rows.FnTopSaid :=
  OpenClaim.holds_of_wide 4 Try.f4 rfl rfl rfl rfl rfl rfl rfl ⟨rfl, rfl, rfl, rfl, rfl⟩ rfl rfl rfl rfl rfl (by kernel_rfl) Try.func4 (by kernel_rfl)
    (of_decide_eq_true (by kernel_rfl)) (by unfold Func.isWrapper; first | (rw [if_pos (by decide +kernel)]; kernel_rfl) | (rw [if_neg (by decide +kernel)]; exact ⟨rfl, rfl⟩))
    (fun os started H enc _ => lifted_FnTop os started H enc)
end Go.Proofs.Ytklhaanapembdaa
