/- For all bytes, the law FnRods holds (the tied card of FnRods): the last mark is the height, marks follow one another evenly, and the joints have what the bricks leave; condition, tied to the text: the library's tables are laid as its text lays them. -/
import Derived.Test.YtgpcehokdfehjaaDoorRodU
import Derived.Test.YtgpcehokdfehjaaDoorRodV
import Derived.Test.YtgpcehokdfehjaaDoorRodW
import Derived.Test.YtgpcehokdfehjaaDoorDrawT
import Derived.Test.YtgpcehokdfehjaaDoorTie
import Derived.Test.YtgpcehokdfehjaaDoorCards
import Derived.LaidMore
import Derived.Lay
import Derived.SevenTiedAt
import Derived.Stop.Joined
import Derived.Stop.LaidErr
import Derived.MakeChecks
import Derived.BigQuiet
namespace Go.Proofs.YtgpcehokdfehjaaDoor
open Go.ChangeShapes Go.WideShapes Go.ChangeAt Go.RowKit
set_option linter.unusedSimpArgs false
set_option linter.unusedVariables false

set_option maxRecDepth 100000 in
set_option maxHeartbeats 16000000 in
theorem rods_walk (a : Option Addr) (len cap : Nat) (zs : List Int) (w : World) (ht : Tab w) (h : IsRow .u8 w a len cap zs) :
    Calls Tryd.prog 4 #[.slice a len cap] w fun e w' => e = .returned (.bool true) ∧ Below w.heap.size w w' := by
  have hm : len ≤ maxLen := Nat.le_trans h.2.1 h.2.2.1
  have HL := Lib.hid (fun W => f6big_any a len cap W hm)
  have H := Lib.hid h
  have HT := Lib.hid ht
  clear h hm ht
  cases hl : bigB len
  case true =>
    rw [hl] at HL
    clear hl
    go_enter Tryd.func4, Tryd.ntmps4
    go_wp2_with fail
    refine (HL.out _).mono ?_
    rintro e w1 ⟨rfl, rfl⟩
    go_wp2
    go_ret
    exact ⟨rfl, (by repeat (first | exact Below.refl _ _ | assumption | refine Below.drew ?_ | refine below_drewN ?_ _ | refine Below.alloc ?_ (by first | omega | (simp; done) | (simp; omega)) _ | refine Below.setCell ?_ (by first | omega | (simp; done) | (simp; omega)) _))⟩
  case false =>
    rw [hl] at HL
    clear hl
    go_enter Tryd.func4, Tryd.ntmps4
    go_wp2_with fail
    refine (HL.out _).mono ?_
    rintro e w1 ⟨rfl, rfl⟩
    clear HL
    go_wp2_with fail
    refine (drawMarksOf_any _ _ _ _ _ H.out).mono ?_
    rintro e w2 ⟨T1, m1, rfl, k2⟩
    have HM1 := Lib.hid (fun W => MarksOf_any T1 m1 W)
    have HM2 := Lib.hid (fun W => specMarksOf_any T1 m1 W)
    have HMT := Lib.hid (fun hc => marks_told (H := T1) (c := m1) hc)
    generalize marI T1 m1 = L at *
    generalize marC T1 m1 = C1 at *
    go_wp2_with fail
    refine (HM1.out _).mono ?_
    rintro e w3 ⟨a3, c3, rfl, hO3, hb3⟩
    have HA3 := Lib.hid hO3.row
    have k3 := below_call k2 hb3
    clear hO3 hb3 HM1
    go_wp2_with fail
    refine (HM2.out _).mono ?_
    rintro e w4 ⟨a4, c4, rfl, hO4, hb4⟩
    have HA4 := Lib.hid (HA3.out.below hb4)
    have HB4 := Lib.hid hO4.row
    have k4 := below_call k3 hb4
    clear hO4 hb4 HM2 HA3
    have HG1 := Lib.hid (fun W => gaugeOf_any T1 m1 W)
    have HG2 := Lib.hid (fun W => specGaugeOf_any T1 m1 W)
    generalize gaugeI T1 m1 = gg at *
    obtain ⟨g1, g2, g3⟩ := gg
    go_wp2_with fail
    refine (HG1.out _).mono ?_
    rintro e w5 ⟨rfl, hb5⟩
    have HA5 := Lib.hid (HA4.out.below hb5)
    have HB5 := Lib.hid (HB4.out.below hb5)
    have k5 := below_call k4 hb5
    have z5 := k5.size
    clear hb5 HG1 HA4 HB4
    go_wp2_with fail
    refine (HG2.out _).mono ?_
    rintro e w6 ⟨rfl, hb6⟩
    have k6 : Below w.heap.size w w6 := below_call (by repeat (first | exact Below.refl _ _ | assumption | refine Below.drew ?_ | refine below_drewN ?_ _ | refine Below.alloc ?_ (by first | omega | (simp; done) | (simp; omega)) _ | refine Below.setCell ?_ (by first | omega | (simp; done) | (simp; omega)) _)) hb6
    have j6 : Below w5.heap.size w5 w6 := below_call (by repeat (first | exact Below.refl _ _ | assumption | refine Below.drew ?_ | refine below_drewN ?_ _ | refine Below.alloc ?_ (by first | omega | (simp; done) | (simp; omega)) _ | refine Below.setCell ?_ (by first | omega | (simp; done) | (simp; omega)) _)) hb6
    have P6 := Lib.hid (blk_call (blk_new w5 (.cells #[.int .i64 g1, .int .i64 g2] 32)) hb6)
    have HA6 := Lib.hid (HA5.out.below j6)
    have HB6 := Lib.hid (HB5.out.below j6)
    have z6 := k6.size
    clear hb6 HG2 HA5 HB5 j6
    go_wp2_with fail
    have k6' : Below w.heap.size w (w6.alloc (.cells #[.int .i64 g1, .int .i64 g2] 32)) := (by repeat (first | exact Below.refl _ _ | assumption | refine Below.drew ?_ | refine below_drewN ?_ _ | refine Below.alloc ?_ (by first | omega | (simp; done) | (simp; omega)) _ | refine Below.setCell ?_ (by first | omega | (simp; done) | (simp; omega)) _))
    refine (drawJointsEvenly_any _ _ _ _ _ (H.out.below k6')).mono ?_
    rintro e w7 ⟨l, d, h, j, T2, m2, rfl, hb7⟩
    have k7 := below_call k6' hb7
    have j7 : Below w6.heap.size w6 w7 := below_call (by repeat (first | exact Below.refl _ _ | assumption | refine Below.drew ?_ | refine below_drewN ?_ _ | refine Below.alloc ?_ (by first | omega | (simp; done) | (simp; omega)) _ | refine Below.setCell ?_ (by first | omega | (simp; done) | (simp; omega)) _)) hb7
    have P7 := Lib.hid (blk_call P6.out j7)
    have Q7 := Lib.hid (blk_call (blk_new w6 (.cells #[.int .i64 g1, .int .i64 g2] 32)) hb7)
    have HA7 := Lib.hid (HA6.out.below j7)
    have HB7 := Lib.hid (HB6.out.below j7)
    have HJ1 := Lib.hid (fun W => jointsEvenly_any l d h j T2 m2 W)
    have HJ2 := Lib.hid (fun W => specJointsEvenly_any l d h j T2 m2 W)
    have HD1 := Lib.hid (fun W => bedOf_any l d h j T2 m2 W)
    have HD2 := Lib.hid (fun W => specBedOf_any l d h j T2 m2 W)
    have HJT := Lib.hid (fun hc => joints_told (l := l) (d := d) (h := h) (j := j) (T := T2) (m := m2) hc)
    generalize evenlyI l d h j T2 m2 = E at *
    generalize bedI l d h j T2 m2 = bb at *
    generalize bedC l d h j T2 m2 = C2 at *
    obtain ⟨p, q, r⟩ := bb
    clear hb7 j7 P6 HA6 HB6 k6' k6
    go_wp2_with fail
    refine (HJ1.out _).mono ?_
    rintro e w8 ⟨a8, c8, rfl, hO8, hb8⟩
    have k8 : Below w.heap.size w w8 := below_call (Below.alloc k7 k7.size (.cells #[.int .i64 l, .int .i64 d, .int .i64 h, .int .i64 j] 36)) hb8
    have j8 : Below w7.heap.size w7 w8 := below_call (by repeat (first | exact Below.refl _ _ | assumption | refine Below.drew ?_ | refine below_drewN ?_ _ | refine Below.alloc ?_ (by first | omega | (simp; done) | (simp; omega)) _ | refine Below.setCell ?_ (by first | omega | (simp; done) | (simp; omega)) _)) hb8
    have F8 := Lib.hid ((b4_new w7 36 (.int .i64 l) (.int .i64 d) (.int .i64 h) (.int .i64 j)).below hb8)
    have HE8 := Lib.hid hO8.row
    obtain ⟨f0, f1, f2, f3⟩ := F8.out.cells
    clear hb8 hO8 HJ1 k7
    go_wp2_with fail
    clear f0 f1 f2 f3
    refine (HJ2.out _).mono ?_
    rintro e w9 ⟨a9, c9, rfl, hO9, hb9⟩
    have k9 := below_call k8 hb9
    have j9 := below_call j8 hb9
    have F9 := Lib.hid (F8.out.below hb9)
    have HE9 := Lib.hid (HE8.out.below hb9)
    have HF9 := Lib.hid hO9.row
    obtain ⟨f0, f1, f2, f3⟩ := F9.out.cells
    clear hb9 hO9 HJ2 k8 j8 F8 HE8
    go_wp2_with fail
    clear f0 f1 f2 f3
    refine (HD1.out _).mono ?_
    rintro e w10 ⟨rfl, hb10⟩
    have kA := below_call k9 hb10
    have jA := below_call j9 hb10
    have FA := Lib.hid (F9.out.below hb10)
    have HEA := Lib.hid (HE9.out.below hb10)
    have HFA := Lib.hid (HF9.out.below hb10)
    have zA := kA.size
    have zF := FA.out.lt
    obtain ⟨f0, f1, f2, f3⟩ := (FA.out.alloc (.cells #[.int .i64 p, .int .i64 q] 32)).cells
    clear hb10 HD1 k9 j9 F9 HE9 HF9
    go_wp2_with fail
    clear f0 f1 f2 f3
    refine (HD2.out _).mono ?_
    rintro e w11 ⟨rfl, hb11⟩
    have kB : Below w.heap.size w w11 := below_call (by repeat (first | exact Below.refl _ _ | assumption | refine Below.drew ?_ | refine below_drewN ?_ _ | refine Below.alloc ?_ (by first | omega | (simp; done) | (simp; omega)) _ | refine Below.setCell ?_ (by first | omega | (simp; done) | (simp; omega)) _)) hb11
    have iB : Below w10.heap.size w10 w11 := below_call (by repeat (first | exact Below.refl _ _ | assumption | refine Below.drew ?_ | refine below_drewN ?_ _ | refine Below.alloc ?_ (by first | omega | (simp; done) | (simp; omega)) _ | refine Below.setCell ?_ (by first | omega | (simp; done) | (simp; omega)) _)) hb11
    have jB := below_call jA iB
    have FB := Lib.hid (FA.out.below iB)
    have HEB := Lib.hid (HEA.out.below iB)
    have HFB := Lib.hid (HFA.out.below iB)
    have RB := Lib.hid (blk_call (blk_new w10 (.cells #[.int .i64 p, .int .i64 q] 32)) hb11)
    have zB := kB.size
    clear hb11 HD2 kA jA FA HEA HFA iB zF
    go_wp2_with fail
    have kB' : Below w.heap.size w (w11.alloc (.cells #[.int .i64 p, .int .i64 q] 32)) := (by repeat (first | exact Below.refl _ _ | assumption | refine Below.drew ?_ | refine below_drewN ?_ _ | refine Below.alloc ?_ (by first | omega | (simp; done) | (simp; omega)) _ | refine Below.setCell ?_ (by first | omega | (simp; done) | (simp; omega)) _))
    refine (drawNearestMark_any _ _ _ _ _ (H.out.below kB')).mono ?_
    rintro e w12 ⟨T3, m3, v3, rfl, hb12⟩
    have kC := below_call kB' hb12
    have iC : Below w11.heap.size w11 w12 := below_call (by repeat (first | exact Below.refl _ _ | assumption | refine Below.drew ?_ | refine below_drewN ?_ _ | refine Below.alloc ?_ (by first | omega | (simp; done) | (simp; omega)) _ | refine Below.setCell ?_ (by first | omega | (simp; done) | (simp; omega)) _)) hb12
    have jC := below_call jB iC
    have FC := Lib.hid (FB.out.below iC)
    have HEC := Lib.hid (HEB.out.below iC)
    have HFC := Lib.hid (HFB.out.below iC)
    have RC := Lib.hid (blk_call RB.out iC)
    have SC := Lib.hid (blk_call (blk_new w11 (.cells #[.int .i64 p, .int .i64 q] 32)) hb12)
    have HN1 := Lib.hid (fun W => nearestMarkE_any T3 m3 v3 W)
    have HN2 := Lib.hid (fun W => specNearestMark_any T3 m3 v3 W)
    generalize nrI T3 m3 v3 = nn at *
    obtain ⟨n1, n2⟩ := nn
    clear hb12 iC kB kB' jB FB HEB HFB RB H
    go_wp2_with fail
    refine (HN1.out _).mono ?_
    rintro e w13 ⟨rfl, hb13⟩
    go_wp2_with fail
    refine (HN2.out _).mono ?_
    rintro e w14 ⟨rfl, hb14⟩
    replace hb14 := below_call hb13 hb14
    have kE := below_call kC hb14
    have jE := below_call jC hb14
    have FE := Lib.hid (FC.out.below hb14)
    have HEE := Lib.hid (HEC.out.below hb14)
    have HFE := Lib.hid (HFC.out.below hb14)
    have RE := Lib.hid (blk_call RC.out hb14)
    have SE := Lib.hid (blk_call SC.out hb14)
    have PE := Lib.hid (blk_call P7.out jE)
    have QE := Lib.hid (blk_call Q7.out jE)
    have HAE := Lib.hid (HA7.out.below jE)
    have HBE := Lib.hid (HB7.out.below jE)
    clear hb13 hb14 kC jC FC HEC HFC RC SC P7 Q7 HA7 HB7 HN1 HN2
    go_wp2_with fail
    refine (f6ints_same _ _ _ _ _ L _ HAE.out HBE.out).mono ?_
    rintro e w15 ⟨rfl, hb15⟩
    have PF := Lib.hid (blk_call PE.out hb15)
    have QF := Lib.hid (blk_call QE.out hb15)
    have x0 := cellOf PF.out 0
    have x1 := cellOf PF.out 1
    have y0 := cellOf QF.out 0
    have y1 := cellOf QF.out 1
    simp at x0 x1 y0 y1
    go_wp2_with fail
    clear x0 x1 y0 y1
    refine (f6ints_same _ _ _ _ _ E _ (HEE.out.below hb15) (HFE.out.below hb15)).mono ?_
    rintro e w16 ⟨rfl, hb16⟩
    replace hb16 := below_call hb15 hb16
    have RG := Lib.hid (blk_call RE.out hb16)
    have SG := Lib.hid (blk_call SE.out hb16)
    have x0 := cellOf RG.out 0
    have x1 := cellOf RG.out 1
    have y0 := cellOf SG.out 0
    have y1 := cellOf SG.out 1
    simp at x0 x1 y0 y1
    go_wp2_with fail
    clear x0 x1 y0 y1
    have kH := below_call kE hb16
    refine (rodText_any T1 m1 _ (HT.out.below kH)).mono ?_
    rintro e w17 ⟨rfl, hb17⟩
    replace hb17 := below_call hb16 hb17
    go_wp2_with fail
    refine (specRodText_any T1 m1 _).mono ?_
    rintro e w18 ⟨rfl, hb18⟩
    replace hb18 := below_call hb17 hb18
    have kt := Lib.hid (below_call kE hb18)
    have Ft := Lib.hid (FE.out.below hb18)
    have HFt := Lib.hid (HFE.out.below hb18)
    have HBt := Lib.hid (HBE.out.below hb18)
    have Rt := Lib.hid (blk_call RE.out hb18)
    have hnn : ((rodS T1 m1).toList != (rodS T1 m1).toList) = false := by simp
    generalize rodS T1 m1 = tx at *
    clear hb15 hb16 hb17 hb18 kH kE jE FE HEE HFE RE SE PE QE PF QF RG SG HAE HBE HT
    by_cases hc2 : C2 = 0
    · have JT := Lib.hid (HJT.out hc2)
      subst hc2
      obtain ⟨e40, e1⟩ := JT.out.len
      clear HJT
      go_wp2_with fail
      go_loopw [31] (fun i wr => ∃ k : Nat, k ≤ E.length ∧ i = .int .i64 (k : Int) ∧ Below w18.heap.size w18 wr) (fun i _ => (E.length - intOf i).toNat)
      case atStart => exact ⟨0, by omega, rfl, Below.refl _ _⟩
      case round =>
        obtain ⟨k, hk, rfl, hB⟩ := hrel
        by_cases hlt : k < E.length
        · have hltI : (k : Int) < (E.length : Int) := by omega
          have h0I : (0 : Int) < (E.length : Int) := by omega
          obtain ⟨b, o, rfl, _, hc, hc0⟩ := (HFt.out.below hB).cellTwo hlt
          obtain ⟨u1, u2, u3, u4⟩ := JT.out.near k hlt
          obtain ⟨u5, u6, _, _⟩ := JT.out.near 0 e1
          generalize E.getD k 0 = x at *
          generalize E.getD 0 0 = y at *
          have t1 : decide (y < x) = false := decide_eq_false (by omega)
          have t2 : decide (x < y - 1) = false := decide_eq_false (by omega)
          go_wp2_with fail
          go_quiet (fail)
          go_wp2
          go_roundw
          case rel => exact ⟨k + 1, by omega, by go_num, by repeat (first | assumption | refine below_drewN ?_ _ | refine Below.drew ?_)⟩
          case measure => first | (simp [intOf]; done) | (simp [intOf]; omega)
        · have hltI : ¬ (k : Int) < (E.length : Int) := by omega
          obtain ⟨wo, rfl⟩ : ∃ wo : World, wo = wr := ⟨_, rfl⟩
          have HSQ := Lib.hid (fun W (hW : Below wo.heap.size wo W) => f6sum_same a9 E.length c9 E W ((HFt.out.below hB).below hW) (by omega) (fun i hi => by have := JT.out.near i hi; omega))
          rw [JT.out.sum] at HSQ
          obtain ⟨v1, v2, v3, v4, v5, v6, v7, v8⟩ := JT.out.bds
          have hbd := JT.out.bed
          have xb : (p * m2 != (T2 - m2 * h) * q) = false := by simp [hbd]
          have v9 : 0 ≤ (T2 - m2 * h) * q ∧ (T2 - m2 * h) * q ≤ 240000 := by rw [← hbd]; exact ⟨v7, v8⟩
          obtain ⟨v9, v10⟩ := v9
          obtain ⟨f0, f1, f2, f3⟩ := (Ft.out.below hB).cells
          have Ro := blk_call Rt.out hB
          have x0 := cellOf Ro 0
          have x1 := cellOf Ro 1
          simp at x0 x1
          have HBo := Lib.hid (HBt.out.below hB)
          have hat := below_call kt.out hB
          clear hB hbd Ro
          go_wp2_with fail
          go_quiet ((go_at_call 22; exact Calls.quiet_of_same ((HSQ.out _ (by repeat (first | exact Below.refl _ _ | refine Below.drew ?_ | refine below_drewN ?_ _))).mono fun _ _ h => ⟨h.1, h.2.symm⟩)))
          have HBo := Lib.hid (HBo.out.below (below_drewN (Below.refl _ _) nq))
          have hat := below_drewN hat nq
          clear f0 f1 f2 f3 x0 x1 xb HSQ
          by_cases hc1 : C1 = 0
          · have MT := Lib.hid (HMT.out hc1)
            subst hc1
            have hl40 := MT.out.len
            obtain ⟨b1, b2, b3, b4⟩ := MT.out.bds
            have hatH := Lib.hid hat
            clear HMT hat
            go_wp2_with fail
            go_loopw [32, 33, 34] (fun s i _ wr => ∃ k : Nat, k ≤ L.length ∧ i = .int .i64 (k : Int) ∧ s = .int .i64 (lastM L k) ∧ Below w.heap.size w wr ∧ IsRow .i64 wr a4 L.length c4 L) (fun _ i _ _ => (L.length - intOf i).toNat)
            case atStart => exact ⟨0, by omega, rfl, rfl, hatH.out, HBo.out⟩
            case round =>
              obtain ⟨k, hk, rfl, rfl, hB, hR⟩ := hrel
              by_cases hlt : k < L.length
              · have hltI : (k : Int) < (L.length : Int) := by omega
                obtain ⟨b, o, rfl, _, hc⟩ := hR.cell hlt
                have HRR := Lib.hid hR
                have HNX := Lib.hid (show lastM L (k + 1) = L.getD k 0 from rfl)
                obtain ⟨u1, u2, u3, u4⟩ := MT.out.at_ k hlt
                obtain ⟨u5, u6⟩ := MT.out.step k hlt
                clear hR
                generalize L.getD k 0 = x at *
                generalize lastM L k = y at *
                obtain ⟨z, hz⟩ : ∃ z, x - y = z := ⟨_, rfl⟩
                have i1 : IntKind.i64.wrap (x - y) = z := by rw [hz]; exact IntWalk.i64_in _ (by omega)
                have hz1 : -1000000 ≤ z ∧ z ≤ 1000000 := by omega
                rw [hz] at u5 u6
                obtain ⟨hz1, hz2⟩ := hz1
                clear hz
                obtain ⟨P, hP⟩ : ∃ P, z * m1 = P := ⟨_, rfl⟩
                rw [hP] at u5 u6
                have i2 : IntKind.i64.wrap (z * m1) = P := by rw [hP]; exact IntWalk.i64_in _ (by omega)
                clear hP
                have t1 : decide (T1 + m1 < P) = false := decide_eq_false (by omega)
                have t2 : decide (P < T1 - m1) = false := decide_eq_false (by omega)
                go_wp2
                go_roundw
                case rel => exact ⟨k + 1, by omega, by go_num, by rw [HNX.out], hB, HRR.out⟩
                case measure => first | (simp [intOf]; done) | (simp [intOf]; omega)
              · have hltI : ¬ (k : Int) < (L.length : Int) := by omega
                have hkn : k = L.length := by omega
                have HLa := Lib.hid (show lastM L k = T1 by rw [hkn]; exact MT.out.last)
                clear hkn hR
                rw [HLa.out]
                go_wp2
                go_ret
                exact ⟨ret_bool (by simp), hB⟩
          · have hc1n : (C1 != 0) = true := by simpa using hc1
            clear HMT
            go_wp2
            go_ret
            exact ⟨rfl, hat⟩
    · have hcn : (C2 == 0) = false := by simpa using hc2
      clear HJT
      have HBo := HBt
      have hat := kt.out
      clear HBt kt
      by_cases hc1 : C1 = 0
      · have MT := Lib.hid (HMT.out hc1)
        subst hc1
        have hl40 := MT.out.len
        obtain ⟨b1, b2, b3, b4⟩ := MT.out.bds
        have hatH := Lib.hid hat
        clear HMT hat
        go_wp2_with fail
        go_loopw [32, 33, 34] (fun s i _ wr => ∃ k : Nat, k ≤ L.length ∧ i = .int .i64 (k : Int) ∧ s = .int .i64 (lastM L k) ∧ Below w.heap.size w wr ∧ IsRow .i64 wr a4 L.length c4 L) (fun _ i _ _ => (L.length - intOf i).toNat)
        case atStart => exact ⟨0, by omega, rfl, rfl, hatH.out, HBo.out⟩
        case round =>
          obtain ⟨k, hk, rfl, rfl, hB, hR⟩ := hrel
          by_cases hlt : k < L.length
          · have hltI : (k : Int) < (L.length : Int) := by omega
            obtain ⟨b, o, rfl, _, hc⟩ := hR.cell hlt
            have HRR := Lib.hid hR
            have HNX := Lib.hid (show lastM L (k + 1) = L.getD k 0 from rfl)
            obtain ⟨u1, u2, u3, u4⟩ := MT.out.at_ k hlt
            obtain ⟨u5, u6⟩ := MT.out.step k hlt
            clear hR
            generalize L.getD k 0 = x at *
            generalize lastM L k = y at *
            obtain ⟨z, hz⟩ : ∃ z, x - y = z := ⟨_, rfl⟩
            have i1 : IntKind.i64.wrap (x - y) = z := by rw [hz]; exact IntWalk.i64_in _ (by omega)
            have hz1 : -1000000 ≤ z ∧ z ≤ 1000000 := by omega
            rw [hz] at u5 u6
            obtain ⟨hz1, hz2⟩ := hz1
            clear hz
            obtain ⟨P, hP⟩ : ∃ P, z * m1 = P := ⟨_, rfl⟩
            rw [hP] at u5 u6
            have i2 : IntKind.i64.wrap (z * m1) = P := by rw [hP]; exact IntWalk.i64_in _ (by omega)
            clear hP
            have t1 : decide (T1 + m1 < P) = false := decide_eq_false (by omega)
            have t2 : decide (P < T1 - m1) = false := decide_eq_false (by omega)
            go_wp2
            go_roundw
            case rel => exact ⟨k + 1, by omega, by go_num, by rw [HNX.out], hB, HRR.out⟩
            case measure => first | (simp [intOf]; done) | (simp [intOf]; omega)
          · have hltI : ¬ (k : Int) < (L.length : Int) := by omega
            have hkn : k = L.length := by omega
            have HLa := Lib.hid (show lastM L k = T1 by rw [hkn]; exact MT.out.last)
            clear hkn hR
            rw [HLa.out]
            go_wp2
            go_ret
            exact ⟨ret_bool (by simp), hB⟩
      · have hc1n : (C1 != 0) = true := by simpa using hc1
        clear HMT
        go_wp2
        go_ret
        exact ⟨rfl, hat⟩
theorem tab_of_laid_FnRods {W : World} (h : laidMetH Tryd.prog Rows.fnRodsRow.laid W) : Lib.TabIs Tryd.prog W "internal/strconv.uint64pow10" .u64 Lib.pow10Tab := by
  rw [MakeChecks.laidMetH_plain _ _ _ (by kernel_rfl)] at h
  exact Lib.tabIs_of_head (rest := []) (show Tryd.prog.globalNamed "internal/strconv.uint64pow10" = some 0 by kernel_rfl) (t := 90) (e := 63) (n := 20) (by kernel_rfl) Tryd.underlying90 Tryd.underlying63 (by kernel_rfl) (by kernel_rfl) (laidMet.tail (laidMet.tail h))
/-! ### The row's step: the arguments are opened, the walk is called, the arguments read as before. -/
set_option maxRecDepth 100000 in
set_option maxHeartbeats 1000000 in
set_option linter.unusedVariables false in
theorem lifted_FnRods (os : Os) (started : os.Started) (H : Type) (enc : TypeId × Value → H) :
    ReturnsInHanded {} Tryd.checked os 4 .any (fun w args => (Rows.fnRodsSpec.pre enc Tryd.prog Tryd.f4 Rows.fnRodsRow.domain false w args ∧ laidMetH Tryd.prog Rows.fnRodsRow.laid w) ∧ sizedMet enc Tryd.prog Tryd.f4 (OpenSpec.ofChange Rows.fnRodsSpec) false w args) (Rows.fnRodsSpec.post enc Tryd.prog Tryd.f4 false true false false) := by
  refine returnsInHanded_of_change_and (C := Tryd.checked) (X := fun w _ => laidMetH Tryd.prog Rows.fnRodsRow.laid w) (fun _ _ _ hh h => h.of_heap hh) ownNone started (by kernel_rfl) Tryd.func4
    (ChangeSpec.witness_shaped (enc := enc) (C := Tryd.checked) (os := os) (X := fun w _ => laidMetH Tryd.prog Rows.fnRodsRow.laid w) false (World.laidAll Tryd.prog os Rows.fnRodsRow.laid) #[.slice none 0 0] 8 (World.laidAll_os _ _ _)
      (World.shaped_of_ZipB (by kernel_rfl) (by kernel_rfl)) (by kernel_rfl) (by kernel_rfl) (by kernel_rfl)
      (by rw [MakeChecks.laidMetH_plain _ _ _ (by kernel_rfl)]; exact laidMet_laidAll _ (by kernel_rfl) (by kernel_rfl))) ?_
  intro W base args ds gs before hval0 hW hcnd _ hL _
  have hTab := tab_of_laid_FnRods hL
  have hval : ∀ (j : Nat) t v, Tryd.f4.params[j]? = some t → args[j]? = some v → Value.okWide Tryd.prog W .any base t v := hval0
  have hW' := hW
  obtain ⟨p, q, hA0, hV, rfl, hfz, hnd⟩ := hW
  have hA : DataW.TrodAll enc Tryd.prog W 0 (fun _ => true) true Tryd.f4.params.toList args.toList ds p := hA0
  rw [Tryd.params4] at hA hval
  obtain ⟨v0, vs0, d0, ds0, p0, q0, hargs, rfl, rfl, h0, r0⟩ := trodAll_cons hA
  obtain ⟨rfl, rfl, rfl⟩ := trodAll_nil r0
  obtain rfl : args = #[v0] := by cases args; simp_all
  obtain ⟨rfl, rfl⟩ := trodVars_none hV
  have k0 := h0
  have lt0 : ∀ x ∈ p0, x.block < W.heap.size := by obtain ⟨m, hm⟩ := k0; exact DataW.trod_lt m _ _ _ hm
  obtain ⟨a0, len0, cap0, rfl⟩ := okWide_slice Tryd.underlying24 (hval 0 24 v0 rfl rfl)
  obtain ⟨z0, w0⟩ : ∃ zs, IsRow .u8 W a0 len0 cap0 zs := by
    obtain ⟨fuel, hf⟩ := h0
    rcases open_ints Tryd.underlying24 Tryd.underlying5 (by kernel_rfl) hf with ⟨hcs, _⟩ | ⟨x, l, c, zs, hcs, _, hl, hm, hz, _, hcell, hwz⟩
    · simp [Value.cells] at hcs
      obtain ⟨rfl, rfl, rfl⟩ := hcs
      exact ⟨[], isRow_nil⟩
    · simp [Value.cells] at hcs
      obtain ⟨rfl, rfl, rfl⟩ := hcs
      exact ⟨zs.take len0, isRow_mk hl hm (by simpa using hz) hcell hwz⟩
  clear hA0 hval0
  refine (rods_walk a0 len0 cap0 z0 W hTab w0).mono fun e W' ⟨he, bel⟩ => ?_
  subst he
  exact ⟨_, rfl, _, _, _, [], _, [], hW', trodAll_mk1 (shut_bool Tryd.underlying4 _), (trodAll_cons_mk (Below.trod laidOut (by kernel_rfl) (of_decide_eq_true (by kernel_rfl)) k0 bel lt0) trodAll_mk0), rfl, bel.frame _, fun h => by cases h⟩

/-- The statement, proved. -/
theorem fnRods_holds : Rows.FnRodsSaid :=
  OpenClaim.holds_of_wide 4 Tryd.f4 rfl rfl rfl rfl rfl rfl rfl ⟨rfl, rfl, rfl, rfl, rfl⟩ rfl rfl rfl rfl rfl (by kernel_rfl) Tryd.func4 (by kernel_rfl)
    (of_decide_eq_true (by kernel_rfl)) (by unfold Func.isWrapper; first | (rw [if_pos (by decide +kernel)]; kernel_rfl) | (rw [if_neg (by decide +kernel)]; exact ⟨rfl, rfl⟩))
    (fun os started H enc _ => lifted_FnRods os started H enc)
/-- The tied card, proved. -/
theorem fnRods_card_holds : Rows.FnRodsCardSaid :=
  Claim7.holds_tied_plain_at .later [] [.data, .data, .data] true (true, "763999a8eb2e35b117c389f40deea75fa61857c77605b09156492de2395a362d") false fnRods_holds (fun _ h => by cases h) (by kernel_rfl) (fun _ h => by cases h) fnRods_row_tie rfl ⟨rfl, rfl⟩ (by kernel_rfl) rfl
    (fun f fn hf hfn => by
      obtain rfl : f = 4 := Option.some.inj ((show Tryd.prog.funcNamed "loop.example/g01042/laws.FnRods" = some 4 by kernel_rfl).symm.trans hf) |>.symm
      obtain rfl : fn = Tryd.f4 := (Option.some.inj (Tryd.func4.symm.trans hfn)).symm
      exact ⟨by kernel_rfl, fun j t ht => by
        rw [Tryd.params4] at ht
        have hm : t ∈ [24] := by simpa using Array.mem_of_getElem? ht
        have hall : ([24].all fun u => !Tryd.prog.wantsStandIn u) = true := by kernel_rfl
        exact (show Tryd.prog.wantsStandIn t = false by simpa using List.all_eq_true.1 hall t hm)⟩)
    (by kernel_rfl)
end Go.Proofs.YtgpcehokdfehjaaDoor
