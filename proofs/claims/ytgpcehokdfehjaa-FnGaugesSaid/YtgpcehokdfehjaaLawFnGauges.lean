/- For all bytes, the law FnGauges holds: courses that fit are told, and levels are not nearer to another mark than to the one that is told; no condition. -/
import Derived.Test.YtgpcehokdfehjaaGaugeT
import Derived.Test.YtgpcehokdfehjaaDrawL
import Derived.Test.YtgpcehokdfehjaaSteps
namespace Go.Proofs.Ytgpcehokdfehjaa
open Go.ChangeShapes Go.WideShapes Go.ChangeAt Go.RowKit
set_option linter.unusedSimpArgs false
set_option linter.unusedVariables false

set_option maxRecDepth 100000 in
set_option maxHeartbeats 16000000 in
theorem gauges_walk (a : Option Addr) (len cap : Nat) (zs : List Int) (w : World) (h : IsRow .u8 w a len cap zs) :
    Calls Try.prog 9 #[.slice a len cap] w fun e w' => e = .returned (.bool true) ∧ Below w.heap.size w w' := by
  have hm : len ≤ maxLen := Nat.le_trans h.2.1 h.2.2.1
  have HL := Lib.hid (fun W => f6big_any a len cap W hm)
  have H := Lib.hid h
  clear h hm
  cases hl : bigB len
  case true =>
    rw [hl] at HL
    clear hl
    go_enter Try.func9, Try.ntmps9
    go_wp2_with fail
    refine (HL.out _).mono ?_
    rintro e w1 ⟨rfl, rfl⟩
    go_wp2
    go_ret
    exact ⟨rfl, (by repeat (first | exact Below.refl _ _ | assumption | refine Below.drew ?_ | refine below_drewN ?_ _ | refine Below.alloc ?_ (by first | omega | (simp; done) | (simp; omega)) _ | refine Below.setCell ?_ (by first | omega | (simp; done) | (simp; omega)) _))⟩
  case false =>
    rw [hl] at HL
    clear hl
    go_enter Try.func9, Try.ntmps9
    go_wp2_with fail
    refine (HL.out _).mono ?_
    rintro e w1 ⟨rfl, rfl⟩
    clear HL
    go_wp2_with fail
    refine (drawBestGauge_any _ _ _ _ _ H.out).mono ?_
    rintro e w2 ⟨a1, n1, c1, Z1, l, d, h, j, T1, le, mo, rfl, hr1, hb2⟩
    have HH2 := Lib.hid (H.out.below hb2)
    have HT := Lib.hid (gauge_told l d h j T1 le mo Z1)
    have HB1 := Lib.hid (fun W hW => bestGauge_any l d h j T1 le mo a1 n1 c1 Z1 W hW)
    have HB2 := Lib.hid (fun W hW => specBestGauge_any l d h j T1 le mo a1 n1 c1 Z1 W hW)
    have HC1 := Lib.hid (fun W => coursesFor_any l d h j T1 le mo W)
    have HC2 := Lib.hid (fun W => specCoursesFor_any l d h j T1 le mo W)
    generalize bgI l d h j T1 le mo Z1 = bg at *
    generalize coursesI l d h j T1 le mo = cf at *
    obtain ⟨x1, x2⟩ := bg
    obtain ⟨y1, y2⟩ := cf
    have HR2 := Lib.hid hr1
    clear H hr1
    go_wp2_with fail
    refine (HB1.out _ (HR2.out.below (by repeat (first | exact Below.refl _ _ | assumption | refine Below.drew ?_ | refine below_drewN ?_ _ | refine Below.alloc ?_ (by first | omega | (simp; done) | (simp; omega)) _ | refine Below.setCell ?_ (by first | omega | (simp; done) | (simp; omega)) _)))).mono ?_
    rintro e w3 ⟨rfl, hb3⟩
    have k3 : Below w2.heap.size w2 w3 := below_call (by repeat (first | exact Below.refl _ _ | assumption | refine Below.drew ?_ | refine below_drewN ?_ _ | refine Below.alloc ?_ (by first | omega | (simp; done) | (simp; omega)) _ | refine Below.setCell ?_ (by first | omega | (simp; done) | (simp; omega)) _)) hb3
    have F3 := Lib.hid ((b4_new w2 26 (.int .i64 l) (.int .i64 d) (.int .i64 h) (.int .i64 j)).below hb3)
    obtain ⟨f0, f1, f2, f3⟩ := F3.out.cells
    clear hb3 HB1
    go_wp2_with fail
    clear f0 f1 f2 f3
    refine (HB2.out _ (HR2.out.below k3)).mono ?_
    rintro e w4 ⟨rfl, hb4⟩
    have k4 := below_call k3 hb4
    have F4 := Lib.hid (F3.out.below hb4)
    obtain ⟨f0, f1, f2, f3⟩ := F4.out.cells
    clear hb4 HB2 k3 F3
    go_wp2_with fail
    clear f0 f1 f2 f3
    refine (HC1.out _).mono ?_
    rintro e w5 ⟨rfl, hb5⟩
    have k5 := below_call k4 hb5
    have F5 := Lib.hid (F4.out.below hb5)
    obtain ⟨f0, f1, f2, f3⟩ := F5.out.cells
    clear hb5 HC1 k4 F4
    go_wp2_with fail
    clear f0 f1 f2 f3
    refine (HC2.out _).mono ?_
    rintro e w6 ⟨rfl, hb6⟩
    have k6 := below_call k5 hb6
    have F6 := Lib.hid (F5.out.below hb6)
    clear hb6 HC2 k5 F5
    go_wp2_with fail
    refine (drawLevelsOff_any _ _ _ _ _ (HH2.out.below k6)).mono ?_
    rintro e w7 ⟨a2, n2, c2, Z2, T2, m2, rfl, hr2, hb7⟩
    have k7 := below_call k6 hb7
    have F7 := Lib.hid (F6.out.below hb7)
    have HR7 := Lib.hid hr2
    have HLO := Lib.hid (fun W hW => LevelsOff_any T2 m2 a2 n2 c2 Z2 W hW)
    have HLS := Lib.hid (fun W hW => specLevelsOff_any T2 m2 a2 n2 c2 Z2 W hW)
    have HLV := Lib.hid (lvl_cases T2 m2 Z2)
    generalize lvlI T2 m2 Z2 = L at *
    generalize lvlC T2 m2 Z2 = C3 at *
    clear hb7 hr2 k6 F6
    go_wp2_with fail
    refine (HLO.out _ HR7.out).mono ?_
    rintro e w8 ⟨a3, c3, rfl, hO8, hb8⟩
    have k8 := below_call k7 hb8
    have F8 := Lib.hid (F7.out.below hb8)
    have HR8 := Lib.hid (HR7.out.below hb8)
    have HO8 := Lib.hid hO8.row
    clear hb8 hO8 k7 F7 HR7 HLO
    go_wp2_with fail
    refine (HLS.out _ HR8.out).mono ?_
    rintro e w9 ⟨a4, c4, rfl, hO9, hb9⟩
    have k9 := below_call k8 hb9
    have F9 := Lib.hid (F8.out.below hb9)
    have HR9 := Lib.hid (HR8.out.below hb9)
    have HO9 := Lib.hid (HO8.out.below hb9)
    have HP9 := Lib.hid hO9.row
    clear hb9 hO9 k8 F8 HR8 HO8 HLS
    go_wp2_with fail
    refine (drawStepsBetween_any _ _ _ _ _ (HH2.out.below k9)).mono ?_
    rintro e w10 ⟨a5, n5, c5, Z3, l', d', h', j', T3, rfl, hr5, hb10⟩
    have kA := below_call k9 hb10
    have F10 := Lib.hid (F9.out.below hb10)
    have HR10 := Lib.hid (HR9.out.below hb10)
    have HO10 := Lib.hid (HO9.out.below hb10)
    have HP10 := Lib.hid (HP9.out.below hb10)
    have HS10 := Lib.hid hr5
    have HSI := Lib.hid (fun W hW => stepsBetween_any l' d' h' j' T3 a5 n5 c5 Z3 W hW)
    have HSS := Lib.hid (fun W hW => specStepsBetween_any l' d' h' j' T3 a5 n5 c5 Z3 W hW)
    generalize stpI l' d' h' j' T3 Z3 = M at *
    generalize stpC l' d' h' j' T3 Z3 = C5 at *
    clear hb10 hr5 k9 F9 HR9 HO9 HP9
    go_wp2_with fail
    refine (HSI.out _ (HS10.out.below (by repeat (first | exact Below.refl _ _ | assumption | refine Below.drew ?_ | refine below_drewN ?_ _ | refine Below.alloc ?_ (by first | omega | (simp; done) | (simp; omega)) _ | refine Below.setCell ?_ (by first | omega | (simp; done) | (simp; omega)) _)))).mono ?_
    rintro e w11 ⟨a6, c6, rfl, hO11, hb11⟩
    have q11 : Below w10.heap.size w10 w11 := below_call (by repeat (first | exact Below.refl _ _ | assumption | refine Below.drew ?_ | refine below_drewN ?_ _ | refine Below.alloc ?_ (by first | omega | (simp; done) | (simp; omega)) _ | refine Below.setCell ?_ (by first | omega | (simp; done) | (simp; omega)) _)) hb11
    have G11 := Lib.hid ((b4_new w10 26 (.int .i64 l') (.int .i64 d') (.int .i64 h') (.int .i64 j')).below hb11)
    have HU11 := Lib.hid hO11.row
    obtain ⟨f0, f1, f2, f3⟩ := G11.out.cells
    clear hb11 hO11 HSI G11
    go_wp2_with fail
    clear f0 f1 f2 f3
    refine (HSS.out _ (HS10.out.below q11)).mono ?_
    rintro e w12 ⟨a7, c7, rfl, hO12, hb12⟩
    have q12 := below_call q11 hb12
    have kC := below_call kA q12
    have F12 := Lib.hid (F10.out.below q12)
    have HR12 := Lib.hid (HR10.out.below q12)
    have HO12 := Lib.hid (HO10.out.below q12)
    have HP12 := Lib.hid (HP10.out.below q12)
    have HU12 := Lib.hid (HU11.out.below hb12)
    have HV12 := Lib.hid hO12.row
    clear hb12 hO12 HSS q11 q12 kA F10 HR10 HO10 HP10 HS10 HU11
    go_wp2_with fail
    refine (drawValidLevels_any _ _ _ _ _ (HH2.out.below kC)).mono ?_
    rintro e w13 ⟨a8, n8, c8, Z4, T4, rfl, hr8, hb13⟩
    have kD := below_call kC hb13
    have F13 := Lib.hid (F12.out.below hb13)
    have HR13 := Lib.hid (HR12.out.below hb13)
    have HO13 := Lib.hid (HO12.out.below hb13)
    have HP13 := Lib.hid (HP12.out.below hb13)
    have HU13 := Lib.hid (HU12.out.below hb13)
    have HV13 := Lib.hid (HV12.out.below hb13)
    have HW13 := Lib.hid hr8
    clear hb13 hr8 kC F12 HR12 HO12 HP12 HU12 HV12
    go_wp2_with fail
    refine (f6ints_same _ _ _ _ _ L _ HO13.out HP13.out).mono ?_
    rintro e w14 ⟨rfl, hb14⟩
    go_wp2_with fail
    refine (f6ints_same _ _ _ _ _ M _ (HU13.out.below hb14) (HV13.out.below hb14)).mono ?_
    rintro e w15 ⟨rfl, hb15⟩
    replace hb15 := below_call hb14 hb15
    go_wp2_with fail
    refine (validLevels_any _ _ _ Z4 _ _ (HW13.out.below hb15)).mono ?_
    rintro e w16 ⟨rfl, hb16⟩
    replace hb16 := below_call hb15 hb16
    go_wp2_with fail
    refine (specValidLevels_any _ _ _ Z4 _ _ (HW13.out.below hb16)).mono ?_
    rintro e w17 ⟨rfl, hb17⟩
    replace hb17 := below_call hb16 hb17
    have kH := below_call kD hb17
    have F17 := Lib.hid (F13.out.below hb17)
    have HR17 := Lib.hid (HR13.out.below hb17)
    have HP17 := Lib.hid (HP13.out.below hb17)
    have HQ17 := Lib.hid (HR2.out.below kH)
    have ha17 := below_call hb2 kH
    generalize levB Z4 T4 = B4' at *
    clear hb14 hb15 hb16 hb17 kD F13 HR13 HO13 HP13 HU13 HV13 HW13 HR2 HH2 kH hb2
    obtain ⟨f0, f1, f2, f3⟩ := F17.out.cells
    by_cases hy : y2 = 0
    · subst hy
      obtain ⟨p, q, hbed, m1, m2', m3, m4, m5, m6, m7, m8, m9, m10⟩ := HT.out.bed rfl
      have HBD := Lib.hid (fun W => bedOf_any l d h j T1 y1 W)
      rw [hbed] at HBD
      obtain ⟨u1, u2⟩ := mul_bd (a := le) (b := q) (A := 40) (B := 40) m1 m2' (by omega) m8
      obtain ⟨u3, u4⟩ := mul_bd (a := mo) (b := q) (A := 40) (B := 40) m3 m4 (by omega) m8
      clear hbed
      have z1 : decide (p < le * q) = false := decide_eq_false (by omega)
      have z2 : decide (mo * q < p) = false := decide_eq_false (by omega)
      go_wp2_with fail
      refine (HBD.out _).mono ?_
      rintro e w18 ⟨rfl, hb18⟩
      have HRt := Lib.hid ((HR17.out.below hb18).below (Below.alloc (Below.refl _ _) (Nat.le_refl _) (.cells #[.int .i64 p, .int .i64 q] 30)))
      have HPt := Lib.hid ((HP17.out.below hb18).below (Below.alloc (Below.refl _ _) (Nat.le_refl _) (.cells #[.int .i64 p, .int .i64 q] 30)))
      have HQt := Lib.hid ((HQ17.out.below hb18).below (Below.alloc (Below.refl _ _) (Nat.le_refl _) (.cells #[.int .i64 p, .int .i64 q] 30)))
      have hat := below_call (below_call ha17 hb18) (Below.alloc (Below.refl _ _) (Nat.le_refl _) (.cells #[.int .i64 p, .int .i64 q] 30))
      clear hb18 HR17 HP17 HQ17 ha17 F17 HBD f0 f1 f2 f3
      rcases HLV.out with ⟨g1, g2, e1, e2⟩ | ⟨_, e1, e2⟩
      · subst e1
        have E2 := Lib.hid e2
        clear HLV e2
        go_wp2_with fail
        obtain ⟨e3, e4⟩ := marI_yes g1
        have HMO := Lib.hid (fun W => MarksOf_any T2 m2 W)
        rw [e3, e4] at HMO
        have LT0 := Lib.hid (fun k i hk hi => levels_told g1 g2 k i hk hi)
        have LS0 := Lib.hid (fun k hk => level_self g1 g2 k hk)
        have HML := Lib.hid (markL_len T2 m2 m2.toNat)
        have HZn := Lib.hid HRt.out.1
        have HLn := Lib.hid (show L.length = n2 by rw [E2.out, offs_len]; exact HZn.out)
        have HLg := Lib.hid (fun k (hk : k < n2) => show L.getD k 0 = lvOff T2 m2 (Z2.getD k 0) by rw [E2.out]; exact offs_get (by rw [HZn.out]; exact hk))
        have hmn40 : m2.toNat ≤ 40 := by
          obtain ⟨_, _, _, _⟩ := storB_t g1
          omega
        have hn20 : n2 ≤ 20 := by
          have h1 := (levB_t g2).2.2.1
          have h2 := HZn.out
          omega
        generalize m2.toNat = mn at *
        clear g1 g2 E2 e3 e4
        refine (HMO.out _).mono ?_
        rintro e wm hnew
        obtain ⟨aM, cM, rfl, hOM, hbM⟩ := NewI.told hnew HML.out
        have HRm := Lib.hid (HRt.out.below hbM)
        have HPm := Lib.hid (HPt.out.below hbM)
        have HQm := Lib.hid (HQt.out.below hbM)
        have ham := Lib.hid (below_call hat hbM)
        have HMm := Lib.hid (show IsRow .i64 wm aM mn cM (markL T2 m2 mn) from HML.out ▸ hOM.row)
        clear hnew hbM hOM HMO HRt HPt HQt hat
        go_wp2_with fail
        go_loopw [36, 37, 38] (fun i _ _ wr => ∃ k : Nat, k ≤ n2 ∧ i = .int .i64 (k : Int) ∧ Below wm.heap.size wm wr) (fun i _ _ _ => (n2 - intOf i).toNat)
        case atStart => exact ⟨0, by omega, rfl, Below.refl _ _⟩
        case round =>
          obtain ⟨k, hk, rfl, hB⟩ := hrel
          by_cases hlt : k < n2
          · have hltI : (k : Int) < (n2 : Int) := by omega
            have hlt2 : k < L.length := by have := HLn.out; omega
            have hlt2I : (k : Int) < (L.length : Int) := by omega
            obtain ⟨wo, rfl⟩ : ∃ wo : World, wo = wr := ⟨_, rfl⟩
            have hBo := Lib.hid hB
            have hMo := Lib.hid (HMm.out.below hB)
            have hRo := Lib.hid (HRm.out.below hB)
            have hPo := Lib.hid (HPm.out.below hB)
            have LT := Lib.hid (fun i (hi : i < mn) => LT0.out k i (by rw [HZn.out]; exact hlt) hi)
            have LS := Lib.hid (LS0.out k (by rw [HZn.out]; exact hlt))
            have HG := Lib.hid (HLg.out k hlt)
            clear hB
            go_wp2_with fail
            go_loopw [37, 38] (fun i _ wr => ∃ q : Nat, q ≤ mn ∧ i = .int .i64 (q : Int) ∧ Below wo.heap.size wo wr) (fun i _ _ => (mn - intOf i).toNat)
            case atStart => exact ⟨0, by omega, rfl, Below.refl _ _⟩
            case round =>
              obtain ⟨q, hq, rfl, hB⟩ := hrel
              obtain ⟨bz, oz, rfl, _, hcz⟩ := (hRo.out.below hB).cell hlt
              obtain ⟨bl, ol, rfl, _, hcl⟩ := (hPo.out.below hB).cell hlt2
              rw [HG.out] at hcl
              by_cases hlq : q < mn
              · have hlqI : (q : Int) < (mn : Int) := by omega
                obtain ⟨bm, om, rfl, _, hcm⟩ := (hMo.out.below hB).cell hlq
                obtain ⟨t1, t2, t3, t4, t5, t6⟩ := LT.out q hlq
                generalize (markL T2 m2 mn).getD q 0 = m at *
                generalize lvOff T2 m2 (Z2.getD k 0) = f at *
                generalize Z2.getD k 0 = v at *
                have t9 : ¬ (if m - v ≤ -(m - v) then -(m - v) else m - v) < f := by split at t4 <;> split <;> omega
                have t7 : ¬ max (m - v) (-(m - v)) < f := by split at t4 <;> omega
                go_wp2_with fail
                go_quiet (fail)
                go_wp2
                go_roundw
                case rel => exact ⟨q + 1, by omega, by go_num, by repeat (first | assumption | refine below_drewN ?_ _ | refine Below.drew ?_)⟩
                case measure => first | (simp [intOf]; done) | (simp [intOf]; omega)
              · have hlqI : ¬ (q : Int) < (mn : Int) := by omega
                have LS' := LS.out
                generalize lvOff T2 m2 (Z2.getD k 0) = f at *
                generalize Z2.getD k 0 = v at *
                have t8 : ¬ v < f := by omega
                have hBB := below_call hBo.out hB
                go_wp2_with fail
                go_quiet (fail)
                go_wp2
                go_roundw
                case rel => exact ⟨k + 1, by omega, by go_num, by repeat (first | assumption | refine below_drewN ?_ _ | refine Below.drew ?_)⟩
                case measure => first | (simp [intOf]; done) | (simp [intOf]; omega)
          · have hk' : ¬ (k : Int) < (n2 : Int) := by omega
            have HQe := Lib.hid (HQm.out.below hB)
            have hBe := below_call ham.out hB
            clear hB
            have hB := hBe
            clear hBe
            by_cases hx : x2 = 0
            · obtain ⟨_, s1, s2, s3, s4⟩ := HT.out.sums hx
              subst hx
              obtain ⟨b1, b2, c1', c2'⟩ := storB_t s2
              obtain ⟨b3, b4, c3', c4'⟩ := storB_t s3
              obtain ⟨v1, v2, v3, v4, _⟩ := levB_t s1
              have hZ1 := HQe.out.1
              have HX1 := Lib.hid (fun W hW => LevelsOff_any T1 x1 a1 n1 c1 Z1 W hW)
              have HY1 := Lib.hid (fun W hW => LevelsOff_any T1 y1 a1 n1 c1 Z1 W hW)
              rw [show lvlI T1 x1 Z1 = offs T1 x1 Z1 by simp [lvlI, s1, s2], show lvlC T1 x1 Z1 = 0 by simp [lvlC, s1, s2]] at HX1
              rw [show lvlI T1 y1 Z1 = offs T1 y1 Z1 by simp [lvlI, s1, s3], show lvlC T1 y1 Z1 = 0 by simp [lvlC, s1, s3]] at HY1
              have HOX := Lib.hid (show (offs T1 x1 Z1).length = n1 by rw [offs_len]; exact hZ1)
              have HOY := Lib.hid (show (offs T1 y1 Z1).length = n1 by rw [offs_len]; exact hZ1)
              have HBX := Lib.hid (fun k (hk : k < n1) => show 0 ≤ (offs T1 x1 Z1).getD k 0 ∧ (offs T1 x1 Z1).getD k 0 ≤ 1000000000 by have := offs_bd (zs := Z1) (by omega) b2 c1' c2' v4 k (by rw [HOX.out]; exact hk); omega)
              have HBY := Lib.hid (fun k (hk : k < n1) => show 0 ≤ (offs T1 y1 Z1).getD k 0 ∧ (offs T1 y1 Z1).getD k 0 ≤ 1000000000 by have := offs_bd (zs := Z1) (by omega) b2 c3' c4' v4 k (by rw [HOY.out]; exact hk); omega)
              have HSM := Lib.hid (show decide (preQ (offs T1 x1 Z1) n1 ≤ preQ (offs T1 y1 Z1) n1) = true by rw [preQ_preS, preQ_preS, ← hZ1]; exact decide_eq_true s4)
              have hn1 : n1 ≤ 1048576 := by omega
              generalize offs T1 x1 Z1 = OX at *
              generalize offs T1 y1 Z1 = OY at *
              clear s1 s2 s3 s4 v4
              go_wp2_with fail
              refine (HX1.out _ HQe.out).mono ?_
              rintro e wx hnew
              obtain ⟨aX, cX, rfl, hOX, hbX⟩ := NewI.told hnew HOX.out
              have HQx := Lib.hid (HQe.out.below hbX)
              have HXx := Lib.hid (show IsRow .i64 wx aX n1 cX OX from HOX.out ▸ hOX.row)
              have hBx := below_call hB hbX
              clear hnew hOX hbX hB HX1
              go_wp2_with fail
              refine (HY1.out _ HQx.out).mono ?_
              rintro e wy hnew
              obtain ⟨aY, cY, rfl, hOY, hbY⟩ := NewI.told hnew HOY.out
              have HXy := Lib.hid (HXx.out.below hbY)
              have HYy := Lib.hid (show IsRow .i64 wy aY n1 cY OY from HOY.out ▸ hOY.row)
              have hBy := below_call hBx hbY
              clear hnew hOY hbY hBx HY1 HXx HQx
              go_wp2_with fail
              refine (f6sum_any _ _ _ OX _ HXy.out hn1 HBX.out).mono ?_
              rintro e wz ⟨rfl, hbz⟩
              go_wp2_with fail
              refine (f6sum_any _ _ _ OY _ (HYy.out.below hbz) hn1 HBY.out).mono ?_
              rintro e wq ⟨rfl, hbq⟩
              have hBq := below_call (below_call hBy hbz) hbq
              have HSM' := HSM.out
              generalize preQ OX n1 = A at *
              generalize preQ OY n1 = B at *
              clear hbz hbq hBy
              go_wp2
              go_ret
              exact ⟨ret_bool (by simp [HSM']), hBq⟩
            · have hc : x2 = 2 := by
                rcases HT.out.code (.inl hx) with hc | ⟨_, hc⟩
                · exact hc
                · exact absurd rfl hc
              subst hc
              go_wp2
              go_ret
              exact ⟨rfl, hB⟩
      · subst e1
        clear HLV e2
        have hB := hat
        by_cases hx : x2 = 0
        · obtain ⟨_, s1, s2, s3, s4⟩ := HT.out.sums hx
          subst hx
          obtain ⟨b1, b2, c1', c2'⟩ := storB_t s2
          obtain ⟨b3, b4, c3', c4'⟩ := storB_t s3
          obtain ⟨v1, v2, v3, v4, _⟩ := levB_t s1
          have hZ1 := HQt.out.1
          have HX1 := Lib.hid (fun W hW => LevelsOff_any T1 x1 a1 n1 c1 Z1 W hW)
          have HY1 := Lib.hid (fun W hW => LevelsOff_any T1 y1 a1 n1 c1 Z1 W hW)
          rw [show lvlI T1 x1 Z1 = offs T1 x1 Z1 by simp [lvlI, s1, s2], show lvlC T1 x1 Z1 = 0 by simp [lvlC, s1, s2]] at HX1
          rw [show lvlI T1 y1 Z1 = offs T1 y1 Z1 by simp [lvlI, s1, s3], show lvlC T1 y1 Z1 = 0 by simp [lvlC, s1, s3]] at HY1
          have HOX := Lib.hid (show (offs T1 x1 Z1).length = n1 by rw [offs_len]; exact hZ1)
          have HOY := Lib.hid (show (offs T1 y1 Z1).length = n1 by rw [offs_len]; exact hZ1)
          have HBX := Lib.hid (fun k (hk : k < n1) => show 0 ≤ (offs T1 x1 Z1).getD k 0 ∧ (offs T1 x1 Z1).getD k 0 ≤ 1000000000 by have := offs_bd (zs := Z1) (by omega) b2 c1' c2' v4 k (by rw [HOX.out]; exact hk); omega)
          have HBY := Lib.hid (fun k (hk : k < n1) => show 0 ≤ (offs T1 y1 Z1).getD k 0 ∧ (offs T1 y1 Z1).getD k 0 ≤ 1000000000 by have := offs_bd (zs := Z1) (by omega) b2 c3' c4' v4 k (by rw [HOY.out]; exact hk); omega)
          have HSM := Lib.hid (show decide (preQ (offs T1 x1 Z1) n1 ≤ preQ (offs T1 y1 Z1) n1) = true by rw [preQ_preS, preQ_preS, ← hZ1]; exact decide_eq_true s4)
          have hn1 : n1 ≤ 1048576 := by omega
          generalize offs T1 x1 Z1 = OX at *
          generalize offs T1 y1 Z1 = OY at *
          clear s1 s2 s3 s4 v4
          go_wp2_with fail
          refine (HX1.out _ HQt.out).mono ?_
          rintro e wx hnew
          obtain ⟨aX, cX, rfl, hOX, hbX⟩ := NewI.told hnew HOX.out
          have HQx := Lib.hid (HQt.out.below hbX)
          have HXx := Lib.hid (show IsRow .i64 wx aX n1 cX OX from HOX.out ▸ hOX.row)
          have hBx := below_call hB hbX
          clear hnew hOX hbX hB HX1
          go_wp2_with fail
          refine (HY1.out _ HQx.out).mono ?_
          rintro e wy hnew
          obtain ⟨aY, cY, rfl, hOY, hbY⟩ := NewI.told hnew HOY.out
          have HXy := Lib.hid (HXx.out.below hbY)
          have HYy := Lib.hid (show IsRow .i64 wy aY n1 cY OY from HOY.out ▸ hOY.row)
          have hBy := below_call hBx hbY
          clear hnew hOY hbY hBx HY1 HXx HQx
          go_wp2_with fail
          refine (f6sum_any _ _ _ OX _ HXy.out hn1 HBX.out).mono ?_
          rintro e wz ⟨rfl, hbz⟩
          go_wp2_with fail
          refine (f6sum_any _ _ _ OY _ (HYy.out.below hbz) hn1 HBY.out).mono ?_
          rintro e wq ⟨rfl, hbq⟩
          have hBq := below_call (below_call hBy hbz) hbq
          have HSM' := HSM.out
          generalize preQ OX n1 = A at *
          generalize preQ OY n1 = B at *
          clear hbz hbq hBy
          go_wp2
          go_ret
          exact ⟨ret_bool (by simp [HSM']), hBq⟩
        · have hc : x2 = 2 := by
            rcases HT.out.code (.inl hx) with hc | ⟨_, hc⟩
            · exact hc
            · exact absurd rfl hc
          subst hc
          go_wp2
          go_ret
          exact ⟨rfl, hB⟩
    · have hyb : (y2 == 0) = false := by simpa using hy
      have hyn : (y2 != 0) = true := by simpa using hy
      have HRt := HR17
      have HPt := HP17
      have HQt := HQ17
      have hat := ha17
      clear HR17 HP17 HQ17 ha17 F17 f0 f1 f2 f3
      rcases HLV.out with ⟨g1, g2, e1, e2⟩ | ⟨_, e1, e2⟩
      · subst e1
        have E2 := Lib.hid e2
        clear HLV e2
        go_wp2_with fail
        obtain ⟨e3, e4⟩ := marI_yes g1
        have HMO := Lib.hid (fun W => MarksOf_any T2 m2 W)
        rw [e3, e4] at HMO
        have LT0 := Lib.hid (fun k i hk hi => levels_told g1 g2 k i hk hi)
        have LS0 := Lib.hid (fun k hk => level_self g1 g2 k hk)
        have HML := Lib.hid (markL_len T2 m2 m2.toNat)
        have HZn := Lib.hid HRt.out.1
        have HLn := Lib.hid (show L.length = n2 by rw [E2.out, offs_len]; exact HZn.out)
        have HLg := Lib.hid (fun k (hk : k < n2) => show L.getD k 0 = lvOff T2 m2 (Z2.getD k 0) by rw [E2.out]; exact offs_get (by rw [HZn.out]; exact hk))
        have hmn40 : m2.toNat ≤ 40 := by
          obtain ⟨_, _, _, _⟩ := storB_t g1
          omega
        have hn20 : n2 ≤ 20 := by
          have h1 := (levB_t g2).2.2.1
          have h2 := HZn.out
          omega
        generalize m2.toNat = mn at *
        clear g1 g2 E2 e3 e4
        refine (HMO.out _).mono ?_
        rintro e wm hnew
        obtain ⟨aM, cM, rfl, hOM, hbM⟩ := NewI.told hnew HML.out
        have HRm := Lib.hid (HRt.out.below hbM)
        have HPm := Lib.hid (HPt.out.below hbM)
        have HQm := Lib.hid (HQt.out.below hbM)
        have ham := Lib.hid (below_call hat hbM)
        have HMm := Lib.hid (show IsRow .i64 wm aM mn cM (markL T2 m2 mn) from HML.out ▸ hOM.row)
        clear hnew hbM hOM HMO HRt HPt HQt hat
        go_wp2_with fail
        go_loopw [36, 37, 38] (fun i _ _ wr => ∃ k : Nat, k ≤ n2 ∧ i = .int .i64 (k : Int) ∧ Below wm.heap.size wm wr) (fun i _ _ _ => (n2 - intOf i).toNat)
        case atStart => exact ⟨0, by omega, rfl, Below.refl _ _⟩
        case round =>
          obtain ⟨k, hk, rfl, hB⟩ := hrel
          by_cases hlt : k < n2
          · have hltI : (k : Int) < (n2 : Int) := by omega
            have hlt2 : k < L.length := by have := HLn.out; omega
            have hlt2I : (k : Int) < (L.length : Int) := by omega
            obtain ⟨wo, rfl⟩ : ∃ wo : World, wo = wr := ⟨_, rfl⟩
            have hBo := Lib.hid hB
            have hMo := Lib.hid (HMm.out.below hB)
            have hRo := Lib.hid (HRm.out.below hB)
            have hPo := Lib.hid (HPm.out.below hB)
            have LT := Lib.hid (fun i (hi : i < mn) => LT0.out k i (by rw [HZn.out]; exact hlt) hi)
            have LS := Lib.hid (LS0.out k (by rw [HZn.out]; exact hlt))
            have HG := Lib.hid (HLg.out k hlt)
            clear hB
            go_wp2_with fail
            go_loopw [37, 38] (fun i _ wr => ∃ q : Nat, q ≤ mn ∧ i = .int .i64 (q : Int) ∧ Below wo.heap.size wo wr) (fun i _ _ => (mn - intOf i).toNat)
            case atStart => exact ⟨0, by omega, rfl, Below.refl _ _⟩
            case round =>
              obtain ⟨q, hq, rfl, hB⟩ := hrel
              obtain ⟨bz, oz, rfl, _, hcz⟩ := (hRo.out.below hB).cell hlt
              obtain ⟨bl, ol, rfl, _, hcl⟩ := (hPo.out.below hB).cell hlt2
              rw [HG.out] at hcl
              by_cases hlq : q < mn
              · have hlqI : (q : Int) < (mn : Int) := by omega
                obtain ⟨bm, om, rfl, _, hcm⟩ := (hMo.out.below hB).cell hlq
                obtain ⟨t1, t2, t3, t4, t5, t6⟩ := LT.out q hlq
                generalize (markL T2 m2 mn).getD q 0 = m at *
                generalize lvOff T2 m2 (Z2.getD k 0) = f at *
                generalize Z2.getD k 0 = v at *
                have t9 : ¬ (if m - v ≤ -(m - v) then -(m - v) else m - v) < f := by split at t4 <;> split <;> omega
                have t7 : ¬ max (m - v) (-(m - v)) < f := by split at t4 <;> omega
                go_wp2_with fail
                go_quiet (fail)
                go_wp2
                go_roundw
                case rel => exact ⟨q + 1, by omega, by go_num, by repeat (first | assumption | refine below_drewN ?_ _ | refine Below.drew ?_)⟩
                case measure => first | (simp [intOf]; done) | (simp [intOf]; omega)
              · have hlqI : ¬ (q : Int) < (mn : Int) := by omega
                have LS' := LS.out
                generalize lvOff T2 m2 (Z2.getD k 0) = f at *
                generalize Z2.getD k 0 = v at *
                have t8 : ¬ v < f := by omega
                have hBB := below_call hBo.out hB
                go_wp2_with fail
                go_quiet (fail)
                go_wp2
                go_roundw
                case rel => exact ⟨k + 1, by omega, by go_num, by repeat (first | assumption | refine below_drewN ?_ _ | refine Below.drew ?_)⟩
                case measure => first | (simp [intOf]; done) | (simp [intOf]; omega)
          · have hk' : ¬ (k : Int) < (n2 : Int) := by omega
            have HQe := Lib.hid (HQm.out.below hB)
            have hBe := below_call ham.out hB
            clear hB
            have hB := hBe
            clear hBe
            by_cases hx : x2 = 0
            · exact absurd (HT.out.sums hx).1 hy
            · have hxb : (x2 == 0) = false := by simpa using hx
              have hxn : (x2 != 0) = true := by simpa using hx
              go_wp2
              go_ret
              exact ⟨ret_bool (by simp [hxb, hyb]), hB⟩
      · subst e1
        clear HLV e2
        have hB := hat
        by_cases hx : x2 = 0
        · exact absurd (HT.out.sums hx).1 hy
        · have hxb : (x2 == 0) = false := by simpa using hx
          have hxn : (x2 != 0) = true := by simpa using hx
          go_wp2
          go_ret
          exact ⟨ret_bool (by simp [hxb, hyb]), hB⟩
/-! ### The row's step: the arguments are opened, the walk is called, the arguments read as before. -/
set_option maxRecDepth 100000 in
set_option maxHeartbeats 1000000 in
set_option linter.unusedVariables false in
theorem lifted_FnGauges (os : Os) (started : os.Started) (H : Type) (enc : TypeId × Value → H) :
    ReturnsInHanded {} Try.checked os 9 .any (Rows.fnGaugesSpec.pre6 enc Try.prog Try.f9 Rows.fnGaugesRow.domain false) (Rows.fnGaugesSpec.post enc Try.prog Try.f9 false true false false) := by
  refine returnsInHanded_of_change (C := Try.checked) ownNone started (by kernel_rfl) Try.func9
    (ChangeSpec.witness6 (enc := enc) (C := Try.checked) false ⟨#[], #[.slice none 0 0], []⟩ 8 (by kernel_rfl) (by kernel_rfl) (by kernel_rfl) (by kernel_rfl)) ?_
  intro W base args ds gs before hval0 hW hcnd _
  have hval : ∀ (j : Nat) t v, Try.f9.params[j]? = some t → args[j]? = some v → Value.okWide Try.prog W .any base t v := hval0
  have hW' := hW
  obtain ⟨p, q, hA0, hV, rfl, hfz, hnd⟩ := hW
  have hA : DataW.TrodAll enc Try.prog W 0 (fun _ => true) true Try.f9.params.toList args.toList ds p := hA0
  rw [Try.params9] at hA hval
  obtain ⟨v0, vs0, d0, ds0, p0, q0, hargs, rfl, rfl, h0, r0⟩ := trodAll_cons hA
  obtain ⟨rfl, rfl, rfl⟩ := trodAll_nil r0
  obtain rfl : args = #[v0] := by cases args; simp_all
  obtain ⟨rfl, rfl⟩ := trodVars_none hV
  have k0 := h0
  have lt0 : ∀ x ∈ p0, x.block < W.heap.size := by obtain ⟨m, hm⟩ := k0; exact DataW.trod_lt m _ _ _ hm
  obtain ⟨a0, len0, cap0, rfl⟩ := okWide_slice Try.underlying47 (hval 0 47 v0 rfl rfl)
  obtain ⟨z0, w0⟩ : ∃ zs, IsRow .u8 W a0 len0 cap0 zs := by
    obtain ⟨fuel, hf⟩ := h0
    rcases open_ints Try.underlying47 Try.underlying5 (by kernel_rfl) hf with ⟨hcs, _⟩ | ⟨x, l, c, zs, hcs, _, hl, hm, hz, _, hcell, hwz⟩
    · simp [Value.cells] at hcs
      obtain ⟨rfl, rfl, rfl⟩ := hcs
      exact ⟨[], isRow_nil⟩
    · simp [Value.cells] at hcs
      obtain ⟨rfl, rfl, rfl⟩ := hcs
      exact ⟨zs.take len0, isRow_mk hl hm (by simpa using hz) hcell hwz⟩
  clear hA0 hval0
  refine (gauges_walk a0 len0 cap0 z0 W w0).mono fun e W' ⟨he, bel⟩ => ?_
  subst he
  exact ⟨_, rfl, _, _, _, [], _, [], hW', trodAll_mk1 (shut_bool Try.underlying4 _), (trodAll_cons_mk (Below.trod laidOut (by kernel_rfl) (of_decide_eq_true (by kernel_rfl)) k0 bel lt0) trodAll_mk0), rfl, bel.frame _, fun h => by cases h⟩

/-- The statement, proved. -/
theorem fnGauges_holds : Rows.FnGaugesSaid :=
  OpenClaim.holds_of_wide 9 Try.f9 rfl rfl rfl rfl rfl rfl rfl ⟨rfl, rfl, rfl, rfl, rfl⟩ rfl rfl rfl rfl rfl (by kernel_rfl) Try.func9 (by kernel_rfl)
    (of_decide_eq_true (by kernel_rfl)) (by unfold Func.isWrapper; first | (rw [if_pos (by decide +kernel)]; kernel_rfl) | (rw [if_neg (by decide +kernel)]; exact ⟨rfl, rfl⟩))
    (fun os started H enc _ => lifted_FnGauges os started H enc)
end Go.Proofs.Ytgpcehokdfehjaa
