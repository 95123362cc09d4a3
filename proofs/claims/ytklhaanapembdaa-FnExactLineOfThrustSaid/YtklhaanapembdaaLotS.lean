/- Contract of the reference's LineOfThrust; no old memory turns; condition: the slices can be read. -/
import Derived.Test.YtklhaanapembdaaLotU
import Derived.Test.YtklhaanapembdaaSlope
import Derived.Test.YtklhaanapembdaaCurvS
import Derived.OwnWalk
namespace Go.Proofs.Ytklhaanapembdaa
open Go.RowKit

set_option maxRecDepth 100000 in
set_option maxHeartbeats 8000000 in
theorem specLineOfThrust_any (a0 a1 a2 : Option Addr) (n0 c0 n1 c1 n2 c2 : Nat) (ls lo hi : List Int) (w : World) (h : IsB a0 a1 a2 n0 c0 n1 c1 n2 c2 ls lo hi w) :
    Calls Try.prog 61 #[.agg #[.slice a0 n0 c0, .slice a1 n1 c1, .slice a2 n2 c2]] w (NewD w (lotI ls lo hi) (lotD ls lo hi) (csC ls lo hi)) := by
  have H := Lib.hid h
  have HS := Lib.hid (fun W hW => specCurvatureBounds_any a0 a1 a2 n0 c0 n1 c1 n2 c2 ls lo hi W hW)
  rcases csC_cases ls lo hi with ⟨g, hc⟩ | ⟨g, hc⟩
  · obtain ⟨e1, e2, e3, e4, _, _⟩ := cv_yes g
    obtain ⟨v, hs⟩ := canV_t g
    obtain ⟨k1, k2⟩ := lot_yes g
    obtain ⟨k3, k4⟩ := lot_spec v hs
    rw [k1, k2, ← k3, ← k4, hc]
    rw [e1, e2, e3, e4, hc] at HS
    have hl1 : lo.length = n1 := h.2.1.1
    have hl0 : ls.length = n0 := h.1.1
    obtain ⟨v1, v2, v3, v4, _⟩ := blkB_t v
    have hn1 : n1 ≤ 11 := by omega
    have hn3 : 3 ≤ n1 := by omega
    have HSC := Lib.hid (scB_spec v hs)
    obtain ⟨q1, q2, q3, q4⟩ := s_sharp v hs
    have HMO := Lib.hid (fun W hF hW => l13Moments_any w.heap.size a0 a1 a2 n0 c0 n1 c1 n2 c2 ls lo hi W hF hW v)
    have HSL := Lib.hid (fun W am cm hF hW hM => l13Slope_any w.heap.size a0 a1 a2 n0 c0 n1 c1 n2 c2 ls lo hi am cm _ _ W hF hW hM v q1 q2 q3 q4)
    have hslope : slA (slO ls lo hi (sN (bfind ls lo hi)) (sD (bfind ls lo hi))) n1 = ltS ls lo hi := by unfold ltS; rw [hl1]
    rw [hslope] at HSL
    have HV := Lib.hid v
    have HL1 := Lib.hid hl1
    have HML := Lib.hid (moms_len ls n1)
    clear h e1 e2 e3 e4 g hc k1 k2 k3 k4 hs v v1 v2 v3 v4 hslope hl0 hl1
    generalize sN (bfind ls lo hi) = sn at *
    generalize sD (bfind ls lo hi) = sd at *
    generalize loN (bfind ls lo hi) = ln at *
    generalize loD (bfind ls lo hi) = ld at *
    generalize (ltS ls lo hi).1 = cN at *
    generalize (ltS ls lo hi).2 = cD at *
    obtain ⟨u1, u2, u3, u4, u5, u6⟩ := HSC.out
    go_enter Try.func61, Try.ntmps61
    go_wp2_with fail
    refine (HS.out _ (H.out.below (by repeat (first | exact Below.refl _ _ | assumption | refine Below.drew ?_ | refine below_drewN ?_ _ | refine Below.alloc ?_ (by first | omega | (simp; done) | (simp; omega)) _ | refine Below.setCell ?_ (by first | omega | (simp; done) | (simp; omega)) _)))).mono ?_
    rintro e w1 ⟨rfl, hb1⟩
    have hz1 := hb1.size
    simp at hz1
    have ha1 : Below w.heap.size w w1 := below_call (by repeat (first | exact Below.refl _ _ | assumption | refine Below.drew ?_ | refine below_drewN ?_ _ | refine Below.alloc ?_ (by first | omega | (simp; done) | (simp; omega)) _ | refine Below.setCell ?_ (by first | omega | (simp; done) | (simp; omega)) _)) hb1
    have hF1 : AtB w.heap.size a0 a1 a2 n0 c0 n1 c1 n2 c2 w1 := blk_call (blk_new w _) hb1
    have hF1a : AtB w.heap.size a0 a1 a2 n0 c0 n1 c1 n2 c2 ((w1.alloc (.cells #[.int .i64 ln, .int .i64 ld] 31)).alloc (.cells #[.int .i64 sn, .int .i64 sd] 31)) := blk_alloc (blk_alloc hF1)
    have hA6 : FrAt ((w1.alloc (.cells #[.int .i64 ln, .int .i64 ld] 31)).alloc (.cells #[.int .i64 sn, .int .i64 sd] 31)) (w1.heap.size + 1) sn sd := blk_new' _ _ (by simp)
    go_wp2_with fail
    refine (HMO.out _ (by exact hF1a) (H.out.below (by repeat (first | exact Below.refl _ _ | assumption | refine Below.drew ?_ | refine below_drewN ?_ _ | refine Below.alloc ?_ (by first | omega | (simp; done) | (simp; omega)) _ | refine Below.setCell ?_ (by first | omega | (simp; done) | (simp; omega)) _)))).mono ?_
    rintro e w2 ⟨am, cm, rfl, hOm, hb2⟩
    have hz2 := hb2.size
    simp at hz2
    have ha2 : Below w.heap.size w w2 := below_call (by repeat (first | exact Below.refl _ _ | assumption | refine Below.drew ?_ | refine below_drewN ?_ _ | refine Below.alloc ?_ (by first | omega | (simp; done) | (simp; omega)) _ | refine Below.setCell ?_ (by first | omega | (simp; done) | (simp; omega)) _)) hb2
    have hF2 : AtB w.heap.size a0 a1 a2 n0 c0 n1 c1 n2 c2 w2 := blk_call hF1a hb2
    have hA6b : FrAt w2 (w1.heap.size + 1) sn sd := blk_call hA6 hb2
    have hRow := hOm.row
    rw [HML.out] at hRow ⊢
    obtain ⟨p0, p1, pf⟩ := hA6b.cells
    clear hF1 hF1a hA6 hOm hb1 hb2
    go_wp2_with fail
    refine (HSL.out _ _ _ (by exact hF2) (H.out.below (by repeat (first | exact Below.refl _ _ | assumption | refine Below.drew ?_ | refine below_drewN ?_ _ | refine Below.alloc ?_ (by first | omega | (simp; done) | (simp; omega)) _ | refine Below.setCell ?_ (by first | omega | (simp; done) | (simp; omega)) _))) hRow).mono ?_
    rintro e w3 ⟨rfl, hb3⟩
    have hz3 := hb3.size
    have ha3 : Below w.heap.size w w3 := below_call ha2 hb3
    have hF3 := blk_alloc (o' := .cells #[.int .i64 cN, .int .i64 cD] 31) (blk_call hF2 hb3)
    have hA6c := blk_alloc (o' := .cells #[.int .i64 cN, .int .i64 cD] 31) (blk_call hA6b hb3)
    have hA9 : FrAt (w3.alloc (.cells #[.int .i64 cN, .int .i64 cD] 31)) w3.heap.size cN cD := blk_new _ _
    have hRow3 := (hRow.below hb3).below (w' := w3.alloc (.cells #[.int .i64 cN, .int .i64 cD] 31)) (by repeat (first | exact Below.refl _ _ | assumption | refine Below.drew ?_ | refine below_drewN ?_ _ | refine Below.alloc ?_ (by first | omega | (simp; done) | (simp; omega)) _ | refine Below.setCell ?_ (by first | omega | (simp; done) | (simp; omega)) _))
    have ha4 : Below w.heap.size w (w3.alloc (.cells #[.int .i64 cN, .int .i64 cD] 31)) := ha3.alloc ha3.size _
    have HF4 := Lib.hid hF3
    have HRow4 := Lib.hid hRow3
    have HA4 := Lib.hid ha4
    obtain ⟨p0, p1, pf⟩ := FrAt.cells hA6c
    obtain ⟨r0, r1, rf⟩ := hA9.cells
    clear hF2 hF3 hA6b hA6c hA9 hRow hRow3 ha4 ha3 ha2 ha1 hb3
    go_wp2_with fail
    obtain ⟨W0, hW0⟩ : ∃ W0, w3.alloc (.cells #[.int .i64 cN, .int .i64 cD] 31) = W0 := ⟨_, rfl⟩
    rw [hW0] at HF4 HRow4 HA4 ⊢
    clear hW0 p0 p1 pf r0 r1 rf
    have HNB := Lib.hid (fun k (hk : k < n1) => neV_bd HSC.out HV.out (k := k) (by rw [HL1.out]; exact hk))
    have HLB := Lib.hid (fun k (hk : k ≤ n1) => leV_bd HSC.out HV.out k (by rw [HL1.out]; exact hk))
    have HPB := Lib.hid (fun k (hk : k < n1) => scB_parts HSC.out HV.out (k := k) (by rw [HL1.out]; exact hk))
    have HOB := Lib.hid (fun k (hk : k < n1) => (HL1.out ▸ ouV_bd HSC.out HV.out (k := k) (by rw [HL1.out]; exact hk) : -2600000000000000000 ≤ ouV ls lo (sd * cD) (cN * sd) (sn * cD) n1 k ∧ ouV ls lo (sd * cD) (cN * sd) (sn * cD) n1 k ≤ 2600000000000000000))
    have HCB := Lib.hid (fun k => coV_bd HSC.out ls lo n1 k)
    rw [HL1.out]
    have hdne : sd * cD ≠ 0 := by omega
    generalize sd * cD = d at *
    generalize cN * sd = A at *
    generalize sn * cD = B at *
    go_loopw [13, 14] (fun bs i wr => ∃ k : Nat, k ≤ n1 ∧ i = .int .i64 (k : Int) ∧ bs = .int .i64 (leV ls lo d A B k) ∧ Below W0.heap.size W0 wr) (fun _ i _ => (n1 - intOf i).toNat)
    case atStart => exact ⟨0, by omega, rfl, rfl, Below.refl _ _⟩
    case round =>
      obtain ⟨k, hk, rfl, rfl, hB⟩ := hrel
      by_cases hlt : k < n1
      · have hlt' : (k : Int) < (n1 : Int) := by omega
        have hk0 : (0 : Int) ≤ (k : Int) := by omega
        obtain ⟨b1, b2⟩ := HNB.out k hlt
        obtain ⟨b3, b4⟩ := HLB.out k hk
        obtain ⟨⟨c1', c2'⟩, ⟨c3', c4'⟩, ⟨c5', c6'⟩, ⟨c7', c8'⟩⟩ := HPB.out k hlt
        have HNX := Lib.hid (leV_next ls lo d A B k)
        have HNE := Lib.hid (show neV ls lo d A B k = lo.getD k 0 * d - (A * (k : Int) - B * momAt ls k) from rfl)
        obtain ⟨bl, ol, rfl, tl, dl⟩ := (H.out.below HA4.out).2.1.cell hlt
        obtain ⟨bm, om, rfl, tm, dm⟩ := HRow4.out.cell hlt
        rw [moms_get _ _ _ hlt] at dm
        have e1 := keep1 hB dl
        have e2 := keep1 hB dm
        have f1 := keep1 hB (show W0.cell? ⟨w.heap.size, 1, none⟩ = some (.slice (some ⟨bl, ol, none⟩) n1 c1) by rw [cellOf HF4.out]; rfl)
        rw [HNE.out] at b1 b2
        have hBH := Lib.hid hB
        clear dl dm tl tm hB
        generalize lo.getD k 0 = x at *
        generalize momAt ls k = m at *
        generalize leV ls lo d A B k = L at *
        have i1 := IntWalk.i64_in (x * d) (by omega)
        have i2 := IntWalk.i64_in (A * (k : Int)) (by omega)
        have i3 := IntWalk.i64_in (x * d - A * (k : Int)) (by omega)
        have i4 := IntWalk.i64_in (B * m) (by omega)
        have i5 := IntWalk.i64_in (x * d - A * (k : Int) + B * m) (by omega)
        have HY : Hid (neV ls lo d A B k = x * d - A * (k : Int) + B * m) := Lib.hid (by rw [HNE.out]; omega)
        go_wp2_with fail
        go_quiet (fail)
        clear i1 i2 i3 i4 i5
        rw [HY.out] at HNX
        generalize x * d - A * (k : Int) + B * m = y at *
        have hy : (k = 0 ∨ (k ≠ 0 ∧ L < y)) ∨ (k ≠ 0 ∧ ¬ L < y) := by omega
        rcases hy with (hy | hy) | hy
        · have HN2 := Lib.hid (HNX.out.trans (if_pos (.inl hy)))
          subst hy
          go_wp2
          go_roundw
          case rel => exact ⟨0 + 1, by omega, by go_num, by rw [HN2.out], below_drewN hBH.out _⟩
          case measure => first | (simp [intOf]; done) | (simp [intOf]; omega)
        · have HN2 := Lib.hid (HNX.out.trans (if_pos (.inr hy.2)))
          have y1 : decide ((k : Int) = 0) = false := decide_eq_false (by omega)
          have y2 : ((k : Int) == 0) = false := by simp; omega
          have y3 : decide (L < y) = true := decide_eq_true hy.2
          clear hy
          go_wp2
          go_roundw
          case rel => exact ⟨k + 1, by omega, by go_num, by rw [HN2.out], below_drewN hBH.out _⟩
          case measure => first | (simp [intOf]; done) | (simp [intOf]; omega)
        · have HN2 := Lib.hid (HNX.out.trans (if_neg (by omega)))
          have y1 : decide ((k : Int) = 0) = false := decide_eq_false (by omega)
          have y2 : ((k : Int) == 0) = false := by simp; omega
          have y3 : decide (L < y) = false := decide_eq_false hy.2
          clear hy
          go_wp2
          go_roundw
          case rel => exact ⟨k + 1, by omega, by go_num, by rw [HN2.out], below_drewN hBH.out _⟩
          case measure => first | (simp [intOf]; done) | (simp [intOf]; omega)
      · obtain rfl : n1 = k := by omega
        have hlt' : ¬ (n1 : Int) < (n1 : Int) := by omega
        have hBz := hB.size
        obtain ⟨W1, rfl⟩ : ∃ W1 : World, W1 = wr := ⟨_, rfl⟩
        have HB1 := Lib.hid hB
        have HOUL := Lib.hid (ouL_next ls lo d A B n1)
        have HOLL := Lib.hid (ouL_len ls lo d A B n1)
        have HOV := Lib.hid (fun k => show ouV ls lo d A B n1 k = A * (k : Int) - B * momAt ls k + leV ls lo d A B n1 from rfl)
        have HCN := Lib.hid (coV_next ls lo d A B n1)
        obtain ⟨L1, L2⟩ := HLB.out n1 hk
        obtain ⟨i0, hi, hi0, hi1, hi2⟩ := info_parts info_i64
        have HFN := Lib.hid (show liV ls lo d A B n1 = (ouL ls lo d A B n1 n1).map (fun z => z.tdiv (coV ls lo d A B n1 n1)) by unfold liV ouL; rw [List.map_map]; rfl)
        have HFD := Lib.hid (show ldV ls lo d A B n1 = d.tdiv (coV ls lo d A B n1 n1) from rfl)
        clear hB
        generalize leV ls lo d A B n1 = L at *
        go_wp2_with fail
        go_loopw [16, 17, 18, 19] (fun os cs i _ wr => ∃ k : Nat, k ≤ n1 ∧ i = .int .i64 (k : Int) ∧ cs = .int .i64 (coV ls lo d A B n1 k) ∧ OwnI wr W1.heap.size os (ouL ls lo d A B n1 k) ∧ Below W1.heap.size W1 wr) (fun _ _ i _ _ => (n1 - intOf i).toNat)
        case atStart => exact ⟨0, by omega, rfl, rfl, ownI_empty _ _ (Nat.le_refl _), (by repeat (first | exact Below.refl _ _ | assumption | refine Below.drew ?_ | refine below_drewN ?_ _ | refine Below.alloc ?_ (by first | omega | (simp; done) | (simp; omega)) _ | refine Below.setCell ?_ (by first | omega | (simp; done) | (simp; omega)) _))⟩
        case round =>
          obtain ⟨k, hk, rfl, rfl, hO, hB⟩ := hrel
          by_cases hlt : k < n1
          · have hlt' : (k : Int) < (n1 : Int) := by omega
            have hk0 : (0 : Int) ≤ (k : Int) := by omega
            obtain ⟨⟨c1', c2'⟩, ⟨c3', c4'⟩, _, ⟨c7', c8'⟩⟩ := HPB.out k hlt
            obtain ⟨o1', o2'⟩ := HOB.out k hlt
            obtain ⟨g1', g2'⟩ := HCB.out k
            have HNO := Lib.hid (HOUL.out k)
            have HNC := Lib.hid (HCN.out k)
            have HLn := Lib.hid (HOLL.out k)
            have HOk := Lib.hid (HOV.out k)
            obtain ⟨bm, om, rfl, tm, dm⟩ := HRow4.out.cell hlt
            rw [moms_get _ _ _ hlt] at dm
            have e2 := keep1 hB (keep1 HB1.out dm)
            have hz := hB.size
            have HB := Lib.hid hB
            have HO := Lib.hid hO
            clear dm tm hB hO
            rw [HOk.out] at o1' o2' HNC HNO
            generalize momAt ls k = m at *
            generalize ouL ls lo d A B n1 k = P at *
            generalize coV ls lo d A B n1 k = C at *
            have i2 := IntWalk.i64_in (A * (k : Int)) (by omega)
            have i3 := IntWalk.i64_in (L + A * (k : Int)) (by omega)
            have i4 := IntWalk.i64_in (B * m) (by omega)
            have i5 := IntWalk.i64_in (L + A * (k : Int) - B * m) (by omega)
            have hye : A * (k : Int) - B * m + L = L + A * (k : Int) - B * m := by omega
            rw [hye] at o1' o2' HNC HNO
            clear hye
            have HSZ := Lib.hid (fun W => l02Size_any (L + A * (k : Int) - B * m) W (by omega) (by omega))
            have HGC := Lib.hid (fun W => l02Gcd_any ((L + A * (k : Int) - B * m).natAbs : Int) C W (by omega) (by omega) (by omega) (by omega))
            have HGS := Lib.hid (gcd_size C (L + A * (k : Int) - B * m))
            rw [HGS.out] at HGC
            rw [← HNC.out] at HGC
            have hOl := HO.out
            unfold OwnI at hOl
            rw [HLn.out] at hOl
            go_wp2_with (at_builtin; refine wpList_append_new _ rfl _ _ 24 rfl _ 2 i0 (.int .i64 0) 1 8 Try.underlying24 hi hi0 hi1 hi2 rfl (by decide) _ _ _ rfl (hOl.alloc _) ⟨wr.heap.size, 0, none⟩ 1 1 [.int .i64 (L + A * (k : Int) - B * m)] rfl rfl (cell_one_new _ _ _) (by simp [Value.oneCell']) (by unfold maxLen; omega) (by omega) (by first | omega | (simp; done) | (simp; omega)) (by decide) ?_; intro v' w1' hown1 hgrow1 hnew1)
            have hO1 := Lib.hid (OwnI.snoc hown1 (by rw [HLn.out]))
            have hB1 := Lib.hid (below_mark (HB.out.alloc hz _) (Nat.le_refl _) (HO.out.alloc _) hgrow1)
            clear hown1 hgrow1 hnew1 hOl
            refine (HSZ.out _).mono ?_
            rintro e w6 ⟨rfl, rfl⟩
            go_wp2_with fail
            refine (HGC.out _).mono ?_
            rintro e w6 ⟨rfl, rfl⟩
            go_wp2
            go_roundw
            case rel => exact ⟨k + 1, by omega, by go_num, rfl, by rw [HNO.out]; exact hO1.out, hB1.out⟩
            case measure => first | (simp [intOf]; done) | (simp [intOf]; omega)
          · obtain rfl : n1 = k := by omega
            obtain ⟨g1', g2'⟩ := HCB.out n1
            obtain ⟨ax, cx, rfl⟩ := hO.shape
            have HPL := Lib.hid (HOLL.out n1)
            have HPG := Lib.hid (fun k hk => (ouL_get ls lo d A B n1 n1 k hk).symm ▸ HOB.out k hk)
            generalize ouL ls lo d A B n1 n1 = P at *
            generalize coV ls lo d A B n1 n1 = C at *
            rw [HPL.out]
            have hcne : C ≠ 0 := by omega
            have hcne' : (C == 0) = false := by simpa using hcne
            have HO := Lib.hid (show OwnI wr W1.heap.size (.slice ax n1 cx) (diL P C 0) by rw [diL_zero, ← HPL.out]; exact hO)
            have HB := Lib.hid hB
            clear hO hB
            obtain ⟨W2, rfl⟩ : ∃ W2 : World, W2 = wr := ⟨_, rfl⟩
            go_wp2_with fail
            go_loopw [20] (fun i wr => ∃ k : Nat, k ≤ n1 ∧ i = .int .i64 (k : Int) ∧ OwnI wr W1.heap.size (.slice ax n1 cx) (diL P C k) ∧ Below W1.heap.size W1 wr) (fun i _ => (n1 - intOf i).toNat)
            case atStart => exact ⟨0, by omega, rfl, HO.out, HB.out⟩
            case round =>
              obtain ⟨k, hk, rfl, hO, hB⟩ := hrel
              by_cases hlt : k < n1
              · have hlt' : (k : Int) < (n1 : Int) := by omega
                have hk0 : (0 : Int) ≤ (k : Int) := by omega
                have HDG := Lib.hid (diL_get P C k (by rw [HPL.out]; exact hlt))
                have HDS := Lib.hid (diL_set P C k (by rw [HPL.out]; exact hlt))
                have HDN := Lib.hid ((diL_len P C k (by rw [HPL.out]; omega)).trans HPL.out)
                have HDM := Lib.hid ((diL_len P C (k + 1) (by rw [HPL.out]; omega)).trans HPL.out)
                obtain ⟨zb1, zb2⟩ := HPG.out k hlt
                generalize P.getD k 0 = z at *
                obtain ⟨zb3, zb4⟩ := tdiv_bd zb1 zb2 g1'
                generalize diL P C k = D0 at *
                rcases hO.2 with ⟨_, hz0⟩ | ⟨gx, cap, cur, hv, hbx, hh, _⟩
                · have := HDN.out; omega
                · injection hv with h1 h2 h3
                  subst h1 h3
                  have HO2 := Lib.hid hO
                  have hB2 := Lib.hid hB
                  unfold OwnI at hO
                  rw [HDN.out] at hO
                  have hc := hO.cellAt k (by omega)
                  have hf := hO.frozenAt k
                  have HS := Lib.hid (hO.stored k (.int .i64 (z.tdiv C)))
                  rw [List.getElem?_map, HDG.out] at hc
                  simp only [Option.map_some] at hc
                  clear hO hB hh h2
                  go_wp2
                  go_roundw
                  case rel =>
                    refine ⟨k + 1, by omega, by go_num, ?_, ?_⟩
                    · unfold OwnI
                      rw [← HDS.out]
                      have := HS.out.1
                      rw [← List.map_set] at this
                      rw [HDS.out, HDM.out, ← HDS.out]
                      exact this
                    · exact below_mark hB2.out (Nat.le_refl _) HO2.out HS.out.2
                  case measure => first | (simp [intOf]; done) | (simp [intOf]; omega)
              · obtain rfl : n1 = k := by omega
                have HFin : Hid (OwnI wr W1.heap.size (.slice ax n1 cx) (liV ls lo d A B n1)) := Lib.hid (by
                  rw [HFN.out, ← diL_all, HPL.out]; exact hO)
                have HBF := Lib.hid (below_call (below_call HA4.out HB1.out) hB)
                have hWs := HA4.out.size
                have hWs1 := HB1.out.size
                clear hO hB
                go_wp2_with fail
                go_quiet (fail)
                go_wp2
                go_ret3
                have HFD2 := Lib.hid (HFD.out.trans (Int.tdiv_eq_ediv_of_nonneg (show 0 ≤ d by omega)))
                rw [HL1.out, HFD2.out]
                exact newD_mk ((HFin.out.base (by omega)).below (below_drewN (Below.refl _ _) _)) (below_drewN HBF.out _)
  · obtain ⟨e1, e2, e3, e4, _, _⟩ := cv_no g
    obtain ⟨k1, k2⟩ := lot_no g
    rw [k1, k2]
    rw [e1, e2, e3, e4] at HS
    clear h e1 e2 e3 e4 g k1 k2
    generalize csC ls lo hi = c at *
    have hc1' : (c != 0) = true := by rcases hc with rfl | rfl <;> rfl
    clear hc
    go_enter Try.func61, Try.ntmps61
    go_wp2_with fail
    refine (HS.out _ (H.out.below (by repeat (first | exact Below.refl _ _ | assumption | refine Below.drew ?_ | refine below_drewN ?_ _ | refine Below.alloc ?_ (by first | omega | (simp; done) | (simp; omega)) _ | refine Below.setCell ?_ (by first | omega | (simp; done) | (simp; omega)) _)))).mono ?_
    rintro e w1 ⟨rfl, hb1⟩
    have ha1 : Below w.heap.size w w1 := below_call (by repeat (first | exact Below.refl _ _ | assumption | refine Below.drew ?_ | refine below_drewN ?_ _ | refine Below.alloc ?_ (by first | omega | (simp; done) | (simp; omega)) _ | refine Below.setCell ?_ (by first | omega | (simp; done) | (simp; omega)) _)) hb1
    have hz1 := hb1.size
    simp at hz1
    go_wp2
    go_ret3
    exact newD_mk (ownI_nil _ _) (by repeat (first | exact Below.refl _ _ | assumption | refine Below.drew ?_ | refine below_drewN ?_ _ | refine Below.alloc ?_ (by first | omega | (simp; done) | (simp; omega)) _ | refine Below.setCell ?_ (by first | omega | (simp; done) | (simp; omega)) _))
end Go.Proofs.Ytklhaanapembdaa
