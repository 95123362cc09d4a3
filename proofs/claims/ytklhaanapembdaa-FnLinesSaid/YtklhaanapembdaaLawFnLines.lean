/- For all bytes, the law FnLines holds: an arch around a line of thrust stands, and this line is one; no condition. -/
import Derived.Test.YtklhaanapembdaaLinP
import Derived.Test.YtklhaanapembdaaMoments
import Derived.Test.YtklhaanapembdaaIsLineI
import Derived.Test.YtklhaanapembdaaCanI
import Derived.Test.YtklhaanapembdaaOwn
import Derived.Deep.RegionLaw
import Derived.Deep.AppendLies
import Derived.OwnWalk
namespace Go.Proofs.Ytklhaanapembdaa
set_option linter.unusedVariables false
set_option linter.unusedSimpArgs false
open Go.ChangeShapes Go.WideShapes Go.ChangeAt Go.RowKit

set_option maxRecDepth 100000 in
set_option maxHeartbeats 8000000 in
theorem lines_walk (a : Option Addr) (len cap : Nat) (zs : List Int) (a' : Option Addr) (len' cap' : Nat) (zs' : List Int) (w : World) (h : IsRow .u8 w a len cap zs) (h' : IsRow .u8 w a' len' cap' zs') :
    Calls Try.prog 8 #[.slice a len cap, .slice a' len' cap'] w fun e w' => e = .returned (.bool true) ∧ Below w.heap.size w w' := by
  have hm : len ≤ maxLen := Nat.le_trans h.2.1 h.2.2.1
  have hm' : len' ≤ maxLen := Nat.le_trans h'.2.1 h'.2.2.1
  have HL := Lib.hid (fun W => a2Long_any a a' len cap len' cap' W hm hm')
  have H := Lib.hid h
  cases hl : longB len len'
  case true =>
    rw [hl] at HL
    clear hl h h' hm hm'
    go_enter Try.func8, Try.ntmps8
    go_wp2_with fail
    refine (HL.out _).mono ?_
    rintro e w1 ⟨rfl, rfl⟩
    go_wp2
    go_ret
    exact ⟨rfl, (by repeat (first | exact Below.refl _ _ | assumption | refine Below.drew ?_ | refine below_drewN ?_ _ | refine Below.alloc ?_ (by first | omega | (simp; done) | (simp; omega)) _ | refine Below.setCell ?_ (by first | omega | (simp; done) | (simp; omega)) _))⟩
  case false =>
    rw [hl] at HL
    obtain ⟨y, y0, y1, A0⟩ := a2At_at h' 0 100 (by omega) (by omega) (by omega)
    obtain ⟨c, c0, c1, A1⟩ := a2At_at h' 1 40 (by omega) (by omega) (by omega)
    have HAT := Lib.hid (fun i (hi0 : 0 ≤ i) (hi : i ≤ 1000) => a2At_at h' i 5 hi0 (by omega) (by omega))
    clear hl h h' hm hm'
    go_enter Try.func8, Try.ntmps8
    go_wp2_with fail
    refine (HL.out _).mono ?_
    rintro e w1 ⟨rfl, rfl⟩
    go_wp2_with fail
    refine (a2Blocks_any _ _ _ _ _ (H.out.below (by repeat (first | exact Below.refl _ _ | assumption | refine Below.drew ?_ | refine below_drewN ?_ _ | refine Below.alloc ?_ (by first | omega | (simp; done) | (simp; omega)) _ | refine Below.setCell ?_ (by first | omega | (simp; done) | (simp; omega)) _)))).mono ?_
    rintro e w2 ⟨a0, a1, a2, n0, k0, n1, k1, n2, k2, ls, lo, hi, rfl, hv, hsm, hb2, hB2⟩
    obtain ⟨v1, v2, v3, v4, v5, v6, v7, v8⟩ := blkB_t hv
    obtain ⟨e0, e1, e2⟩ := hb2.len
    have HMO := Lib.hid (fun W hW => momentsOf_any a0 a1 a2 n0 k0 n1 k1 n2 k2 ls lo hi W hW)
    rw [show momC ls lo hi = 0 by simp [momC, hv], show momI ls lo hi = moms ls (n0 + 1) by simp [momI, hv, e0]] at HMO
    have HV := Lib.hid hv
    have HLO := Lib.hid hb2.1
    have HI2 := Lib.hid hb2
    have E0 := Lib.hid e0
    have ha2 : Below w.heap.size w w2 := below_call (by repeat (first | exact Below.refl _ _ | assumption | refine Below.drew ?_ | refine below_drewN ?_ _ | refine Below.alloc ?_ (by first | omega | (simp; done) | (simp; omega)) _ | refine Below.setCell ?_ (by first | omega | (simp; done) | (simp; omega)) _)) hB2
    have hz2 := ha2.size
    have HMB := Lib.hid (fun k (hk : k ≤ n0) => momAt_bd (ls := ls) (k := k) (by omega) v3 (by omega))
    have HLB := Lib.hid (fun k (hk : k < n0) => v3 k (by omega))
    have hn0 : 2 ≤ n0 ∧ n0 ≤ 10 := by omega
    clear hb2 hB2 v1 v2 v3 v4 v5 v6 v7 v8 e0 e1 e2 hv hsm
    go_wp2_with fail
    have F1 : Hid ((w2.alloc (.cells #[.slice a0 n0 k0, .slice a1 n1 k1, .slice a2 n2 k2] 26)).heap[w2.heap.size]? = some _) := Lib.hid (blk_new _ _)
    refine (HMO.out _ (HI2.out.below (by repeat (first | exact Below.refl _ _ | assumption | refine Below.drew ?_ | refine below_drewN ?_ _ | refine Below.alloc ?_ (by first | omega | (simp; done) | (simp; omega)) _ | refine Below.setCell ?_ (by first | omega | (simp; done) | (simp; omega)) _)))).mono ?_
    rintro e w3 hN3
    obtain ⟨xm, cm, rfl, hO3, hb3⟩ := hN3.told (moms_len ls (n0 + 1))
    have hb3' : Below w2.heap.size w2 w3 := below_call (by repeat (first | exact Below.refl _ _ | assumption | refine Below.drew ?_ | refine below_drewN ?_ _ | refine Below.alloc ?_ (by first | omega | (simp; done) | (simp; omega)) _ | refine Below.setCell ?_ (by first | omega | (simp; done) | (simp; omega)) _)) hb3
    have F3 := Lib.hid (blk_call F1.out hb3)
    have HL3 := Lib.hid (HLO.out.below hb3')
    have HM3 := Lib.hid hO3.row
    have ha3 := below_call ha2 hb3'
    have hz3 := hb3'.size
    have lF : w2.heap.size < w3.heap.size := blk_lt F3.out
    have f0 := cellOf F3.out 0
    simp at f0
    obtain ⟨bl, ol, rfl, hbl⟩ := HL3.out.addr (by omega)
    obtain ⟨bm, om, rfl, hbm⟩ := HM3.out.addr (by omega)
    have dm0 := HM3.out.same (i := 0) (by omega)
    have dm1 := HM3.out.same (i := 1) (by omega)
    have dl0 := HL3.out.same (i := 0) (by omega)
    rw [moms_get _ _ _ (by omega)] at dm0 dm1
    rw [show momAt ls 0 = 0 from rfl] at dm0
    have hm1 : momAt ls 1 = ls.getD 0 0 := by have := momAt_up ls 0; have e : momAt ls 0 = 0 := rfl; have e2 : sumS ls 0 = 0 := rfl; rw [e, e2] at this; simpa using this
    rw [hm1] at dm1
    have HE0 : Hid (∀ x, ls.getD 0 0 = x → True) := Lib.hid (fun _ _ => trivial)
    generalize ls.getD 0 0 = l0 at dm1 dl0
    clear hb3 hb3' hO3 F1 hN3 hm1 HE0
    simp only [Nat.add_zero] at dm0 dl0
    have q2 : (1 : Int) < (n0 : Int) + 1 := by omega
    have q3 : 1 < n0 + 1 := by omega
    have q4 : 0 < n0 := by omega
    have q5 : 0 < n0 + 1 := by omega
    go_wp2_with fail
    go_quiet (fail)
    clear dm0 dm1 dl0 q2 q3 q5 f0
    have HMG := Lib.hid (fun k (hk : k ≤ n0) => moms_get ls (n0 + 1) k (by omega))
    go_wp2_with fail
    go_loopw [9] (fun i wr => ∃ k : Nat, k + 1 ≤ n0 ∧ i = .int .i64 (k : Int) ∧ Below w3.heap.size w3 wr) (fun i _ => (n0 - intOf i).toNat)
    case atStart => exact ⟨0, by omega, rfl, (by repeat (first | exact Below.refl _ _ | assumption | refine Below.drew ?_ | refine below_drewN ?_ _ | refine Below.alloc ?_ (by first | omega | (simp; done) | (simp; omega)) _ | refine Below.setCell ?_ (by first | omega | (simp; done) | (simp; omega)) _))⟩
    case round =>
      obtain ⟨k, hk, rfl, hB⟩ := hrel
      by_cases hlt : k + 2 ≤ n0
      · have hltI : (k : Int) + 2 ≤ (n0 : Int) := by omega
        have hltM : k + 2 < n0 + 1 := by omega
        have hltM1 : k + 1 < n0 + 1 := by omega
        have hltM0 : k < n0 + 1 := by omega
        have hlt1 : k + 1 < n0 := by omega
        have hlt0 : k < n0 := by omega
        have F4 := blk_call F3.out hB
        have f0 := cellOf F4 0
        simp at f0
        have d2 := (HM3.out.below hB).same (i := k + 2) (by omega)
        have d1 := (HM3.out.below hB).same (i := k + 1) (by omega)
        have d0 := (HM3.out.below hB).same (i := k) (by omega)
        have g0 := (HL3.out.below hB).same (i := k) (by omega)
        have g1 := (HL3.out.below hB).same (i := k + 1) (by omega)
        rw [HMG.out _ (by omega)] at d0 d1 d2
        obtain ⟨b0, b0'⟩ := HMB.out k (by omega)
        obtain ⟨b1, b1'⟩ := HMB.out (k + 1) (by omega)
        obtain ⟨b2, b2'⟩ := HMB.out (k + 2) (by omega)
        obtain ⟨t0, t0'⟩ := HLB.out k (by omega)
        obtain ⟨t1, t1'⟩ := HLB.out (k + 1) (by omega)
        have hbend := momAt_bend ls k
        have HB := Lib.hid hB
        clear hB F4
        generalize momAt ls (k + 2) = x2 at *
        generalize momAt ls (k + 1) = x1 at *
        generalize momAt ls k = x0 at *
        generalize ls.getD k 0 = u0 at *
        generalize ls.getD (k + 1) 0 = u1 at *
        have i1 := IntWalk.i64_in (2 * x1) (by omega)
        have i2 := IntWalk.i64_in (x2 - 2 * x1) (by omega)
        have i3 : IntKind.i64.wrap (x2 - 2 * x1 + x0) = u0 + u1 := by rw [hbend]; exact IntWalk.i64_in _ (by omega)
        have i4 := IntWalk.i64_in (u0 + u1) (by omega)
        have j1 := IntWalk.i64_in ((k : Int) + 2) (by omega)
        have j2 := IntWalk.i64_in ((k : Int) + 1) (by omega)
        have r1 : ((k : Int) + 2).toNat = k + 2 := by omega
        have r2 : ((k : Int) + 1).toNat = k + 1 := by omega
        clear hbend
        go_wp2_with fail
        go_quiet (fail)
        clear d0 d1 d2 g0 g1 r1 r2 f0
        go_wp2
        go_roundw
        case rel => exact ⟨k + 1, by omega, by go_num, below_drewN HB.out _⟩
        case measure => first | (simp [intOf]; done) | (simp [intOf]; omega)
      · have hltI : ¬ (k : Int) + 2 ≤ (n0 : Int) := by omega
        have HB := Lib.hid hB
        clear hB
        go_wp2_with fail
        have F4 := Lib.hid (blk_call F3.out HB.out)
        have HL4 := Lib.hid (HL3.out.below HB.out)
        have HM4 := Lib.hid (HM3.out.below HB.out)
        have ha4 := below_call ha3 HB.out
        have hz4 := HB.out.size
        have f0 := cellOf F4.out 0
        simp at f0
        have lF4 : w2.heap.size < wr.heap.size := blk_lt F4.out
        clear F3 HL3 HM3 HB hlt hltI
        refine (A0.out _ ha4).mono ?_
        rintro e q0 ⟨rfl, rfl⟩
        go_wp2_with fail
        refine (A1.out _ ha4).mono ?_
        rintro e q1 ⟨rfl, rfl⟩
        obtain ⟨wo, rfl⟩ : ∃ wo : World, wo = wr := ⟨_, rfl⟩
        have HN0 := Lib.hid (lin_new wo (.slice (some ⟨bl, ol, none⟩) n0 k0))
        go_wp2_with fail
        obtain ⟨i0, hi0', hi0, hi1, hi2⟩ := info_parts info_i64
        have HB5 : Hid (Below wo.heap.size wo ((wo.alloc (.cells #[] 2)).alloc (.cells #[.slice (some ⟨bl, ol, none⟩) n0 k0, .slice none 0 0, .slice none 0 0] 26))) := Lib.hid (by repeat (first | exact Below.refl _ _ | assumption | refine Below.drew ?_ | refine below_drewN ?_ _ | refine Below.alloc ?_ (by first | omega | (simp; done) | (simp; omega)) _ | refine Below.setCell ?_ (by first | omega | (simp; done) | (simp; omega)) _))
        clear f0
        go_loopw [12, 14] (fun ls12 i wr => ∃ (k : Nat) (vl v1 v2 : Value) (Z LO HI : List Int), k ≤ n0 + 1 ∧ vl = ls12 ∧ i = .int .i64 (k : Int) ∧ Lin wr wo.heap.size (.slice (some ⟨bl, ol, none⟩) n0 k0) v1 v2 vl LO HI Z ∧ Laid ls y c k Z LO HI ∧ Below wo.heap.size wo wr) (fun _ i _ => (n0 + 1 - intOf i).toNat)
        case atStart => exact ⟨0, _, _, _, [], [], [], by omega, rfl, rfl, HN0.out, laid0 _ _ _, HB5.out⟩
        case round =>
          clear HN0 HB5
          obtain ⟨k, vl, v1, v2, Z, LO, HI, hk, rfl, rfl, hLn, hLd, hB⟩ := hrel
          by_cases hlt : k ≤ n0
          · have hltI : (k : Int) ≤ (n0 : Int) := by omega
            have hltN : k < n0 + 1 := by omega
            have dk := (HM4.out.below hB).same (i := k) (by omega)
            rw [HMG.out _ (by omega)] at dk
            obtain ⟨b0, b0'⟩ := HMB.out k (by omega)
            obtain ⟨p0, p0'⟩ := mul_bd (a := c) (b := (k : Int)) (A := 40) (B := 10) (by omega) (by omega) (by omega) (by omega)
            have HH := Lib.hid (show liH ls y c k = y + c * (k : Int) - momAt ls k from rfl)
            have HLn := Lib.hid hLn
            have HLd := Lib.hid hLd
            have HB := Lib.hid hB
            have hBz := hB.size
            have hLt := blk_lt hLn.blk
            clear hLn hLd hB
            obtain ⟨hh, hhe⟩ : ∃ hh, y + c * (k : Int) - momAt ls k = hh := ⟨_, rfl⟩
            have HHE : Hid (hh = liH ls y c k) := Lib.hid (by rw [HH.out, hhe])
            generalize momAt ls k = x0 at *
            have i1 := IntWalk.i64_in (c * (k : Int)) (by omega)
            have i2 := IntWalk.i64_in (y + c * (k : Int)) (by omega)
            have i3 : IntKind.i64.wrap (y + c * (k : Int) - x0) = hh := by rw [hhe]; exact IntWalk.i64_in _ (by omega)
            have hhb : -190000 ≤ hh ∧ hh ≤ 1000 := by omega
            clear hhe HH
            by_cases hr1 : hh < -900
            · go_wp2
              go_ret
              exact ⟨rfl, below_call ha4 HB.out⟩
            · by_cases hr2 : 900 < hh
              · go_wp2
                go_ret
                exact ⟨rfl, below_call ha4 HB.out⟩
              · have hOl := HLn.out.ol
                unfold OwnI at hOl
                rw [HLd.out.lz] at hOl
                go_wp2_with (at_builtin; refine wpList_append_lies _ (by rfl) _ _ 24 (by rfl) wo.heap.size 2 i0 (.int .i64 0) 1 8 Try.underlying24 hi0' hi0 hi1 hi2 rfl (by decide) vl k (Z.map (Value.int .i64)) (by rfl) (by first | exact World.ownsRow.alloc hOl _ | exact World.ownsRow.alloc (World.ownsRow.drew hOl) _) ⟨wr.heap.size, 0, none⟩ 1 1 [.int .i64 hh] (by rfl) rfl (cell_one_new _ _ _) (by simp [Value.oneCell']) (by decide) (by unfold maxLen; omega) (by omega) (by simp; omega) (wr.heap.size + 1) (by simp) ?_; intro g4 cap4 w4 hown4 hgrow4 hat4 hlt4)
                clear dk i1 i2 i3 p0 p0' b0 b0'
                have HL4' := Lib.hid (HLn.out.appL HLd.out.lz hown4 hgrow4 hat4 (by simp))
                have HB4 := Lib.hid (below_mark (HB.out.alloc hBz (.cells #[.int .i64 hh] 2)) (Nat.le_refl _) (HLn.out.ol.alloc _) hgrow4)
                obtain ⟨u, u0, u1, AU⟩ := HAT.out (2 + (k : Int)) (by omega) (by omega)
                obtain ⟨v, v0, v1', AV⟩ := HAT.out (14 + (k : Int)) (by omega) (by omega)
                have i4 := IntWalk.i64_in (2 + (k : Int)) (by omega)
                have i5 := IntWalk.i64_in (14 + (k : Int)) (by omega)
                have i6 := IntWalk.i64_in (hh - u) (by omega)
                have i7 := IntWalk.i64_in (hh + v) (by omega)
                have HLD4 : Hid (Lin w4.drew wo.heap.size (.slice (some ⟨bl, ol, none⟩) n0 k0) v1 v2 (.slice (some ⟨g4, 0, none⟩) (k + 1) cap4) LO HI (Z ++ [hh])) := Lib.hid (HL4'.out.call (by repeat (first | exact Below.refl _ _ | assumption | refine Below.drew ?_ | refine below_drewN ?_ _ | refine Below.alloc ?_ (by first | omega | (simp; done) | (simp; omega)) _ | refine Below.setCell ?_ (by first | omega | (simp; done) | (simp; omega)) _)))
                have HB4z := HB4.out.size
                have HW4 : Hid (Below w.heap.size w w4.drew) := Lib.hid (below_call ha4 HB4.out).drew
                have hOl1 := HLD4.out.o1
                unfold OwnI at hOl1
                rw [HLd.out.l1] at hOl1
                have s1 : w4.cell? ⟨wo.heap.size + 1, 1, none⟩ = some v1 := by rw [cellOf HL4'.out.blk]; rfl
                have s1' : (w4.drew.alloc (.cells #[.int .i64 (hh - u)] 2)).cell? ⟨wo.heap.size + 1, 1, none⟩ = some v1 := keepA s1
                have hLt4 : wo.heap.size + 1 < w4.heap.size := blk_lt HL4'.out.blk
                clear hown4 hgrow4 hat4 hlt4 hOl HL4' hLt HLn HB
                go_wp2_with fail
                go_region_law (first
                  | (refine step_append_lies _ (by rfl) _ _ 24 (by rfl) (wo.heap.size + 1 + 1) 2 i0 (.int .i64 0) 1 8 Try.underlying24 hi0' hi0 hi1 hi2 rfl (by decide) v1 k (LO.map (Value.int .i64)) (by rfl) (World.ownsRow.alloc hOl1 _) ⟨w4.heap.size, 0, none⟩ 1 1 [.int .i64 (hh - u)] (by rfl) rfl (cell_one_new _ _ _) (by simp [Value.oneCell']) (by decide) (by unfold maxLen; omega) (by omega) (by simp; omega) (w4.heap.size + 1) (by simp) ?_; intro g8 cap8 w8 hown8 hgrow8 hat8 hlt8; (have hblk8 := blk_own (blk_alloc HLD4.out.blk) (HLD4.out.o1.alloc _) hgrow8 (Nat.lt_succ_self _)); (have q8 := cellOf hblk8 1); (have qf8 := frozenOf hblk8 1); (simp at q8); clear hblk8)
                  | (go_simp; go_at_call 26; refine (AU.out _ HW4.out).mono ?_; rintro e3 wX ⟨rfl, rfl⟩))
                all_goals
                  have hL5 := HLD4.out.app1 HLd.out.l1 hown8 hgrow8 hat8 (by simp)
                  have HB5 := Lib.hid (below_appS (i := 1) (u := .slice (some ⟨g8, 0, none⟩) (k + 1) cap8) (HB4.out.drew.alloc HB4z (.cells #[.int .i64 (hh - u)] 2)) (Nat.le_refl _) (HLD4.out.o1.alloc _) hgrow8)
                  obtain ⟨w5, hw5⟩ : ∃ w5, w8.setCell ⟨wo.heap.size + 1, 1, none⟩ (.slice (some ⟨g8, 0, none⟩) (k + 1) cap8) = w5 := ⟨_, rfl⟩
                  rw [hw5] at hL5 HB5
                  (try rw [hw5])
                  have HLD5 : Hid (Lin w5.drew wo.heap.size (.slice (some ⟨bl, ol, none⟩) n0 k0) (.slice (some ⟨g8, 0, none⟩) (k + 1) cap8) v2 (.slice (some ⟨g4, 0, none⟩) (k + 1) cap4) (LO ++ [hh - u]) HI (Z ++ [hh])) := Lib.hid (hL5.call (by repeat (first | exact Below.refl _ _ | assumption | refine Below.drew ?_ | refine below_drewN ?_ _ | refine Below.alloc ?_ (by first | omega | (simp; done) | (simp; omega)) _ | refine Below.setCell ?_ (by first | omega | (simp; done) | (simp; omega)) _)))
                  have HB5z := HB5.out.size
                  have HW5 : Hid (Below w.heap.size w w5.drew) := Lib.hid (below_call ha4 HB5.out).drew
                  have hOl2 := HLD5.out.o2
                  unfold OwnI at hOl2
                  rw [HLd.out.l2] at hOl2
                  have s2 : w5.cell? ⟨wo.heap.size + 1, 2, none⟩ = some v2 := by rw [cellOf hL5.blk]; rfl
                  have s2' : (w5.drew.alloc (.cells #[.int .i64 (hh + v)] 2)).cell? ⟨wo.heap.size + 1, 2, none⟩ = some v2 := keepA s2
                  have hLt5 : wo.heap.size + 1 < w5.heap.size := blk_lt hL5.blk
                  clear hown8 hgrow8 hat8 hlt8 hw5 hL5 s1 s1' q8 qf8 hOl1 hLt4 HB4z
                  go_wp2_with fail
                  go_region_law (first
                    | (refine step_append_lies _ (by rfl) _ _ 24 (by rfl) (wo.heap.size + 1 + 1) 2 i0 (.int .i64 0) 1 8 Try.underlying24 hi0' hi0 hi1 hi2 rfl (by decide) v2 k (HI.map (Value.int .i64)) (by rfl) (World.ownsRow.alloc hOl2 _) ⟨w5.heap.size, 0, none⟩ 1 1 [.int .i64 (hh + v)] (by rfl) rfl (cell_one_new _ _ _) (by simp [Value.oneCell']) (by decide) (by unfold maxLen; omega) (by omega) (by simp; omega) (w5.heap.size + 1) (by simp) ?_; intro g9 cap9 w9 hown9 hgrow9 hat9 hlt9; (have hblk9 := blk_own (blk_alloc HLD5.out.blk) (HLD5.out.o2.alloc _) hgrow9 (Nat.lt_succ_self _)); (have q9 := cellOf hblk9 2); (have qf9 := frozenOf hblk9 2); (simp at q9); clear hblk9)
                    | (go_simp; go_at_call 26; refine (AV.out _ HW5.out).mono ?_; rintro e3 wX ⟨rfl, rfl⟩))
                  all_goals
                    have HL6 := Lib.hid (HLD5.out.app2 HLd.out.l2 hown9 hgrow9 hat9 (by simp))
                    have HB6 := Lib.hid (below_appS (i := 2) (u := .slice (some ⟨g9, 0, none⟩) (k + 1) cap9) (HB5.out.drew.alloc HB5z (.cells #[.int .i64 (hh + v)] 2)) (Nat.le_refl _) (HLD5.out.o2.alloc _) hgrow9)
                    have HLd6 := Lib.hid (HLd.out.next HHE.out (by omega) (by omega) u0 u1 v0 v1')
                    clear hown9 hgrow9 hat9 hlt9 hOl2
                    go_wp2
                    go_roundw
                    case rel => exact ⟨k + 1, _, _, _, _, _, _, by omega, rfl, by go_num, HL6.out, HLd6.out, HB6.out⟩
                    case measure => first | (simp [intOf]; done) | (simp [intOf]; omega)
          · have hltI : ¬ (k : Int) ≤ (n0 : Int) := by omega
            have hLd' : Laid ls y c (ls.length + 1) Z LO HI := by
              have e : k = ls.length + 1 := by have := E0.out; omega
              rw [← e]; exact hLd
            obtain ⟨g1, g2, g3, g4, g5, g6, g7⟩ := laid_law HV.out hLd'
            have hlz : 0 < Z.length := by have := hLd'.lz; omega
            have hlz2 : Z.length ≤ 11 := by have := hLd.lz; omega
            have hz0 : -900 ≤ Z.getD 0 0 ∧ Z.getD 0 0 ≤ 900 := by have := hLd'.hz 0 (by omega); omega
            obtain ⟨z0, hze⟩ : ∃ z0, Z.getD 0 0 = z0 := ⟨_, rfl⟩
            rw [hze] at g6 g7 hz0
            have HZE := Lib.hid hze
            clear hze
            obtain ⟨x1, d1, e1⟩ := hLn.o1.shape
            obtain ⟨x2, d2, e2⟩ := hLn.o2.shape
            obtain ⟨x3, d3, e3⟩ := hLn.ol.shape
            subst e1 e2 e3
            obtain ⟨bz, oz, rfl, hbz⟩ := hLn.ol.row.addr hlz
            have HIL := Lib.hid (fun W hW hz => isLine_any (some ⟨bl, ol, none⟩) x1 x2 n0 k0 LO.length d1 HI.length d2 ls LO HI (some ⟨bz, oz, none⟩) Z.length d3 Z 1 W hW hz)
            have HCS := Lib.hid (fun W hW => canStand_any (some ⟨bl, ol, none⟩) x1 x2 n0 k0 LO.length d1 HI.length d2 ls LO HI W hW)
            have HIS := Lib.hid (fun a3 n3 c3 W hW hz => isLine_any (some ⟨bl, ol, none⟩) x1 x2 n0 k0 LO.length d1 HI.length d2 ls LO HI a3 n3 c3 (Z.set 0 (z0 - 2000)) 1 W hW hz)
            rw [g2, g3] at HIL
            rw [g4, g5] at HCS
            rw [g6, g7] at HIS
            have HIB : Hid (IsB (some ⟨bl, ol, none⟩) x1 x2 n0 k0 LO.length d1 HI.length d2 ls LO HI wr) := Lib.hid ⟨HL4.out.below hB, hLn.o1.row, hLn.o2.row⟩
            have HZR := Lib.hid hLn.ol.row
            have HBK := Lib.hid hLn.blk
            have ha5 := below_call ha4 hB
            have s0 := cellOf hLn.blk 0
            have s1 := cellOf hLn.blk 1
            have s2 := cellOf hLn.blk 2
            simp at s0 s1 s2
            clear hLn hLd hLd' hB g1 g2 g3 g4 g5 g6 g7 hlt
            go_wp2_with fail
            clear s0 s1 s2
            refine (HIL.out _ HIB.out HZR.out).mono ?_
            rintro e wa ⟨rfl, hba⟩
            have HIa := Lib.hid (HIB.out.below hba)
            have HZa := Lib.hid (HZR.out.below hba)
            have HKa := Lib.hid (blk_call HBK.out hba)
            have haa := below_call ha5 hba
            have s0 := cellOf HKa.out 0
            have s1 := cellOf HKa.out 1
            have s2 := cellOf HKa.out 2
            simp at s0 s1 s2
            clear hba HIB HZR HBK
            go_wp2_with fail
            clear s0 s1 s2
            refine (HCS.out _ HIa.out).mono ?_
            rintro e wb ⟨rfl, hbb⟩
            have HIb := Lib.hid (HIa.out.below hbb)
            have HZb := Lib.hid (HZa.out.below hbb)
            have HKb := Lib.hid (blk_call HKa.out hbb)
            have hab := below_call haa hbb
            clear hbb HIa HZa HKa
            obtain ⟨wq, hwq⟩ : ∃ wq : World, wq = wb := ⟨_, rfl⟩
            subst hwq
            have HC := Lib.hid (HZb.out.below ((Below.refl _ _).alloc (Nat.le_refl _) (.cells #[] 2))).cellsAt
            go_wp2_with (at_builtin; refine wpList_append_lies _ (by rfl) _ _ 24 (by rfl) wq.heap.size 2 i0 (.int .i64 0) 1 8 Try.underlying24 hi0' hi0 hi1 hi2 rfl (by decide) (.slice (some ⟨wq.heap.size, 0, none⟩) 0 0) 0 [] (by rfl) (ownI_empty wq wq.heap.size (Nat.le_refl _)) ⟨bz, oz, none⟩ Z.length _ (Z.map (Value.int .i64)) (by rfl) (by simp) HC.out (by intro u hu; obtain ⟨n, _, rfl⟩ := List.mem_map.1 hu; rfl) hlz (by unfold maxLen; omega) (by omega) (by simp) (wq.heap.size + 1) (by simp) ?_; intro g4 cap4 w4 hown4 hgrow4 hat4 hlt4; simp only [Nat.zero_add, List.nil_append] at hown4; (have hq4 : w4.cell? ⟨g4, 0, none⟩ = some (.int .i64 (z0)) := by { rw [hown4.cellAt 0 (by omega), List.getElem?_map, ← HZE.out, List.getD_eq_getElem?_getD, List.getElem?_eq_getElem hlz]; rfl }); have hqf4 := hown4.frozenAt 0; have j9 := IntWalk.i64_in (z0 - 2000) (by omega); (have hB4 : Below wq.heap.size wq w4 := below_mark (a := wq) ((Below.refl _ _).alloc (Nat.le_refl _) _) (Nat.le_refl _) (ownI_empty wq wq.heap.size (Nat.le_refl _)) hgrow4); (have hg4 : wq.heap.size ≤ g4 := (World.ownsRow.lt hown4 g4 rfl).1); (have hK4 := blk_call HKb.out hB4); (have s0 := cellOf hK4 0); (have s1 := cellOf hK4 1); (have s2 := cellOf hK4 2); (simp at s0 s1 s2); (have hl9 : wo.heap.size + 1 < wq.heap.size := blk_lt HKb.out); (have hne4 : g4 ≠ wo.heap.size + 1 := by omega); (have hne5 : wo.heap.size + 1 ≠ g4 := by omega); clear hK4)
            clear s0 s1 s2
            have hS4 := (hown4.stored 0 (.int .i64 (z0 - 2000))).1
            have HOS : Hid (OwnI (w4.setCell ⟨g4, 0, none⟩ (.int .i64 (z0 - 2000))) wq.heap.size (.slice (some ⟨g4, 0, none⟩) Z.length cap4) (Z.set 0 (z0 - 2000))) := Lib.hid (by
              unfold OwnI
              rw [List.length_set, List.map_set]
              exact hS4)
            have hB5 : Below wq.heap.size wq (w4.setCell ⟨g4, 0, none⟩ (.int .i64 (z0 - 2000))) := hB4.setCell (p := ⟨g4, 0, none⟩) hg4 _
            have HI5 := Lib.hid (HIb.out.below hB5)
            have HK5 := Lib.hid (blk_call HKb.out hB5)
            have ha6 := below_call hab hB5
            clear hown4 hgrow4 hat4 hlt4 hq4 hqf4 hS4 hB4
            refine (HIS.out _ _ _ _ HI5.out HOS.out.row).mono ?_
            rintro e wz ⟨rfl, hbz'⟩
            have ha7 := below_call ha6 hbz'
            clear hbz'
            go_wp2
            go_ret
            exact ⟨rfl, ha7⟩
/-! ### The row's step: the arguments are opened, the walk is called, the arguments read as before. -/
set_option maxRecDepth 100000 in
set_option maxHeartbeats 1000000 in
set_option linter.unusedVariables false in
theorem lifted_FnLines (os : Os) (started : os.Started) (H : Type) (enc : TypeId × Value → H) :
    ReturnsInHanded {} Try.checked os 8 .any (Rows.fnLinesSpec.pre6 enc Try.prog Try.f8 Rows.fnLinesRow.domain false) (Rows.fnLinesSpec.post enc Try.prog Try.f8 false true false false) := by
  refine returnsInHanded_of_change (C := Try.checked) ownNone started (by kernel_rfl) Try.func8
    (ChangeSpec.witness6 (enc := enc) (C := Try.checked) false ⟨#[], #[.slice none 0 0, .slice none 0 0], []⟩ 8 (by kernel_rfl) (by kernel_rfl) (by kernel_rfl) (by kernel_rfl)) ?_
  intro W base args ds gs before hval0 hW hcnd _
  have hval : ∀ (j : Nat) t v, Try.f8.params[j]? = some t → args[j]? = some v → Value.okWide Try.prog W .any base t v := hval0
  have hW' := hW
  obtain ⟨p, q, hA0, hV, rfl, hfz, hnd⟩ := hW
  have hA : DataW.TrodAll enc Try.prog W 0 (fun _ => true) true Try.f8.params.toList args.toList ds p := hA0
  rw [Try.params8] at hA hval
  obtain ⟨v0, vs0, d0, ds0, p0, q0, hargs, rfl, rfl, h0, r0⟩ := trodAll_cons hA
  obtain ⟨v1, vs1, d1, ds1, p1, q1, rfl, rfl, rfl, h1, r1⟩ := trodAll_cons r0
  obtain ⟨rfl, rfl, rfl⟩ := trodAll_nil r1
  obtain rfl : args = #[v0, v1] := by cases args; simp_all
  obtain ⟨rfl, rfl⟩ := trodVars_none hV
  have k0 := h0
  have lt0 : ∀ x ∈ p0, x.block < W.heap.size := by obtain ⟨m, hm⟩ := k0; exact DataW.trod_lt m _ _ _ hm
  obtain ⟨a0, len0, cap0, rfl⟩ := okWide_slice Try.underlying22 (hval 0 22 v0 rfl rfl)
  obtain ⟨z0, w0⟩ : ∃ zs, IsRow .u8 W a0 len0 cap0 zs := by
    obtain ⟨fuel, hf⟩ := h0
    rcases open_ints Try.underlying22 Try.underlying5 (by kernel_rfl) hf with ⟨hcs, _⟩ | ⟨x, l, c, zs, hcs, _, hl, hm, hz, _, hcell, hwz⟩
    · simp [Value.cells] at hcs
      obtain ⟨rfl, rfl, rfl⟩ := hcs
      exact ⟨[], isRow_nil⟩
    · simp [Value.cells] at hcs
      obtain ⟨rfl, rfl, rfl⟩ := hcs
      exact ⟨zs.take len0, isRow_mk hl hm (by simpa using hz) hcell hwz⟩
  have k1 := h1
  have lt1 : ∀ x ∈ p1, x.block < W.heap.size := by obtain ⟨m, hm⟩ := k1; exact DataW.trod_lt m _ _ _ hm
  obtain ⟨a1, len1, cap1, rfl⟩ := okWide_slice Try.underlying22 (hval 1 22 v1 rfl rfl)
  obtain ⟨z1, w1⟩ : ∃ zs, IsRow .u8 W a1 len1 cap1 zs := by
    obtain ⟨fuel, hf⟩ := h1
    rcases open_ints Try.underlying22 Try.underlying5 (by kernel_rfl) hf with ⟨hcs, _⟩ | ⟨x, l, c, zs, hcs, _, hl, hm, hz, _, hcell, hwz⟩
    · simp [Value.cells] at hcs
      obtain ⟨rfl, rfl, rfl⟩ := hcs
      exact ⟨[], isRow_nil⟩
    · simp [Value.cells] at hcs
      obtain ⟨rfl, rfl, rfl⟩ := hcs
      exact ⟨zs.take len1, isRow_mk hl hm (by simpa using hz) hcell hwz⟩
  clear hA0 hval0
  refine (lines_walk a0 len0 cap0 z0 a1 len1 cap1 z1 W w0 w1).mono fun e W' ⟨he, bel⟩ => ?_
  subst he
  exact ⟨_, rfl, _, _, _, [], _, [], hW', trodAll_mk1 (shut_bool Try.underlying4 _), (trodAll_cons_mk (Below.trod laidOut (by kernel_rfl) (of_decide_eq_true (by kernel_rfl)) k0 bel lt0) (trodAll_cons_mk (Below.trod laidOut (by kernel_rfl) (of_decide_eq_true (by kernel_rfl)) k1 bel lt1) trodAll_mk0)), rfl, bel.frame _, fun h => by cases h⟩

/-- The statement, proved. -/
theorem fnLines_holds : Rows.FnLinesSaid :=
  OpenClaim.holds_of_wide 8 Try.f8 rfl rfl rfl rfl rfl rfl rfl ⟨rfl, rfl, rfl, rfl, rfl⟩ rfl rfl rfl rfl rfl (by kernel_rfl) Try.func8 (by kernel_rfl)
    (of_decide_eq_true (by kernel_rfl)) (by unfold Func.isWrapper; first | (rw [if_pos (by decide +kernel)]; kernel_rfl) | (rw [if_neg (by decide +kernel)]; exact ⟨rfl, rfl⟩))
    (fun os started H enc _ => lifted_FnLines os started H enc)
end Go.Proofs.Ytklhaanapembdaa
