/- Contracts of LeastTile, program and reference; no old memory turns; condition: the slice can be read. -/
import Derived.Test.YtlkdkidpbjpkhaaTiP
namespace Go.Proofs.Ytlkdkidpbjpkhaa
set_option linter.unusedVariables false
open Go.RowKit

set_option maxRecDepth 100000 in
set_option maxHeartbeats 4000000 in
theorem leastTile_any (a : Option Addr) (len cap : Nat) (ss : List ByteArray) (w : World) (h : IsStrs w a len cap ss) :
    Calls Try.prog 36 #[.slice a len cap] w (NewSC w (tiI ss) (darkC ss)) := by
  have H := Lib.hid h
  have HV := Lib.hid (fun W hW => validPattern_any a len cap ss W hW)
  have e4 := dark_no (ss := ss)
  have e5 := dark_yes (ss := ss)
  cases g : patB ss
  · rw [ti_no g, (e4 g).2]
    rw [g] at HV
    clear h g e4 e5
    go_enter Try.func36, Try.ntmps36
    go_wp2_with fail
    refine (HV.out _ (H.out.below (by repeat (first | exact Below.refl _ _ | assumption | refine Below.drew ?_ | refine below_drewN ?_ _ | refine Below.alloc ?_ (by first | omega | (simp; done) | (simp; omega)) _ | refine Below.setCell ?_ (by first | omega | (simp; done) | (simp; omega)) _)))).mono ?_
    rintro e1 w1 ⟨rfl, hb1⟩
    obtain ⟨hc1, hf1⟩ := bcell hb1
    have hz1 := hb1.size
    try simp at hz1
    have ha1 : Below w.heap.size w w1 := below_call (by repeat (first | exact Below.refl _ _ | assumption | refine Below.drew ?_ | refine below_drewN ?_ _ | refine Below.alloc ?_ (by first | omega | (simp; done) | (simp; omega)) _ | refine Below.setCell ?_ (by first | omega | (simp; done) | (simp; omega)) _)) hb1
    go_wp2
    go_ret2
    exact newSC_mk (ownS_nil _ _) nil_size (by repeat (first | exact Below.refl _ _ | assumption | refine Below.drew ?_ | refine below_drewN ?_ _ | refine Below.alloc ?_ (by first | omega | (simp; done) | (simp; omega)) _ | refine Below.setCell ?_ (by first | omega | (simp; done) | (simp; omega)) _))
  · rw [ti_yes g, (e5 g).2]
    have hl := h.1
    have hcap := h.2.1
    have hcapm := h.2.2.1
    unfold maxLen at hcapm
    obtain ⟨v1, v2, v3, v4, v5⟩ := patB_t g
    obtain ⟨b1, b2⟩ := tiW_bd g
    obtain ⟨b3, b4⟩ := tiH_bd g
    have HW0 : Hid (rn (fun n => !cW ss n) (patN ss - 1) 1 = tiW ss) := Lib.hid rfl
    have HH0 : Hid (rn (fun n => !cH ss n) (ss.length - 1) 1 = tiH ss) := Lib.hid rfl
    have cWNO := Lib.hid (fun n hn hI hc => tiW_no g (n := n) hn hI hc)
    have cHNO := Lib.hid (fun n hn hI hc => tiH_no g (n := n) hn hI hc)
    have cWYES := Lib.hid (fun n hI hc => tiW_yes (ss := ss) (n := n) hI hc)
    have cHYES := Lib.hid (fun n hI hc => tiH_yes (ss := ss) (n := n) hI hc)
    have cWA := Lib.hid (fun n hh => cW_a (ss := ss) (n := n) hh)
    have cHA := Lib.hid (fun n hh => cH_a (ss := ss) (n := n) hh)
    have cWB := Lib.hid (fun n hh => cW_b (ss := ss) (n := n) hh)
    have cHB := Lib.hid (fun n hh => cH_b (ss := ss) (n := n) hh)
    have HSZ := Lib.hid (tiL_size ss (tiW ss) (tiH ss) (by omega))
    have HTN := Lib.hid (fun k => tiL_next ss (tiW ss) k)
    have HTL := Lib.hid (fun k => tiL_len ss (tiW ss) k)
    have HSH := Lib.hid (fun r u W hW => shifted_any a len cap ss r u W hW g)
    have HSHL := Lib.hid (fun r u => (shL_len ss r u).trans hl)
    have HSHS := Lib.hid (fun r u => shL_size g r u)
    have HSAME := Lib.hid (fun r u => same_is g rfl (fun y hy => (v5 y hy).1) r u)
    have HCALL : Hid (∀ (_ _ : Int) (W : World), IsStrs W a len cap ss → IsStrs W a len cap ss → True) := Lib.hid (fun _ _ _ _ _ => trivial)
    have HS := Lib.hid (fun i (hi : i < len) => show (ss.getD i ByteArray.empty).size = patN ss from (v5 i (by rw [hl]; exact hi)).1)
    rw [hl] at v1 v2 b4
    rw [hl] at HH0
    simp only [hl] at cHNO cHYES cHA cHB
    obtain ⟨b, o, rfl, hb⟩ := h.addr (by omega)
    have HD := Lib.hid (fun i hi => h.same (i := i) hi)
    have hd0 := h.same (i := 0) (by omega)
    simp only [Nat.add_zero] at hd0
    have hz0 : (ss.getD 0 ByteArray.empty).size = patN ss := rfl
    generalize ss.getD 0 ByteArray.empty = r0 at hd0 hz0
    have hl0 : (0 : Int) < (len : Int) := by omega
    generalize tiW ss = TW at *
    generalize tiH ss = TH at *
    generalize patN ss = W at *
    obtain ⟨i0, hi, hi0, hi1, hi2⟩ := info_parts info_str
    rw [g] at HV
    clear h g v5 hl e4 e5
    go_enter Try.func36, Try.ntmps36
    go_wp2_with fail
    refine (HV.out _ (H.out.below (by repeat (first | exact Below.refl _ _ | assumption | refine Below.drew ?_ | refine below_drewN ?_ _ | refine Below.alloc ?_ (by first | omega | (simp; done) | (simp; omega)) _ | refine Below.setCell ?_ (by first | omega | (simp; done) | (simp; omega)) _)))).mono ?_
    rintro e1 w1 ⟨rfl, hb1⟩
    obtain ⟨hc1, hf1⟩ := bcell hb1
    have hz1 := hb1.size
    try simp at hz1
    have ha1 : Below w.heap.size w w1 := below_call (by repeat (first | exact Below.refl _ _ | assumption | refine Below.drew ?_ | refine below_drewN ?_ _ | refine Below.alloc ?_ (by first | omega | (simp; done) | (simp; omega)) _ | refine Below.setCell ?_ (by first | omega | (simp; done) | (simp; omega)) _)) hb1
    go_wp2_with fail
    go_loopw [4] (fun i wr => ∃ n : Nat, 1 ≤ n ∧ n ≤ W ∧ i = .int .i64 (n : Int) ∧ rn (fun n => !cW ss n) (W - n) n = TW ∧ Below w.heap.size w wr) (fun i _ => (W - intOf i).toNat)
    case atStart => exact ⟨1, by omega, by omega, rfl, HW0.out, ha1⟩
    case round =>
      obtain ⟨n, hn1, hn2, rfl, hI, hB⟩ := hrel
      have HI := Lib.hid hI
      have HB := Lib.hid hB
      have hd := keep1 hB hd0
      have hn0 : ¬ (n : Int) = 0 := by omega
      have hnb : (n : Int) ≤ 24 := by omega
      have hrm := rem_nat W n
      have HBQ := Lib.hid (fun e => cWB.out n e)
      obtain ⟨v, hv⟩ : ∃ v : Nat, W % n = v := ⟨_, rfl⟩
      rw [hv] at hrm
      have HV := Lib.hid hv
      have hvb : (v : Int) ≤ 24 := by have := Nat.mod_le W n; omega
      clear hI hB hv
      by_cases hz : v = 0
      · have y1 : ((v : Int) != 0) = false := by simp; omega
        have HIS := Lib.hid (fun W hW hW' => HCALL.out (n : Int) 0 W hW hW')
        have HCQ := Lib.hid (HBQ.out (by rw [HV.out]; exact hz))
        clear hz
        cases hq : isB ss ss (n : Int) 0
        · have HQ := Lib.hid hq
          obtain ⟨h1, h2⟩ := cWNO.out n hn2 HI.out (HCQ.out.trans hq)
          have HI2 := Lib.hid h2
          clear hq h2
          go_wp2_with fail
          refine (HSH.out (n : Int) 0 _ (H.out.below HB.out)).mono ?_
          rintro e w2 ⟨x, c, rfl, hOx, hb2⟩
          rw [HSHL.out] at hOx ⊢
          have hX := hOx.row (HSHS.out (n : Int) 0)
          have hY := (H.out.below HB.out).below hb2
          go_wp2_with fail
          refine (sEqual_any _ _ _ _ _ _ _ _ _ hX hY).mono ?_
          rintro e w3 ⟨rfl, hb3⟩
          rw [HSAME.out, HQ.out]
          have HB3 := Lib.hid (below_call (below_call HB.out hb2) hb3)
          clear hX hY hOx hb2 hb3
          go_wp2
          go_roundw
          case rel => exact ⟨n + 1, by omega, h1, by go_num, HI2.out, HB3.out⟩
          case measure => first | (simp [intOf]; done) | (simp [intOf]; omega)
        · have HQ := Lib.hid hq
          have HE := Lib.hid (cWYES.out n HI.out (HCQ.out.trans hq))
          clear hq
          go_wp2_with fail
          refine (HSH.out (n : Int) 0 _ (H.out.below HB.out)).mono ?_
          rintro e w2 ⟨x, c, rfl, hOx, hb2⟩
          rw [HSHL.out] at hOx ⊢
          have hX := hOx.row (HSHS.out (n : Int) 0)
          have hY := (H.out.below HB.out).below hb2
          go_wp2_with fail
          refine (sEqual_any _ _ _ _ _ _ _ _ _ hX hY).mono ?_
          rintro e w3 ⟨rfl, hb3⟩
          rw [HSAME.out, HQ.out]
          have HB3 := Lib.hid (below_call (below_call HB.out hb2) hb3)
          clear hX hY hOx hb2 hb3
          obtain rfl : TW = n := HE.out.symm
          have HBW := Lib.hid HB3.out
          go_wp2_with fail
          go_loopw [5] (fun i wr => ∃ n : Nat, 1 ≤ n ∧ n ≤ len ∧ i = .int .i64 (n : Int) ∧ rn (fun n => !cH ss n) (len - n) n = TH ∧ Below w.heap.size w wr) (fun i _ => (len - intOf i).toNat)
          case atStart => exact ⟨1, by omega, by omega, rfl, HH0.out, HBW.out⟩
          case round =>
            obtain ⟨n, hn1, hn2, rfl, hI, hB⟩ := hrel
            have HI := Lib.hid hI
            have HB := Lib.hid hB
            have hd := keep1 hB hd0
            have hn0 : ¬ (n : Int) = 0 := by omega
            have hnb : (n : Int) ≤ 24 := by omega
            have hrm := rem_nat len n
            have HBQ := Lib.hid (fun e => cHB.out n e)
            obtain ⟨v, hv⟩ : ∃ v : Nat, len % n = v := ⟨_, rfl⟩
            rw [hv] at hrm
            have HV := Lib.hid hv
            have hvb : (v : Int) ≤ 24 := by have := Nat.mod_le len n; omega
            clear hI hB hv
            by_cases hz : v = 0
            · have y1 : ((v : Int) != 0) = false := by simp; omega
              have HIS := Lib.hid (fun W hW hW' => HCALL.out 0 (n : Int) W hW hW')
              have HCQ := Lib.hid (HBQ.out (by rw [HV.out]; exact hz))
              clear hz
              cases hq : isB ss ss 0 (n : Int)
              · have HQ := Lib.hid hq
                obtain ⟨h1, h2⟩ := cHNO.out n hn2 HI.out (HCQ.out.trans hq)
                have HI2 := Lib.hid h2
                clear hq h2
                go_wp2_with fail
                refine (HSH.out 0 (n : Int) _ (H.out.below HB.out)).mono ?_
                rintro e w2 ⟨x, c, rfl, hOx, hb2⟩
                rw [HSHL.out] at hOx ⊢
                have hX := hOx.row (HSHS.out 0 (n : Int))
                have hY := (H.out.below HB.out).below hb2
                go_wp2_with fail
                refine (sEqual_any _ _ _ _ _ _ _ _ _ hX hY).mono ?_
                rintro e w3 ⟨rfl, hb3⟩
                rw [HSAME.out, HQ.out]
                have HB3 := Lib.hid (below_call (below_call HB.out hb2) hb3)
                clear hX hY hOx hb2 hb3
                go_wp2
                go_roundw
                case rel => exact ⟨n + 1, by omega, h1, by go_num, HI2.out, HB3.out⟩
                case measure => first | (simp [intOf]; done) | (simp [intOf]; omega)
              · have HQ := Lib.hid hq
                have HE := Lib.hid (cHYES.out n HI.out (HCQ.out.trans hq))
                clear hq
                go_wp2_with fail
                refine (HSH.out 0 (n : Int) _ (H.out.below HB.out)).mono ?_
                rintro e w2 ⟨x, c, rfl, hOx, hb2⟩
                rw [HSHL.out] at hOx ⊢
                have hX := hOx.row (HSHS.out 0 (n : Int))
                have hY := (H.out.below HB.out).below hb2
                go_wp2_with fail
                refine (sEqual_any _ _ _ _ _ _ _ _ _ hX hY).mono ?_
                rintro e w3 ⟨rfl, hb3⟩
                rw [HSAME.out, HQ.out]
                have HB3 := Lib.hid (below_call (below_call HB.out hb2) hb3)
                clear hX hY hOx hb2 hb3
                obtain rfl : TH = n := HE.out.symm
                have HBH := Lib.hid HB3.out
                have hTc : (TH : Int) ≤ (cap : Int) := by omega
                have hT0 : (0 : Int) ≤ (TH : Int) := by omega
                go_wp2_with fail
                go_loopw [6, 49] (fun os i wr => ∃ (y : Nat) (vo : Value), y ≤ TH ∧ vo = os ∧ i = .int .i64 (y : Int) ∧ OwnS wr w.heap.size vo (tiL ss TW y) ∧ Below w.heap.size w wr) (fun _ i _ => (TH - intOf i).toNat)
                case atStart => exact ⟨0, _, by omega, rfl, rfl, ownS_empty _ _ HBH.out.size, (Below.alloc HBH.out HBH.out.size _)⟩
                case round =>
                  obtain ⟨y, vo, hy, rfl, rfl, hO, hB⟩ := hrel
                  by_cases hly : y < TH
                  · have hly' : (y : Int) < (TH : Int) := by omega
                    have hyl : y < len := by omega
                    have hyl' : (y : Int) < (len : Int) := by omega
                    have hc := keep1 hB (HD.out y hyl)
                    have hsr := HS.out y hyl
                    have HN := Lib.hid (HTN.out y)
                    have HLK := Lib.hid (HTL.out y)
                    generalize tiL ss TW y = P at *
                    generalize ss.getD y ByteArray.empty = row at *
                    have hOl := hO
                    unfold OwnS at hOl
                    rw [HLK.out] at hOl
                    have HB5 := Lib.hid hB
                    have hB5z := hB.size
                    have htr : TW ≤ row.size := by omega
                    have htr' : (TW : Int) ≤ (W : Int) := by omega
                    clear hO hB
                    go_wp2_with (at_builtin; refine wpList_append_new _ rfl _ _ 22 rfl _ 9 i0 (.string ByteArray.empty) 1 16 Try.underlying22 hi hi0 hi1 hi2 rfl (by decide) _ _ _ rfl (World.ownsRow.alloc hOl _) ⟨wr.heap.size, 0, none⟩ 1 1 [.string (row.extract 0 TW)] rfl rfl (cell_one_new _ _ _) (by simp [Value.oneCell']) (by unfold maxLen; omega) (by omega) (by first | omega | (simp; done) | (simp; omega)) (by decide) ?_; intro v' w1' hown1 hgrow1 hnew1)
                    have hOn := OwnS.snoc hown1 (by rw [HLK.out])
                    rw [← HN.out] at hOn
                    have HOn := Lib.hid hOn
                    have HBn := Lib.hid (below_row (HB5.out.alloc hB5z _) (Nat.le_refl _) (World.ownsRow.alloc hOl _) hgrow1)
                    clear hown1 hgrow1 hnew1 hOn hOl
                    go_wp2
                    go_roundw
                    case rel => exact ⟨y + 1, _, by omega, rfl, by go_num, HOn.out, HBn.out⟩
                    case measure => first | (simp [intOf]; done) | (simp [intOf]; omega)
                  · obtain rfl : y = TH := by omega
                    have HO := Lib.hid hO
                    have HB5 := Lib.hid hB
                    clear hO hB
                    go_wp2
                    go_ret2
                    exact newSC_mk HO.out HSZ.out HB5.out
            · have y1 : ((v : Int) != 0) = true := by simp; omega
              obtain ⟨h1, h2⟩ := cHNO.out n hn2 HI.out (cHA.out n (by rw [HV.out]; exact hz))
              have HI2 := Lib.hid h2
              clear hz h2
              go_wp2
              go_roundw
              case rel => exact ⟨n + 1, by omega, h1, by go_num, HI2.out, HB.out⟩
              case measure => first | (simp [intOf]; done) | (simp [intOf]; omega)
      · have y1 : ((v : Int) != 0) = true := by simp; omega
        obtain ⟨h1, h2⟩ := cWNO.out n hn2 HI.out (cWA.out n (by rw [HV.out]; exact hz))
        have HI2 := Lib.hid h2
        clear hz h2
        go_wp2
        go_roundw
        case rel => exact ⟨n + 1, by omega, h1, by go_num, HI2.out, HB.out⟩
        case measure => first | (simp [intOf]; done) | (simp [intOf]; omega)
set_option maxRecDepth 100000 in
set_option maxHeartbeats 4000000 in
theorem specLeastTile_any (a : Option Addr) (len cap : Nat) (ss : List ByteArray) (w : World) (h : IsStrs w a len cap ss) :
    Calls Try.prog 35 #[.slice a len cap] w (NewSC w (tiI ss) (darkC ss)) := by
  have H := Lib.hid h
  have HV := Lib.hid (fun W hW => l14Ok_any a len cap ss W hW)
  have e4 := dark_no (ss := ss)
  have e5 := dark_yes (ss := ss)
  cases g : patB ss
  · rw [ti_no g, (e4 g).2]
    rw [g] at HV
    clear h g e4 e5
    go_enter Try.func35, Try.ntmps35
    go_wp2_with fail
    refine (HV.out _ (H.out.below (by repeat (first | exact Below.refl _ _ | assumption | refine Below.drew ?_ | refine below_drewN ?_ _ | refine Below.alloc ?_ (by first | omega | (simp; done) | (simp; omega)) _ | refine Below.setCell ?_ (by first | omega | (simp; done) | (simp; omega)) _)))).mono ?_
    rintro e1 w1 ⟨rfl, hb1⟩
    obtain ⟨hc1, hf1⟩ := bcell hb1
    have hz1 := hb1.size
    try simp at hz1
    have ha1 : Below w.heap.size w w1 := below_call (by repeat (first | exact Below.refl _ _ | assumption | refine Below.drew ?_ | refine below_drewN ?_ _ | refine Below.alloc ?_ (by first | omega | (simp; done) | (simp; omega)) _ | refine Below.setCell ?_ (by first | omega | (simp; done) | (simp; omega)) _)) hb1
    go_wp2
    go_ret2
    exact newSC_mk (ownS_nil _ _) nil_size (by repeat (first | exact Below.refl _ _ | assumption | refine Below.drew ?_ | refine below_drewN ?_ _ | refine Below.alloc ?_ (by first | omega | (simp; done) | (simp; omega)) _ | refine Below.setCell ?_ (by first | omega | (simp; done) | (simp; omega)) _))
  · rw [ti_yes g, (e5 g).2]
    have hl := h.1
    have hcap := h.2.1
    have hcapm := h.2.2.1
    unfold maxLen at hcapm
    obtain ⟨v1, v2, v3, v4, v5⟩ := patB_t g
    obtain ⟨b1, b2⟩ := tiW_bd g
    obtain ⟨b3, b4⟩ := tiH_bd g
    have HW0 : Hid (rn (fun n => !cW ss n) (patN ss - 1) 1 = tiW ss) := Lib.hid rfl
    have HH0 : Hid (rn (fun n => !cH ss n) (ss.length - 1) 1 = tiH ss) := Lib.hid rfl
    have cWNO := Lib.hid (fun n hn hI hc => tiW_no g (n := n) hn hI hc)
    have cHNO := Lib.hid (fun n hn hI hc => tiH_no g (n := n) hn hI hc)
    have cWYES := Lib.hid (fun n hI hc => tiW_yes (ss := ss) (n := n) hI hc)
    have cHYES := Lib.hid (fun n hI hc => tiH_yes (ss := ss) (n := n) hI hc)
    have cWA := Lib.hid (fun n hh => cW_a (ss := ss) (n := n) hh)
    have cHA := Lib.hid (fun n hh => cH_a (ss := ss) (n := n) hh)
    have cWB := Lib.hid (fun n hh => cW_b (ss := ss) (n := n) hh)
    have cHB := Lib.hid (fun n hh => cH_b (ss := ss) (n := n) hh)
    have HSZ := Lib.hid (tiL_size ss (tiW ss) (tiH ss) (by omega))
    have HTN := Lib.hid (fun k => tiL_next ss (tiW ss) k)
    have HTL := Lib.hid (fun k => tiL_len ss (tiW ss) k)
    have HCALL0 := Lib.hid (fun r u W hW hW' h1 h2 h3 h4 => l14Is_any a a len cap cap ss ss r u W hW hW' g (fun y hy => (v5 y hy).1) h1 h2 h3 h4)
    have HS := Lib.hid (fun i (hi : i < len) => show (ss.getD i ByteArray.empty).size = patN ss from (v5 i (by rw [hl]; exact hi)).1)
    rw [hl] at v1 v2 b4
    rw [hl] at HH0
    simp only [hl] at cHNO cHYES cHA cHB
    obtain ⟨b, o, rfl, hb⟩ := h.addr (by omega)
    have HD := Lib.hid (fun i hi => h.same (i := i) hi)
    have hd0 := h.same (i := 0) (by omega)
    simp only [Nat.add_zero] at hd0
    have hz0 : (ss.getD 0 ByteArray.empty).size = patN ss := rfl
    generalize ss.getD 0 ByteArray.empty = r0 at hd0 hz0
    have hl0 : (0 : Int) < (len : Int) := by omega
    generalize tiW ss = TW at *
    generalize tiH ss = TH at *
    generalize patN ss = W at *
    obtain ⟨i0, hi, hi0, hi1, hi2⟩ := info_parts info_str
    rw [g] at HV
    clear h g v5 hl e4 e5
    go_enter Try.func35, Try.ntmps35
    go_wp2_with fail
    refine (HV.out _ (H.out.below (by repeat (first | exact Below.refl _ _ | assumption | refine Below.drew ?_ | refine below_drewN ?_ _ | refine Below.alloc ?_ (by first | omega | (simp; done) | (simp; omega)) _ | refine Below.setCell ?_ (by first | omega | (simp; done) | (simp; omega)) _)))).mono ?_
    rintro e1 w1 ⟨rfl, hb1⟩
    obtain ⟨hc1, hf1⟩ := bcell hb1
    have hz1 := hb1.size
    try simp at hz1
    have ha1 : Below w.heap.size w w1 := below_call (by repeat (first | exact Below.refl _ _ | assumption | refine Below.drew ?_ | refine below_drewN ?_ _ | refine Below.alloc ?_ (by first | omega | (simp; done) | (simp; omega)) _ | refine Below.setCell ?_ (by first | omega | (simp; done) | (simp; omega)) _)) hb1
    go_wp2_with fail
    go_loopw [6] (fun i wr => ∃ n : Nat, 1 ≤ n ∧ n ≤ W ∧ i = .int .i64 (n : Int) ∧ rn (fun n => !cW ss n) (W - n) n = TW ∧ Below w.heap.size w wr) (fun i _ => (W - intOf i).toNat)
    case atStart => exact ⟨1, by omega, by omega, rfl, HW0.out, ha1⟩
    case round =>
      obtain ⟨n, hn1, hn2, rfl, hI, hB⟩ := hrel
      have HI := Lib.hid hI
      have HB := Lib.hid hB
      have hd := keep1 hB hd0
      have hn0 : ¬ (n : Int) = 0 := by omega
      have hnb : (n : Int) ≤ 24 := by omega
      have hrm := rem_nat W n
      have HBQ := Lib.hid (fun e => cWB.out n e)
      obtain ⟨v, hv⟩ : ∃ v : Nat, W % n = v := ⟨_, rfl⟩
      rw [hv] at hrm
      have HV := Lib.hid hv
      have hvb : (v : Int) ≤ 24 := by have := Nat.mod_le W n; omega
      clear hI hB hv
      by_cases hz : v = 0
      · have y1 : ((v : Int) != 0) = false := by simp; omega
        have HIS := Lib.hid (fun W hW hW' => HCALL0.out (n : Int) 0 W hW hW' (by omega) (by omega) (by omega) (by omega))
        have HCQ := Lib.hid (HBQ.out (by rw [HV.out]; exact hz))
        clear hz
        cases hq : isB ss ss (n : Int) 0
        · have HQ := Lib.hid hq
          obtain ⟨h1, h2⟩ := cWNO.out n hn2 HI.out (HCQ.out.trans hq)
          have HI2 := Lib.hid h2
          clear hq h2
          go_wp2_with fail
          refine (HIS.out _ (H.out.below HB.out) (H.out.below HB.out)).mono ?_
          rintro e w3 ⟨rfl, hb3⟩
          rw [HQ.out]
          have HB3 := Lib.hid (below_call HB.out hb3)
          clear hb3
          go_wp2
          go_roundw
          case rel => exact ⟨n + 1, by omega, h1, by go_num, HI2.out, HB3.out⟩
          case measure => first | (simp [intOf]; done) | (simp [intOf]; omega)
        · have HQ := Lib.hid hq
          have HE := Lib.hid (cWYES.out n HI.out (HCQ.out.trans hq))
          clear hq
          go_wp2_with fail
          refine (HIS.out _ (H.out.below HB.out) (H.out.below HB.out)).mono ?_
          rintro e w3 ⟨rfl, hb3⟩
          rw [HQ.out]
          have HB3 := Lib.hid (below_call HB.out hb3)
          clear hb3
          obtain rfl : TW = n := HE.out.symm
          have HBW := Lib.hid HB3.out
          go_wp2_with fail
          go_loopw [7] (fun i wr => ∃ n : Nat, 1 ≤ n ∧ n ≤ len ∧ i = .int .i64 (n : Int) ∧ rn (fun n => !cH ss n) (len - n) n = TH ∧ Below w.heap.size w wr) (fun i _ => (len - intOf i).toNat)
          case atStart => exact ⟨1, by omega, by omega, rfl, HH0.out, HBW.out⟩
          case round =>
            obtain ⟨n, hn1, hn2, rfl, hI, hB⟩ := hrel
            have HI := Lib.hid hI
            have HB := Lib.hid hB
            have hd := keep1 hB hd0
            have hn0 : ¬ (n : Int) = 0 := by omega
            have hnb : (n : Int) ≤ 24 := by omega
            have hrm := rem_nat len n
            have HBQ := Lib.hid (fun e => cHB.out n e)
            obtain ⟨v, hv⟩ : ∃ v : Nat, len % n = v := ⟨_, rfl⟩
            rw [hv] at hrm
            have HV := Lib.hid hv
            have hvb : (v : Int) ≤ 24 := by have := Nat.mod_le len n; omega
            clear hI hB hv
            by_cases hz : v = 0
            · have y1 : ((v : Int) != 0) = false := by simp; omega
              have HIS := Lib.hid (fun W hW hW' => HCALL0.out 0 (n : Int) W hW hW' (by omega) (by omega) (by omega) (by omega))
              have HCQ := Lib.hid (HBQ.out (by rw [HV.out]; exact hz))
              clear hz
              cases hq : isB ss ss 0 (n : Int)
              · have HQ := Lib.hid hq
                obtain ⟨h1, h2⟩ := cHNO.out n hn2 HI.out (HCQ.out.trans hq)
                have HI2 := Lib.hid h2
                clear hq h2
                go_wp2_with fail
                refine (HIS.out _ (H.out.below HB.out) (H.out.below HB.out)).mono ?_
                rintro e w3 ⟨rfl, hb3⟩
                rw [HQ.out]
                have HB3 := Lib.hid (below_call HB.out hb3)
                clear hb3
                go_wp2
                go_roundw
                case rel => exact ⟨n + 1, by omega, h1, by go_num, HI2.out, HB3.out⟩
                case measure => first | (simp [intOf]; done) | (simp [intOf]; omega)
              · have HQ := Lib.hid hq
                have HE := Lib.hid (cHYES.out n HI.out (HCQ.out.trans hq))
                clear hq
                go_wp2_with fail
                refine (HIS.out _ (H.out.below HB.out) (H.out.below HB.out)).mono ?_
                rintro e w3 ⟨rfl, hb3⟩
                rw [HQ.out]
                have HB3 := Lib.hid (below_call HB.out hb3)
                clear hb3
                obtain rfl : TH = n := HE.out.symm
                have HBH := Lib.hid HB3.out
                have hTc : (TH : Int) ≤ (cap : Int) := by omega
                have hT0 : (0 : Int) ≤ (TH : Int) := by omega
                go_wp2_with fail
                go_loopw [8, 9] (fun os i wr => ∃ (y : Nat) (vo : Value), y ≤ TH ∧ vo = os ∧ i = .int .i64 (y : Int) ∧ OwnS wr w.heap.size vo (tiL ss TW y) ∧ Below w.heap.size w wr) (fun _ i _ => (TH - intOf i).toNat)
                case atStart => exact ⟨0, _, by omega, rfl, rfl, ownS_empty _ _ HBH.out.size, (Below.alloc HBH.out HBH.out.size _)⟩
                case round =>
                  obtain ⟨y, vo, hy, rfl, rfl, hO, hB⟩ := hrel
                  by_cases hly : y < TH
                  · have hly' : (y : Int) < (TH : Int) := by omega
                    have hyl : y < len := by omega
                    have hyl' : (y : Int) < (len : Int) := by omega
                    have hc := keep1 hB (HD.out y hyl)
                    have hsr := HS.out y hyl
                    have HN := Lib.hid (HTN.out y)
                    have HLK := Lib.hid (HTL.out y)
                    generalize tiL ss TW y = P at *
                    generalize ss.getD y ByteArray.empty = row at *
                    have hOl := hO
                    unfold OwnS at hOl
                    rw [HLK.out] at hOl
                    have HB5 := Lib.hid hB
                    have hB5z := hB.size
                    have htr : TW ≤ row.size := by omega
                    have htr' : (TW : Int) ≤ (W : Int) := by omega
                    clear hO hB
                    go_wp2_with (at_builtin; refine wpList_append_new _ rfl _ _ 22 rfl _ 9 i0 (.string ByteArray.empty) 1 16 Try.underlying22 hi hi0 hi1 hi2 rfl (by decide) _ _ _ rfl (World.ownsRow.alloc hOl _) ⟨wr.heap.size, 0, none⟩ 1 1 [.string (row.extract 0 TW)] rfl rfl (cell_one_new _ _ _) (by simp [Value.oneCell']) (by unfold maxLen; omega) (by omega) (by first | omega | (simp; done) | (simp; omega)) (by decide) ?_; intro v' w1' hown1 hgrow1 hnew1)
                    have hOn := OwnS.snoc hown1 (by rw [HLK.out])
                    rw [← HN.out] at hOn
                    have HOn := Lib.hid hOn
                    have HBn := Lib.hid (below_row (HB5.out.alloc hB5z _) (Nat.le_refl _) (World.ownsRow.alloc hOl _) hgrow1)
                    clear hown1 hgrow1 hnew1 hOn hOl
                    go_wp2
                    go_roundw
                    case rel => exact ⟨y + 1, _, by omega, rfl, by go_num, HOn.out, HBn.out⟩
                    case measure => first | (simp [intOf]; done) | (simp [intOf]; omega)
                  · obtain rfl : y = TH := by omega
                    have HO := Lib.hid hO
                    have HB5 := Lib.hid hB
                    clear hO hB
                    go_wp2
                    go_ret2
                    exact newSC_mk HO.out HSZ.out HB5.out
            · have y1 : ((v : Int) != 0) = true := by simp; omega
              obtain ⟨h1, h2⟩ := cHNO.out n hn2 HI.out (cHA.out n (by rw [HV.out]; exact hz))
              have HI2 := Lib.hid h2
              clear hz h2
              go_wp2
              go_roundw
              case rel => exact ⟨n + 1, by omega, h1, by go_num, HI2.out, HB.out⟩
              case measure => first | (simp [intOf]; done) | (simp [intOf]; omega)
      · have y1 : ((v : Int) != 0) = true := by simp; omega
        obtain ⟨h1, h2⟩ := cWNO.out n hn2 HI.out (cWA.out n (by rw [HV.out]; exact hz))
        have HI2 := Lib.hid h2
        clear hz h2
        go_wp2
        go_roundw
        case rel => exact ⟨n + 1, by omega, h1, by go_num, HI2.out, HB.out⟩
        case measure => first | (simp [intOf]; done) | (simp [intOf]; omega)
end Go.Proofs.Ytlkdkidpbjpkhaa
