/- Contract of the program's DarkDiagonals; no old memory turns; condition: the slice can be read. -/
import Derived.Test.YtlkdkidpbjpkhaaDiagS
namespace Go.Proofs.Ytlkdkidpbjpkhaa
open Go.RowKit

theorem iter_below (w : World) (s : ByteArray) (p : Nat) : Below w.heap.size w (w.iter s p) := (Below.refl _ _).alloc (Nat.le_refl _) _
theorem mxI_max (x y : Int) : mxI x y = max x y := by unfold mxI; split <;> omega
theorem patC_ascii {c : UInt8} (h : patC c = true) : c.toNat < 128 := by
  unfold patC at h
  simp only [Bool.or_eq_true, decide_eq_true_eq] at h
  rcases h with rfl | rfl <;> decide
set_option maxHeartbeats 4000000 in
theorem diagonal_any (st : Int) (hs1 : -1 ≤ st) (hs2 : st ≤ 1) (a : Option Addr) (len cap : Nat) (ss : List ByteArray) (w : World) (h : IsStrs w a len cap ss) (g : patB ss = true) :
    Calls Try.prog 55 #[.slice a len cap, .int .i64 st] w fun e w' => e = .returned (.int .i64 (diG ss st)) ∧ Below w.heap.size w w' := by
  have hl := h.1
  obtain ⟨v1, v2, v3, v4, v5⟩ := patB_t g
  have HAS := Lib.hid (fun x (hx : x < (ss.getD 0 ByteArray.empty).size) => patC_ascii (byteAt _ x hx ▸ onlyB_t (v5 0 (by omega)).2 x hx))
  rw [hl] at v1 v2
  have HS := Lib.hid (fun i (hi : i < len) => show (ss.getD i ByteArray.empty).size = patN ss from (v5 i (by rw [hl]; exact hi)).1)
  have HR : Hid (diG ss st = dgY ss st len) := Lib.hid (by unfold diG; rw [hl])
  obtain ⟨b, o, rfl, hb⟩ := h.addr (by omega)
  have HD := Lib.hid (fun i hi => h.same (i := i) hi)
  have hd0 := h.same (i := 0) (by omega)
  simp only [Nat.add_zero] at hd0
  have hz0 : (ss.getD 0 ByteArray.empty).size = patN ss := rfl
  generalize hr0 : ss.getD 0 ByteArray.empty = r0 at hd0 hz0 HAS
  have HL := Lib.hid hl
  have HYB := Lib.hid (fun k => dgY_bd (ss := ss) (st := st) v4 k)
  have HXB := Lib.hid (fun y k => dgX_bd (ss := ss) (st := st) (y := y) (b := dgY ss st y) v4 (dgY_bd v4 y) k)
  have HYN := Lib.hid (fun y => show dgY ss st (y + 1) = dgX ss st y (dgY ss st y) (patN ss) from rfl)
  have HXN := Lib.hid (fun y k => show dgX ss st y (dgY ss st y) (k + 1) = mxI (dgX ss st y (dgY ss st y) k) (dgN ss st y k) from rfl)
  have HX0 := Lib.hid (fun y => show dgX ss st y (dgY ss st y) 0 = dgY ss st y from rfl)
  have HN0 := Lib.hid (fun y x => show dgN ss st y x = rn (dgC ss st y x) (patN ss - 0) 0 from rfl)
  have HCA := Lib.hid (fun y x n => dgC_a (ss := ss) (st := st) (y := y) (x := x) (n := n))
  have HCB := Lib.hid (fun y x n => dgC_b (ss := ss) (st := st) (y := y) (x := x) (n := n))
  have HCC := Lib.hid (fun y x n m => dgC_c (ss := ss) (st := st) (y := y) (x := x) (n := n) (m := m))
  generalize patN ss = W at *
  clear h g v5 hl hr0
  rw [HR.out]
  go_enter Try.func55, Try.ntmps55
  go_wp2
  go_loopw [5, 12] (fun m y wr => ∃ k : Nat, k ≤ len ∧ y = .int .i64 (k : Int) ∧ m = .int .i64 (dgY ss st k) ∧ Below w.heap.size w wr) (fun _ y _ => (len - intOf y).toNat)
  case atStart => exact ⟨0, by omega, rfl, rfl, Below.refl _ _⟩
  case round =>
    obtain ⟨y, hy, rfl, rfl, hB⟩ := hrel
    by_cases hly : y < len
    · have hly' : (y : Int) < (len : Int) := by omega
      have hl0 : (0 : Int) < (len : Int) := by omega
      obtain ⟨wo, rfl⟩ : ∃ wo : World, wo = wr := ⟨_, rfl⟩
      have HB := Lib.hid hB
      have hdo := keep1 hB hd0
      clear hB
      go_wp2
      clear hdo
      go_loopw [5] (fun m wr => ∃ k : Nat, k ≤ W ∧ wr = wo.iter r0 k ∧ m = .int .i64 (dgX ss st y (dgY ss st y) k)) (fun _ wr => W - wr.iterPos wo.heap.size)
      case atStart => exact ⟨0, by omega, rfl, by rw [HX0.out]⟩
      case round =>
        obtain ⟨x, hx, rfl, rfl⟩ := hrel
        by_cases hlx : x < W
        · have hlx' : x < r0.size := by omega
          have hnx : ∀ ty, (Instr.next (.pointer (some ⟨wo.heap.size, 0, none⟩)) true ty).run Try.prog (wo.iter r0 x) = _ := fun ty => run_next_ascii wo r0 x ty hlx' (HAS.out x hlx')
          have HBI := Lib.hid (below_call HB.out (iter_below wo r0 (x + 1)))
          obtain ⟨wi, hwi⟩ : ∃ wi, wo.iter r0 (x + 1) = wi := ⟨_, rfl⟩
          rw [hwi] at hnx HBI
          have HWI := Lib.hid hwi
          clear hwi
          go_wp2_with fail
          clear hnx
          have hdi := keep1 HBI.out hd0
          go_loop [8] (fun n => ∃ k : Nat, k ≤ W ∧ n = .int .i64 (k : Int) ∧ rn (dgC ss st y x) (W - k) k = dgN ss st y x) (fun n => (W - intOf n).toNat)
          case atStart => exact ⟨0, by omega, rfl, (HN0.out y x).symm⟩
          case round =>
            obtain ⟨n, hn, rfl, hr⟩ := hrel
            obtain ⟨c, hc⟩ : ∃ c : Nat, x + n = c := ⟨_, rfl⟩
            have HC := Lib.hid hc
            have hcs : (x : Int) + (n : Int) = (c : Int) := by omega
            obtain ⟨i1, i2⟩ := st_bd hs1 hs2 (n := n) (by omega)
            have hi1 := IntWalk.i64_in (st * (n : Int)) (by omega)
            obtain ⟨t, hts⟩ : ∃ t : Int, (y : Int) + st * (n : Int) = t := ⟨_, rfl⟩
            have HT := Lib.hid hts
            have hct : 0 ≤ (c : Int) ∧ (c : Int) ≤ 48 := by omega
            have htt : -48 ≤ t ∧ t ≤ 48 := by omega
            obtain ⟨hct1, hct2⟩ := hct
            obtain ⟨htt1, htt2⟩ := htt
            have hnb : (n : Int) ≤ 24 := by omega
            clear hc
            by_cases ga : c < W
            · by_cases gb : t < 0
              · have HCF := Lib.hid (HCB.out y x n (by rw [HT.out, HL.out]; omega))
                have HD2 := Lib.hid (hr.symm.trans (rn_no HCF.out _))
                have HE := Lib.hid (HXN.out y x)
                rw [HD2.out] at HE
                clear hr
                generalize dgX ss st y (dgY ss st y) x = best at *
                go_wp2
                go_roundw
                case rel => exact ⟨x + 1, by omega, HWI.out.symm, by rw [HE.out, mxI_max]⟩
                case measure => (try rw [← HWI.out]); simp; omega
              · by_cases gc : (len : Int) ≤ t
                · have HCF := Lib.hid (HCB.out y x n (by rw [HT.out, HL.out]; omega))
                  have HD2 := Lib.hid (hr.symm.trans (rn_no HCF.out _))
                  have HE := Lib.hid (HXN.out y x)
                  rw [HD2.out] at HE
                  clear hr
                  generalize dgX ss st y (dgY ss st y) x = best at *
                  go_wp2
                  go_roundw
                  case rel => exact ⟨x + 1, by omega, HWI.out.symm, by rw [HE.out, mxI_max]⟩
                  case measure => (try rw [← HWI.out]); simp; omega
                · obtain ⟨m, rfl⟩ : ∃ m : Nat, t = (m : Int) := ⟨t.toNat, by omega⟩
                  have hml : m < len := by omega
                  have hml' : (m : Int) < (len : Int) := by omega
                  have hdm := keep1 HBI.out (HD.out m hml)
                  have hsm := HS.out m hml
                  have HCC1 := Lib.hid (HCC.out y x n m HT.out)
                  rw [HC.out, decide_eq_true ga, decide_eq_true (show m < ss.length by rw [HL.out]; exact hml), Bool.true_and, Bool.true_and] at HCC1
                  generalize ss.getD m ByteArray.empty = rm at *
                  have hcm : c < rm.size := by omega
                  rw [byteAt rm c hcm] at HCC1
                  by_cases hx : (rm[c].toNat : Int) = 35
                  · have hnW : n < W := by have := HC.out; omega
                    have e35 : rm[c] = 35 := UInt8.toNat_inj.1 (show rm[c].toNat = (35 : UInt8).toNat by have : (35 : UInt8).toNat = 35 := rfl; omega)
                    have HCT : Hid (dgC ss st y x n = true) := Lib.hid (by rw [HCC1.out]; exact decide_eq_true e35)
                    have t1 : ((rm[c].toNat : Int) != 35) = false := by simpa using hx
                    have HRN := Lib.hid ((rn_yes HCT.out hnW).symm.trans hr)
                    clear hx hr e35
                    go_wp2
                    go_round
                    case rel => exact ⟨n + 1, by omega, by go_num, HRN.out⟩
                    case measure => first | (simp [intOf]; done) | (simp [intOf]; omega)
                  · have HCF : Hid (dgC ss st y x n = false) := Lib.hid (by rw [HCC1.out]; exact decide_eq_false (fun e => hx (by rw [e]; rfl)))
                    have t1 : ((rm[c].toNat : Int) != 35) = true := by simpa using hx
                    clear hx
                    have HD2 := Lib.hid (hr.symm.trans (rn_no HCF.out _))
                    have HE := Lib.hid (HXN.out y x)
                    rw [HD2.out] at HE
                    clear hr
                    generalize dgX ss st y (dgY ss st y) x = best at *
                    go_wp2
                    go_roundw
                    case rel => exact ⟨x + 1, by omega, HWI.out.symm, by rw [HE.out, mxI_max]⟩
                    case measure => (try rw [← HWI.out]); simp; omega
            · have HCF := Lib.hid (HCA.out y x n (by rw [HC.out]; exact ga))
              have HD2 := Lib.hid (hr.symm.trans (rn_no HCF.out _))
              have HE := Lib.hid (HXN.out y x)
              rw [HD2.out] at HE
              clear hr
              generalize dgX ss st y (dgY ss st y) x = best at *
              go_wp2
              go_roundw
              case rel => exact ⟨x + 1, by omega, HWI.out.symm, by rw [HE.out, mxI_max]⟩
              case measure => (try rw [← HWI.out]); simp; omega
        · obtain rfl : x = W := by omega
          have hnx : ∀ ty, (Instr.next (.pointer (some ⟨wo.heap.size, 0, none⟩)) true ty).run Try.prog (wo.iter r0 x) = _ := fun ty => run_next_end wo r0 x ty (by omega)
          go_wp2
          go_roundw
          case rel => exact ⟨y + 1, by omega, by go_num, by rw [HYN.out], below_call HB.out (iter_below _ _ _)⟩
          case measure => first | (simp [intOf]; done) | (simp [intOf]; omega)
    · obtain rfl : y = len := by omega
      go_wp2
      go_ret
      exact ⟨rfl, hB⟩
set_option maxHeartbeats 400000 in
theorem darkDiagonals_any (a : Option Addr) (len cap : Nat) (ss : List ByteArray) (w : World) (h : IsStrs w a len cap ss) :
    Calls Try.prog 24 #[.slice a len cap] w fun e w' => e = .returned (.tuple #[.int .i64 (diU ss), .int .i64 (diD ss), .int .i64 (darkC ss)]) ∧ Below w.heap.size w w' := by
  have H := Lib.hid h
  have HV := Lib.hid (fun W hW => validPattern_any a len cap ss W hW)
  have e2 := di_no (ss := ss)
  have e3 := di_yes (ss := ss)
  have e4 := dark_no (ss := ss)
  have e5 := dark_yes (ss := ss)
  cases g : patB ss
  · rw [(e2 g).1, (e2 g).2, (e4 g).2]
    rw [g] at HV
    clear h g e2 e3 e4 e5
    go_enter Try.func24, Try.ntmps24
    go_wp2_with fail
    refine (HV.out _ (H.out.below (by repeat (first | exact Below.refl _ _ | assumption | refine Below.drew ?_ | refine below_drewN ?_ _ | refine Below.alloc ?_ (by first | omega | (simp; done) | (simp; omega)) _ | refine Below.setCell ?_ (by first | omega | (simp; done) | (simp; omega)) _)))).mono ?_
    rintro e1 w1 ⟨rfl, hb1⟩
    obtain ⟨hc1, hf1⟩ := bcell hb1
    have hz1 := hb1.size
    try simp at hz1
    have ha1 : Below w.heap.size w w1 := below_call (by repeat (first | exact Below.refl _ _ | assumption | refine Below.drew ?_ | refine below_drewN ?_ _ | refine Below.alloc ?_ (by first | omega | (simp; done) | (simp; omega)) _ | refine Below.setCell ?_ (by first | omega | (simp; done) | (simp; omega)) _)) hb1
    go_wp2
    go_ret3
    exact ⟨rfl, (by repeat (first | exact Below.refl _ _ | assumption | refine Below.drew ?_ | refine below_drewN ?_ _ | refine Below.alloc ?_ (by first | omega | (simp; done) | (simp; omega)) _ | refine Below.setCell ?_ (by first | omega | (simp; done) | (simp; omega)) _))⟩
  · rw [(e3 g).1, (e3 g).2, (e5 g).2]
    have HA := Lib.hid (fun st h1 h2 W hW => diagonal_any st h1 h2 a len cap ss W hW g)
    rw [g] at HV
    clear h g e2 e3 e4 e5
    go_enter Try.func24, Try.ntmps24
    go_wp2_with fail
    refine (HV.out _ (H.out.below (by repeat (first | exact Below.refl _ _ | assumption | refine Below.drew ?_ | refine below_drewN ?_ _ | refine Below.alloc ?_ (by first | omega | (simp; done) | (simp; omega)) _ | refine Below.setCell ?_ (by first | omega | (simp; done) | (simp; omega)) _)))).mono ?_
    rintro e1 w1 ⟨rfl, hb1⟩
    obtain ⟨hc1, hf1⟩ := bcell hb1
    have hz1 := hb1.size
    try simp at hz1
    have ha1 : Below w.heap.size w w1 := below_call (by repeat (first | exact Below.refl _ _ | assumption | refine Below.drew ?_ | refine below_drewN ?_ _ | refine Below.alloc ?_ (by first | omega | (simp; done) | (simp; omega)) _ | refine Below.setCell ?_ (by first | omega | (simp; done) | (simp; omega)) _)) hb1
    go_wp2_with fail
    refine (HA.out _ (by decide) (by decide) _ (H.out.below (by repeat (first | exact Below.refl _ _ | assumption | refine Below.drew ?_ | refine below_drewN ?_ _ | refine Below.alloc ?_ (by first | omega | (simp; done) | (simp; omega)) _ | refine Below.setCell ?_ (by first | omega | (simp; done) | (simp; omega)) _)))).mono ?_
    rintro e2 w2 ⟨rfl, hb2⟩
    have hy2 := hb2.size
    replace hb2 := below_call hb1 hb2
    clear hc1 hf1
    obtain ⟨hc2, hf2⟩ := bcell hb2
    have hz2 := hb2.size
    try simp at hz2
    have ha2 : Below w.heap.size w w2 := below_call (by repeat (first | exact Below.refl _ _ | assumption | refine Below.drew ?_ | refine below_drewN ?_ _ | refine Below.alloc ?_ (by first | omega | (simp; done) | (simp; omega)) _ | refine Below.setCell ?_ (by first | omega | (simp; done) | (simp; omega)) _)) hb2
    go_wp2_with fail
    refine (HA.out _ (by decide) (by decide) _ (H.out.below (by repeat (first | exact Below.refl _ _ | assumption | refine Below.drew ?_ | refine below_drewN ?_ _ | refine Below.alloc ?_ (by first | omega | (simp; done) | (simp; omega)) _ | refine Below.setCell ?_ (by first | omega | (simp; done) | (simp; omega)) _)))).mono ?_
    rintro e3 w3 ⟨rfl, hb3⟩
    have hy3 := hb3.size
    replace hb3 := below_call hb2 hb3
    clear hc2 hf2
    obtain ⟨hc3, hf3⟩ := bcell hb3
    have hz3 := hb3.size
    try simp at hz3
    have ha3 : Below w.heap.size w w3 := below_call (by repeat (first | exact Below.refl _ _ | assumption | refine Below.drew ?_ | refine below_drewN ?_ _ | refine Below.alloc ?_ (by first | omega | (simp; done) | (simp; omega)) _ | refine Below.setCell ?_ (by first | omega | (simp; done) | (simp; omega)) _)) hb3
    go_wp2
    go_ret3
    exact ⟨rfl, (by repeat (first | exact Below.refl _ _ | assumption | refine Below.drew ?_ | refine below_drewN ?_ _ | refine Below.alloc ?_ (by first | omega | (simp; done) | (simp; omega)) _ | refine Below.setCell ?_ (by first | omega | (simp; done) | (simp; omega)) _))⟩
end Go.Proofs.Ytlkdkidpbjpkhaa
