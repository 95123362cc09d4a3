/- Contract of the reference's DarkDiagonals; no old memory turns; condition: the slice can be read. -/
import Derived.Test.YtlkdkidpbjpkhaaDiagP
import Derived.OwnWalk
namespace Go.Proofs.Ytlkdkidpbjpkhaa
open Go.RowKit

set_option maxHeartbeats 400000 in
theorem l00Max_any (a b : Int) (w : World) :
    Calls Try.prog 73 #[.int .i64 a, .int .i64 b] w fun e w' => e = .returned (.int .i64 (mxI a b)) ∧ w = w' := by
  by_cases h : b < a
  · have e : Hid (mxI a b = a) := Lib.hid (by unfold mxI; rw [if_neg (by omega)])
    go_enter Try.func73, Try.ntmps73
    go_wp2
    go_ret
    exact ⟨ret_int e.out.symm, rfl⟩
  · have e : Hid (mxI a b = b) := Lib.hid (by unfold mxI; split <;> omega)
    go_enter Try.func73, Try.ntmps73
    go_wp2
    go_ret
    exact ⟨ret_int e.out.symm, rfl⟩
set_option maxHeartbeats 4000000 in
theorem l14Diagonal_any (st : Int) (hs1 : -1 ≤ st) (hs2 : st ≤ 1) (a : Option Addr) (len cap : Nat) (ss : List ByteArray) (w : World) (h : IsStrs w a len cap ss) (g : patB ss = true) :
    Calls Try.prog 54 #[.slice a len cap, .int .i64 st] w fun e w' => e = .returned (.int .i64 (diG ss st)) ∧ Below w.heap.size w w' := by
  have hl := h.1
  obtain ⟨v1, v2, v3, v4, v5⟩ := patB_t g
  rw [hl] at v1 v2
  have HS := Lib.hid (fun i (hi : i < len) => show (ss.getD i ByteArray.empty).size = patN ss from (v5 i (by rw [hl]; exact hi)).1)
  have HR : Hid (diG ss st = dgY ss st len) := Lib.hid (by unfold diG; rw [hl])
  obtain ⟨b, o, rfl, hb⟩ := h.addr (by omega)
  have HD := Lib.hid (fun i hi => h.same (i := i) hi)
  have hd0 := h.same (i := 0) (by omega)
  simp only [Nat.add_zero] at hd0
  have hz0 : (ss.getD 0 ByteArray.empty).size = patN ss := rfl
  obtain ⟨r0, hr0⟩ : ∃ r, ss.getD 0 ByteArray.empty = r := ⟨_, rfl⟩
  rw [hr0] at hd0 hz0
  have HL := Lib.hid hl
  have HYB := Lib.hid (fun k => dgY_bd (ss := ss) (st := st) v4 k)
  have HXB := Lib.hid (fun y k => dgX_bd (ss := ss) (st := st) (y := y) (b := dgY ss st y) v4 (dgY_bd v4 y) k)
  have HNB := Lib.hid (fun y x => dgN_le ss st y x)
  have HYN := Lib.hid (fun y => show dgY ss st (y + 1) = dgX ss st y (dgY ss st y) (patN ss) from rfl)
  have HXN := Lib.hid (fun y k => show dgX ss st y (dgY ss st y) (k + 1) = mxI (dgX ss st y (dgY ss st y) k) (dgN ss st y k) from rfl)
  have HX0 := Lib.hid (fun y => show dgX ss st y (dgY ss st y) 0 = dgY ss st y from rfl)
  have HN0 := Lib.hid (fun y x => show dgN ss st y x = rn (dgC ss st y x) (patN ss - 0) 0 from rfl)
  have HCA := Lib.hid (fun y x n => dgC_a (ss := ss) (st := st) (y := y) (x := x) (n := n))
  have HCB := Lib.hid (fun y x n => dgC_b (ss := ss) (st := st) (y := y) (x := x) (n := n))
  have HCC := Lib.hid (fun y x n m => dgC_c (ss := ss) (st := st) (y := y) (x := x) (n := n) (m := m))
  generalize patN ss = W at *
  clear h g v5 hl hr0
  rw [HR.out]
  go_enter Try.func54, Try.ntmps54
  go_wp2
  go_loop [5, 6, 7, 8, 9, 10] (fun m y _ _ _ _ => ∃ k : Nat, k ≤ len ∧ y = .int .i64 (k : Int) ∧ m = .int .i64 (dgY ss st k)) (fun _ y _ _ _ _ => (len - intOf y).toNat)
  case atStart => exact ⟨0, by omega, rfl, rfl⟩
  case round =>
    obtain ⟨y, hy, rfl, rfl⟩ := hrel
    by_cases hly : y < len
    · have hly' : (y : Int) < (len : Int) := by omega
      go_wp2
      go_loop [5, 7, 8, 9, 10] (fun m x _ _ _ => ∃ k : Nat, k ≤ W ∧ x = .int .i64 (k : Int) ∧ m = .int .i64 (dgX ss st y (dgY ss st y) k)) (fun _ x _ _ _ => (W - intOf x).toNat)
      case atStart => exact ⟨0, by omega, rfl, by rw [HX0.out]⟩
      case round =>
        obtain ⟨x, hx, rfl, rfl⟩ := hrel
        by_cases hlx : x < W
        · have hlx' : (x : Int) < (W : Int) := by omega
          have hl0 : (0 : Int) < (len : Int) := by omega
          go_wp2
          go_loop [8, 9, 10] (fun n xa yb => ∃ (k c : Nat) (t : Int), k ≤ W ∧ c = x + k ∧ t = (y : Int) + st * (k : Int) ∧ n = .int .i64 (k : Int) ∧ xa = .int .i64 (c : Int) ∧ yb = .int .i64 t ∧ rn (dgC ss st y x) (W - k) k = dgN ss st y x) (fun n _ _ => (W - intOf n).toNat)
          case atStart => exact ⟨0, x, y, by omega, by omega, by simp, rfl, rfl, rfl, (HN0.out y x).symm⟩
          case round =>
            obtain ⟨n, c, t, hn, hc, ht, rfl, rfl, rfl, hr⟩ := hrel
            have hhl := HL.out
            have HC := Lib.hid hc
            have HHL := Lib.hid hhl
            have HT := Lib.hid ht
            have hcW : c < W ↔ x + n < W := by omega
            clear hc hhl ht
            by_cases ga : c < W
            · have ga1 : decide ((c : Int) < (W : Int)) = true := decide_eq_true (by omega)
              by_cases gb : 0 ≤ t
              · have gb1 : decide (0 ≤ t) = true := decide_eq_true gb
                by_cases gc : t < (len : Int)
                · obtain ⟨m, rfl⟩ : ∃ m : Nat, t = (m : Int) := ⟨t.toNat, by omega⟩
                  have hml : m < len := by omega
                  have gc1 : decide ((m : Int) < (len : Int)) = true := decide_eq_true gc
                  have hdm := HD.out m hml
                  have hsm := HS.out m hml
                  have HCC1 := Lib.hid (HCC.out y x n m HT.out.symm)
                  rw [← HC.out, decide_eq_true ga, decide_eq_true (show m < ss.length by rw [HHL.out]; exact hml), Bool.true_and, Bool.true_and] at HCC1
                  generalize ss.getD m ByteArray.empty = rm at *
                  have hcm : c < rm.size := by omega
                  have hcm' : (c : Int) < (rm.size : Int) := by omega
                  rw [byteAt rm c hcm] at HCC1
                  by_cases hx : (rm[c].toNat : Int) = 35
                  · have hnW : n < W := by have := HC.out; omega
                    have e35 : rm[c] = 35 := UInt8.toNat_inj.1 (show rm[c].toNat = (35 : UInt8).toNat by have : (35 : UInt8).toNat = 35 := rfl; omega)
                    have HCT : Hid (dgC ss st y x n = true) := Lib.hid (by rw [HCC1.out]; exact decide_eq_true e35)
                    have t1 : ((rm[c].toNat : Int) == 35) = true := by simpa using hx
                    have HRN := Lib.hid ((rn_yes HCT.out (show n < W by omega)).symm.trans hr)
                    have HT2 : Hid ((m : Int) + st = (y : Int) + st * ((n + 1 : Nat) : Int)) := Lib.hid (by rw [HT.out, show ((n + 1 : Nat) : Int) = (n : Int) + 1 from rfl, Int.mul_add]; omega)
                    clear hx hr e35 hcW
                    go_wp2
                    go_round
                    case rel => exact ⟨n + 1, c + 1, _, by omega, by rw [HC.out]; omega, HT2.out, by go_num, by go_num, rfl, HRN.out⟩
                    case measure => first | (simp [intOf]; done) | (simp [intOf]; omega)
                  · have HCF : Hid (dgC ss st y x n = false) := Lib.hid (by rw [HCC1.out]; exact decide_eq_false (fun e => hx (by rw [e]; rfl)))
                    have t1 : ((rm[c].toNat : Int) == 35) = false := by simpa using hx
                    clear hx hcW
                    have HD2 := Lib.hid (hr.symm.trans (rn_no HCF.out _))
                    have HE := Lib.hid (HXN.out y x)
                    rw [HD2.out] at HE
                    clear hr
                    generalize dgX ss st y (dgY ss st y) x = best at *
                    go_wp2_with fail
                    refine (l00Max_any _ _ _).mono ?_
                    rintro e wq ⟨rfl, rfl⟩
                    go_wp2
                    go_round
                    case rel => exact ⟨x + 1, by omega, by go_num, by rw [HE.out]⟩
                    case measure => first | (simp [intOf]; done) | (simp [intOf]; omega)
                · have gc1 : decide (t < (len : Int)) = false := decide_eq_false gc
                  have HCF := Lib.hid (HCB.out y x n (by rw [← HT.out, HHL.out]; intro hh; omega))
                  clear hcW
                  have HD2 := Lib.hid (hr.symm.trans (rn_no HCF.out _))
                  have HE := Lib.hid (HXN.out y x)
                  rw [HD2.out] at HE
                  clear hr
                  generalize dgX ss st y (dgY ss st y) x = best at *
                  go_wp2_with fail
                  refine (l00Max_any _ _ _).mono ?_
                  rintro e wq ⟨rfl, rfl⟩
                  go_wp2
                  go_round
                  case rel => exact ⟨x + 1, by omega, by go_num, by rw [HE.out]⟩
                  case measure => first | (simp [intOf]; done) | (simp [intOf]; omega)
              · have gb1 : decide (0 ≤ t) = false := decide_eq_false gb
                have HCF := Lib.hid (HCB.out y x n (by rw [← HT.out, HHL.out]; intro hh; omega))
                clear hcW
                have HD2 := Lib.hid (hr.symm.trans (rn_no HCF.out _))
                have HE := Lib.hid (HXN.out y x)
                rw [HD2.out] at HE
                clear hr
                generalize dgX ss st y (dgY ss st y) x = best at *
                go_wp2_with fail
                refine (l00Max_any _ _ _).mono ?_
                rintro e wq ⟨rfl, rfl⟩
                go_wp2
                go_round
                case rel => exact ⟨x + 1, by omega, by go_num, by rw [HE.out]⟩
                case measure => first | (simp [intOf]; done) | (simp [intOf]; omega)
            · have ga1 : decide ((c : Int) < (W : Int)) = false := decide_eq_false (by omega)
              have HCF := Lib.hid (HCA.out y x n (by omega))
              clear hcW
              have HD2 := Lib.hid (hr.symm.trans (rn_no HCF.out _))
              have HE := Lib.hid (HXN.out y x)
              rw [HD2.out] at HE
              clear hr
              generalize dgX ss st y (dgY ss st y) x = best at *
              go_wp2_with fail
              refine (l00Max_any _ _ _).mono ?_
              rintro e wq ⟨rfl, rfl⟩
              go_wp2
              go_round
              case rel => exact ⟨x + 1, by omega, by go_num, by rw [HE.out]⟩
              case measure => first | (simp [intOf]; done) | (simp [intOf]; omega)
        · obtain rfl : x = W := by omega
          go_wp2
          go_round
          case rel => exact ⟨y + 1, by omega, by go_num, by rw [HYN.out]⟩
          case measure => first | (simp [intOf]; done) | (simp [intOf]; omega)
    · obtain rfl : y = len := by omega
      go_wp2
      go_ret
      exact ⟨rfl, Below.refl _ _⟩
set_option maxHeartbeats 400000 in
theorem specDarkDiagonals_any (a : Option Addr) (len cap : Nat) (ss : List ByteArray) (w : World) (h : IsStrs w a len cap ss) :
    Calls Try.prog 23 #[.slice a len cap] w fun e w' => e = .returned (.tuple #[.int .i64 (diU ss), .int .i64 (diD ss), .int .i64 (darkC ss)]) ∧ Below w.heap.size w w' := by
  have H := Lib.hid h
  have HV := Lib.hid (fun W hW => l14Ok_any a len cap ss W hW)
  have e2 := di_no (ss := ss)
  have e3 := di_yes (ss := ss)
  have e4 := dark_no (ss := ss)
  have e5 := dark_yes (ss := ss)
  cases g : patB ss
  · rw [(e2 g).1, (e2 g).2, (e4 g).2]
    rw [g] at HV
    clear h g e2 e3 e4 e5
    go_enter Try.func23, Try.ntmps23
    go_wp2_with fail
    refine (HV.out _ (H.out.below (by repeat (first | exact Below.refl _ _ | assumption | refine Below.drew ?_ | refine below_drewN ?_ _ | refine Below.alloc ?_ (by first | omega | (simp; done) | (simp; omega)) _ | refine Below.setCell ?_ (by first | omega | (simp; done) | (simp; omega)) _)))).mono ?_
    rintro e1 w1 ⟨rfl, hb1⟩
    obtain ⟨hc1, hf1⟩ := bcell hb1
    have hz1 := hb1.size
    try simp at hz1
    have ha1 : Below w.heap.size w w1 := below_call (by repeat (first | exact Below.refl _ _ | assumption | refine Below.drew ?_ | refine below_drewN ?_ _ | refine Below.alloc ?_ (by first | omega | (simp; done) | (simp; omega)) _ | refine Below.setCell ?_ (by first | omega | (simp; done) | (simp; omega)) _)) hb1
    go_wp2
    go_ret3
    exact ⟨rfl, (by repeat (first | exact Below.refl _ _ | assumption | refine Below.drew ?_ | refine below_drewN ?_ _ | refine Below.alloc ?_ (by first | omega | (simp; done) | (simp; omega)) _ | refine Below.setCell ?_ (by first | omega | (simp; done) | (simp; omega)) _))⟩
  · rw [(e3 g).1, (e3 g).2, (e5 g).2]
    have HA := Lib.hid (fun st h1 h2 W hW => l14Diagonal_any st h1 h2 a len cap ss W hW g)
    rw [g] at HV
    clear h g e2 e3 e4 e5
    go_enter Try.func23, Try.ntmps23
    go_wp2_with fail
    refine (HV.out _ (H.out.below (by repeat (first | exact Below.refl _ _ | assumption | refine Below.drew ?_ | refine below_drewN ?_ _ | refine Below.alloc ?_ (by first | omega | (simp; done) | (simp; omega)) _ | refine Below.setCell ?_ (by first | omega | (simp; done) | (simp; omega)) _)))).mono ?_
    rintro e1 w1 ⟨rfl, hb1⟩
    obtain ⟨hc1, hf1⟩ := bcell hb1
    have hz1 := hb1.size
    try simp at hz1
    have ha1 : Below w.heap.size w w1 := below_call (by repeat (first | exact Below.refl _ _ | assumption | refine Below.drew ?_ | refine below_drewN ?_ _ | refine Below.alloc ?_ (by first | omega | (simp; done) | (simp; omega)) _ | refine Below.setCell ?_ (by first | omega | (simp; done) | (simp; omega)) _)) hb1
    go_wp2_with fail
    refine (HA.out _ (by decide) (by decide) _ (H.out.below (by repeat (first | exact Below.refl _ _ | assumption | refine Below.drew ?_ | refine below_drewN ?_ _ | refine Below.alloc ?_ (by first | omega | (simp; done) | (simp; omega)) _ | refine Below.setCell ?_ (by first | omega | (simp; done) | (simp; omega)) _)))).mono ?_
    rintro e2 w2 ⟨rfl, hb2⟩
    have hy2 := hb2.size
    replace hb2 := below_call hb1 hb2
    clear hc1 hf1
    obtain ⟨hc2, hf2⟩ := bcell hb2
    have hz2 := hb2.size
    try simp at hz2
    have ha2 : Below w.heap.size w w2 := below_call (by repeat (first | exact Below.refl _ _ | assumption | refine Below.drew ?_ | refine below_drewN ?_ _ | refine Below.alloc ?_ (by first | omega | (simp; done) | (simp; omega)) _ | refine Below.setCell ?_ (by first | omega | (simp; done) | (simp; omega)) _)) hb2
    go_wp2_with fail
    refine (HA.out _ (by decide) (by decide) _ (H.out.below (by repeat (first | exact Below.refl _ _ | assumption | refine Below.drew ?_ | refine below_drewN ?_ _ | refine Below.alloc ?_ (by first | omega | (simp; done) | (simp; omega)) _ | refine Below.setCell ?_ (by first | omega | (simp; done) | (simp; omega)) _)))).mono ?_
    rintro e3 w3 ⟨rfl, hb3⟩
    have hy3 := hb3.size
    replace hb3 := below_call hb2 hb3
    clear hc2 hf2
    obtain ⟨hc3, hf3⟩ := bcell hb3
    have hz3 := hb3.size
    try simp at hz3
    have ha3 : Below w.heap.size w w3 := below_call (by repeat (first | exact Below.refl _ _ | assumption | refine Below.drew ?_ | refine below_drewN ?_ _ | refine Below.alloc ?_ (by first | omega | (simp; done) | (simp; omega)) _ | refine Below.setCell ?_ (by first | omega | (simp; done) | (simp; omega)) _)) hb3
    go_wp2
    go_ret3
    exact ⟨rfl, (by repeat (first | exact Below.refl _ _ | assumption | refine Below.drew ?_ | refine below_drewN ?_ _ | refine Below.alloc ?_ (by first | omega | (simp; done) | (simp; omega)) _ | refine Below.setCell ?_ (by first | omega | (simp; done) | (simp; omega)) _))⟩
end Go.Proofs.Ytlkdkidpbjpkhaa
