/- Contracts of the reference's l14Mod, l14Is, l14Find, ShiftsKept and FindShift; no old memory turns; condition: the slices can be read. -/
import Derived.Test.YtlkdkidpbjpkhaaShF
namespace Go.Proofs.Ytlkdkidpbjpkhaa
set_option linter.unusedVariables false
open Go.RowKit

set_option maxHeartbeats 400000 in
theorem l14Mod_any (a n : Int) (w : World) (hn : 0 < n) (hn' : n ≤ 24) :
    Calls Try.prog 74 #[.int .i64 a, .int .i64 n] w fun e w' => e = .returned (.int .i64 (a % n)) ∧ w = w' := by
  have m1 := modT a n hn
  obtain ⟨m7, m8⟩ := rem_ok (a := a) (n := n) hn hn'
  have hn0 : ¬ n = 0 := by omega
  go_enter Try.func74, Try.ntmps74
  go_wp2
  go_ret
  exact ⟨rfl, rfl⟩
theorem hd_zero {l : List (Nat × Nat)} (h : hdB l = false) : hdR l = 0 ∧ hdU l = 0 := by
  cases l with
  | nil => exact ⟨rfl, rfl⟩
  | cons p t => cases h
theorem byte_ne {c d : UInt8} (h : ¬ c = d) : ((c.toNat : Int) != (d.toNat : Int)) = true := by
  have : c.toNat ≠ d.toNat := fun e => h (UInt8.toNat_inj.1 e)
  simp; omega
theorem byte_eq {c d : UInt8} (h : c = d) : ((c.toNat : Int) != (d.toNat : Int)) = false := by subst h; simp
set_option maxRecDepth 100000 in
set_option maxHeartbeats 4000000 in
theorem l14Is_any (a a' : Option Addr) (len cap cap' : Nat) (xs ys : List ByteArray) (r u : Int) (w : World) (h : IsStrs w a len cap xs) (h' : IsStrs w a' len cap' ys) (g : patB xs = true) (hw : ∀ y, y < xs.length → (ys.getD y ByteArray.empty).size = patN xs) (hr1 : -1000 ≤ r) (hr2 : r ≤ 1000) (hu1 : -1000 ≤ u) (hu2 : u ≤ 1000) :
    Calls Try.prog 56 #[.slice a len cap, .slice a' len cap', .int .i64 r, .int .i64 u] w fun e w' => e = .returned (.bool (isB xs ys r u)) ∧ Below w.heap.size w w' := by
  have hl := h.1
  obtain ⟨v1, v2, v3, v4, v5⟩ := patB_t g
  rw [hl] at v1 v2
  have HNO := Lib.hid (fun y x hy hx => isB_no (a := xs) (b := ys) (r := r) (u := u) (y := y) (x := x) (by rw [hl]; exact hy) hx)
  have HYES := Lib.hid (fun (hh : ∀ y x, y < len → x < patN xs → shB xs r u y x = (ys.getD y ByteArray.empty).data.toList.getD x 0) => isB_mk (a := xs) (b := ys) (r := r) (u := u) (fun y x hy hx => hh y x (by rw [hl] at hy; exact hy) hx))
  have HSB := Lib.hid (fun y x => show shB xs r u y x = (xs.getD (((y : Int) - u) % (xs.length : Int)).toNat ByteArray.empty).data.toList.getD (((x : Int) - r) % (patN xs : Int)).toNat 0 from rfl)
  rw [hl] at HSB
  obtain ⟨b, o, rfl, hb⟩ := h.addr (by omega)
  obtain ⟨b', o', rfl, hb'⟩ := h'.addr (by omega)
  have HD := Lib.hid (fun i hi => h.same (i := i) hi)
  have HD' := Lib.hid (fun i hi => h'.same (i := i) hi)
  have hd0 := h.same (i := 0) (by omega)
  simp only [Nat.add_zero] at hd0
  have hz0 : (xs.getD 0 ByteArray.empty).size = patN xs := rfl
  generalize xs.getD 0 ByteArray.empty = r0 at hd0 hz0
  have HS := Lib.hid (fun i (hi : i < len) => show (xs.getD i ByteArray.empty).size = patN xs from (v5 i (by rw [hl]; exact hi)).1)
  have HS' := Lib.hid (fun i (hi : i < len) => show (ys.getD i ByteArray.empty).size = patN xs from hw i (by rw [hl]; exact hi))
  generalize patN xs = W at *
  clear h h' g v5 hl hw
  go_enter Try.func56, Try.ntmps56
  go_wp2_with fail
  go_loopw [11, 12, 13] (fun i _ _ wr => ∃ y : Nat, y ≤ len ∧ i = .int .i64 (y : Int) ∧ (∀ y' x', y' < y → x' < W → shB xs r u y' x' = (ys.getD y' ByteArray.empty).data.toList.getD x' 0) ∧ Below w.heap.size w wr) (fun i _ _ _ => (len - intOf i).toNat)
  case atStart => exact ⟨0, by omega, rfl, fun y' x' hy' => by omega, (by repeat (first | exact Below.refl _ _ | assumption | refine Below.drew ?_ | refine below_drewN ?_ _ | refine Below.alloc ?_ (by first | omega | (simp; done) | (simp; omega)) _ | refine Below.setCell ?_ (by first | omega | (simp; done) | (simp; omega)) _))⟩
  case round =>
    obtain ⟨y, hy, rfl, hI, hB⟩ := hrel
    by_cases hly : y < len
    · have hly' : (y : Int) < (len : Int) := by omega
      have hl0 : (0 : Int) < (len : Int) := by omega
      obtain ⟨n1, n2⟩ := modN (a := (y : Int) - u) (n := (len : Int)) (by omega)
      obtain ⟨m, hm⟩ : ∃ m : Nat, ((y : Int) - u) % (len : Int) = (m : Int) := ⟨(((y : Int) - u) % (len : Int)).toNat, by omega⟩
      have hml : m < len := by omega
      have hml' : (m : Int) < (len : Int) := by omega
      have HMM := Lib.hid (fun W' => l14Mod_any ((y : Int) - u) (len : Int) W' (by omega) (by omega))
      have HSBy := Lib.hid (HSB.out y)
      rw [hm] at HMM HSBy
      have HMT : Hid (((m : Nat) : Int).toNat = m) := Lib.hid (by omega)
      rw [HMT.out] at HSBy
      have hsm := HS.out m hml
      have hsy := HS'.out y hly
      have hdm0 := HD.out m hml
      have hdy0 := HD'.out y hly
      generalize xs.getD m ByteArray.empty = row at *
      have HNOy := Lib.hid (fun x => HNO.out y x hly)
      have HI := Lib.hid hI
      generalize hyr : ys.getD y ByteArray.empty = yr at *
      have HYR := Lib.hid hyr
      have hdm := keep1 hB hdm0
      have HB := Lib.hid hB
      clear hm n1 n2 hI hyr hB
      go_wp2_with fail
      refine (HMM.out _).mono ?_
      rintro e w1 ⟨rfl, rfl⟩
      go_wp2_with fail
      clear hdm
      go_loopw [13] (fun i wr => ∃ x : Nat, x ≤ W ∧ i = .int .i64 (x : Int) ∧ (∀ x', x' < x → shB xs r u y x' = yr.data.toList.getD x' 0) ∧ Below w.heap.size w wr) (fun i _ => (W - intOf i).toNat)
      case atStart => exact ⟨0, by omega, rfl, fun x' hx' => by omega, HB.out⟩
      case round =>
        clear HB
        obtain ⟨x, hx, rfl, hJ, hB⟩ := hrel
        by_cases hlx : x < W
        · have hlx' : (x : Int) < (W : Int) := by omega
          obtain ⟨n1, n2⟩ := modN (a := (x : Int) - r) (n := (W : Int)) (by omega)
          obtain ⟨q, hq⟩ : ∃ q : Nat, ((x : Int) - r) % (W : Int) = (q : Int) := ⟨(((x : Int) - r) % (W : Int)).toNat, by omega⟩
          have hqr : q < row.size := by omega
          have hqr' : (q : Int) < (W : Int) := by omega
          have hxy : x < yr.size := by omega
          have HMX := Lib.hid (fun W' => l14Mod_any ((x : Int) - r) (W : Int) W' (by omega) (by omega))
          have HSBx := Lib.hid (HSBy.out x)
          rw [hq] at HMX HSBx
          have HQT : Hid (((q : Nat) : Int).toNat = q) := Lib.hid (by omega)
          rw [HQT.out, byteAt row q hqr] at HSBx
          have HNOx := Lib.hid (fun hh => HNOy.out x hlx hh)
          have HBY := Lib.hid (byteAt yr x hxy)
          rw [HBY.out, HSBx.out] at HNOx
          have hdm := keep1 hB hdm0
          have hdy := keep1 hB hdy0
          have HJ := Lib.hid hJ
          have HB := Lib.hid hB
          have i1 := IntWalk.i64_in ((x : Int) - r) (by omega)
          clear hq n1 n2 hJ hB
          by_cases hc : row[q] = yr[x]
          · have t1 := byte_eq hc
            have HJ2 : Hid (∀ x', x' < x + 1 → shB xs r u y x' = yr.data.toList.getD x' 0) := Lib.hid (fun x' hx' => by
              rcases Nat.lt_succ_iff_lt_or_eq.1 hx' with h | rfl
              · exact HJ.out x' h
              · rw [HSBx.out, HBY.out]; exact hc)
            clear hc
            go_wp2_with fail
            go_quiet ((go_at_call 74; exact Calls.quiet_of_same ((HMX.out _).mono fun _ _ h => ⟨h.1, h.2.symm⟩)))
            go_wp2
            go_roundw
            case rel => exact ⟨x + 1, by omega, by go_num, HJ2.out, below_drewN HB.out _⟩
            case measure => first | (simp [intOf]; done) | (simp [intOf]; omega)
          · have t1 := byte_ne hc
            have HF := Lib.hid (HNOx.out hc)
            clear hc
            go_wp2_with fail
            go_quiet ((go_at_call 74; exact Calls.quiet_of_same ((HMX.out _).mono fun _ _ h => ⟨h.1, h.2.symm⟩)))
            go_wp2
            go_ret
            exact ⟨ret_bool HF.out.symm, below_drewN HB.out _⟩
        · obtain rfl : x = W := by omega
          have HI2 : Hid (∀ y' x', y' < y + 1 → x' < x → shB xs r u y' x' = (ys.getD y' ByteArray.empty).data.toList.getD x' 0) := Lib.hid (fun y' x' hy' hx' => by
            rcases Nat.lt_succ_iff_lt_or_eq.1 hy' with h | rfl
            · exact HI.out y' x' h hx'
            · rw [HYR.out]; exact hJ x' hx')
          have HB := Lib.hid hB
          clear hJ hB
          go_wp2
          go_roundw
          case rel => exact ⟨y + 1, by omega, by go_num, HI2.out, HB.out⟩
          case measure => first | (simp [intOf]; done) | (simp [intOf]; omega)
    · obtain rfl : y = len := by omega
      have HF := Lib.hid (HYES.out (fun y x hy hx => hI y x hy hx))
      have HB := Lib.hid hB
      clear hI hB
      go_wp2
      go_ret
      exact ⟨ret_bool HF.out.symm, HB.out⟩
set_option maxHeartbeats 4000000 in
theorem l14Find_any (a a' : Option Addr) (len cap cap' : Nat) (xs ys : List ByteArray) (w : World) (h : IsStrs w a len cap xs) (h' : IsStrs w a' len cap' ys) (g : patB xs = true) (hw : ∀ y, y < xs.length → (ys.getD y ByteArray.empty).size = patN xs) :
    Calls Try.prog 62 #[.slice a len cap, .slice a' len cap'] w fun e w' => e = .returned (.tuple #[.int .i64 (hdR (fL xs ys)), .int .i64 (hdU (fL xs ys)), .bool (hdB (fL xs ys))]) ∧ Below w.heap.size w w' := by
  have hl := h.1
  obtain ⟨v1, v2, v3, v4, v5⟩ := patB_t g
  rw [hl] at v1 v2
  have HIS := Lib.hid (fun r u W hW hW' h1 h2 h3 h4 => l14Is_any a a' len cap cap' xs ys r u W hW hW' g hw h1 h2 h3 h4)
  obtain ⟨b, o, rfl, hb⟩ := h.addr (by omega)
  have hd0 := h.same (i := 0) (by omega)
  simp only [Nat.add_zero] at hd0
  have hz0 : (xs.getD 0 ByteArray.empty).size = patN xs := rfl
  generalize xs.getD 0 ByteArray.empty = r0 at hd0 hz0
  have H := Lib.hid h
  have H' := Lib.hid h'
  have HF : Hid (fL xs ys = fU xs ys len) := Lib.hid (by unfold fL; rw [hl])
  have HUN := Lib.hid (fun u => show fU xs ys (u + 1) = fR xs ys u (fU xs ys u) (patN xs) from rfl)
  have HRN := Lib.hid (fun u r => show fR xs ys u (fU xs ys u) (r + 1) = if isB xs ys (r : Int) (u : Int) = true then fR xs ys u (fU xs ys u) r ++ [(r, u)] else fR xs ys u (fU xs ys u) r from rfl)
  have HR0 := Lib.hid (fun u => show fR xs ys u (fU xs ys u) 0 = fU xs ys u from rfl)
  have HFI := Lib.hid (fun r u (hu : u < len) hr h0 h1 => hd_some (fL_first (a := xs) (b := ys) (r := r) (u := u) (by rw [hl]; exact hu) hr h0 h1))
  generalize patN xs = W at *
  generalize fL xs ys = l at *
  clear h h' g v5 hl hw
  go_enter Try.func62, Try.ntmps62
  go_wp2_with fail
  go_loopw [7, 8] (fun i _ wr => ∃ u : Nat, u ≤ len ∧ i = .int .i64 (u : Int) ∧ fU xs ys u = [] ∧ Below w.heap.size w wr) (fun i _ _ => (len - intOf i).toNat)
  case atStart => exact ⟨0, by omega, rfl, rfl, (by repeat (first | exact Below.refl _ _ | assumption | refine Below.drew ?_ | refine below_drewN ?_ _ | refine Below.alloc ?_ (by first | omega | (simp; done) | (simp; omega)) _ | refine Below.setCell ?_ (by first | omega | (simp; done) | (simp; omega)) _))⟩
  case round =>
    obtain ⟨u, hu, rfl, hI, hB⟩ := hrel
    have HI := Lib.hid hI
    clear hI
    by_cases hlu : u < len
    · have hlu' : (u : Int) < (len : Int) := by omega
      have hl0 : (0 : Int) < (len : Int) := by omega
      have HB := Lib.hid hB
      have hdo := keep1 hB hd0
      clear hB
      go_wp2_with fail
      clear hdo
      go_loopw [8] (fun i wr => ∃ r : Nat, r ≤ W ∧ i = .int .i64 (r : Int) ∧ fR xs ys u (fU xs ys u) r = [] ∧ Below w.heap.size w wr) (fun i _ => (W - intOf i).toNat)
      case atStart => exact ⟨0, by omega, rfl, by rw [HR0.out]; exact HI.out, HB.out⟩
      case round =>
        clear HB
        obtain ⟨r, hr, rfl, hJ, hB⟩ := hrel
        have HJ := Lib.hid hJ
        have HB := Lib.hid hB
        have hdo := keep1 hB hd0
        clear hJ hB
        by_cases hlr : r < W
        · have hlr' : (r : Int) < (W : Int) := by omega
          have HN := Lib.hid (HRN.out u r)
          have HIS1 := Lib.hid (fun W hW hW' => HIS.out (r : Int) (u : Int) W hW hW' (by omega) (by omega) (by omega) (by omega))
          cases hq : isB xs ys (r : Int) (u : Int)
          · rw [hq, if_neg (by decide)] at HN
            rw [hq] at HIS1
            clear hq
            go_wp2_with fail
            refine (HIS1.out _ (H.out.below HB.out) (H'.out.below HB.out)).mono ?_
            rintro e w2 ⟨rfl, hb2⟩
            have HB2 := Lib.hid (below_call HB.out hb2)
            clear hb2
            go_wp2
            go_roundw
            case rel => exact ⟨r + 1, by omega, by go_num, by rw [HN.out]; exact HJ.out, HB2.out⟩
            case measure => first | (simp [intOf]; done) | (simp [intOf]; omega)
          · rw [hq] at HIS1
            obtain ⟨z1, z2, z3⟩ := HFI.out r u hlu hlr HJ.out hq
            have Z1 := Lib.hid z1
            have Z2 := Lib.hid z2
            have Z3 := Lib.hid z3
            clear hq z1 z2 z3
            go_wp2_with fail
            refine (HIS1.out _ (H.out.below HB.out) (H'.out.below HB.out)).mono ?_
            rintro e w2 ⟨rfl, hb2⟩
            have HB2 := Lib.hid (below_call HB.out hb2)
            clear hb2
            go_wp2
            go_ret3
            rw [Z1.out, Z2.out, Z3.out]
            exact ⟨rfl, HB2.out⟩
        · obtain rfl : r = W := by omega
          go_wp2
          go_roundw
          case rel => exact ⟨u + 1, by omega, by go_num, by rw [HUN.out]; exact HJ.out, HB.out⟩
          case measure => first | (simp [intOf]; done) | (simp [intOf]; omega)
    · obtain rfl : u = len := by omega
      have HL : Hid (l = []) := Lib.hid (by rw [HF.out]; exact HI.out)
      have HB := Lib.hid hB
      clear hB
      go_wp2
      go_ret3
      rw [HL.out]
      exact ⟨rfl, HB.out⟩
set_option maxHeartbeats 4000000 in
theorem specShiftsKept_any (a : Option Addr) (len cap : Nat) (ss : List ByteArray) (w : World) (h : IsStrs w a len cap ss) :
    Calls Try.prog 25 #[.slice a len cap] w fun e w' => e = .returned (.tuple #[.int .i64 (shN ss), .int .i64 (darkC ss)]) ∧ Below w.heap.size w w' := by
  have H := Lib.hid h
  have HV := Lib.hid (fun W hW => l14Ok_any a len cap ss W hW)
  have e4 := dark_no (ss := ss)
  have e5 := dark_yes (ss := ss)
  cases g : patB ss
  · rw [sh_no g, (e4 g).2]
    rw [g] at HV
    clear h g e4 e5
    go_enter Try.func25, Try.ntmps25
    go_wp2_with fail
    refine (HV.out _ (H.out.below (by repeat (first | exact Below.refl _ _ | assumption | refine Below.drew ?_ | refine below_drewN ?_ _ | refine Below.alloc ?_ (by first | omega | (simp; done) | (simp; omega)) _ | refine Below.setCell ?_ (by first | omega | (simp; done) | (simp; omega)) _)))).mono ?_
    rintro e1 w1 ⟨rfl, hb1⟩
    obtain ⟨hc1, hf1⟩ := bcell hb1
    have hz1 := hb1.size
    try simp at hz1
    have ha1 : Below w.heap.size w w1 := below_call (by repeat (first | exact Below.refl _ _ | assumption | refine Below.drew ?_ | refine below_drewN ?_ _ | refine Below.alloc ?_ (by first | omega | (simp; done) | (simp; omega)) _ | refine Below.setCell ?_ (by first | omega | (simp; done) | (simp; omega)) _)) hb1
    go_wp2
    go_ret2
    exact ⟨rfl, (by repeat (first | exact Below.refl _ _ | assumption | refine Below.drew ?_ | refine below_drewN ?_ _ | refine Below.alloc ?_ (by first | omega | (simp; done) | (simp; omega)) _ | refine Below.setCell ?_ (by first | omega | (simp; done) | (simp; omega)) _))⟩
  · rw [sh_yes g, (e5 g).2]
    have hl := h.1
    obtain ⟨v1, v2, v3, v4, v5⟩ := patB_t g
    rw [hl] at v1 v2
    have HIS := Lib.hid (fun r u W hW hW' h1 h2 h3 h4 => l14Is_any a a len cap cap ss ss r u W hW hW' g (fun y hy => (v5 y hy).1) h1 h2 h3 h4)
    obtain ⟨b, o, rfl, hb⟩ := h.addr (by omega)
    have hd0 := h.same (i := 0) (by omega)
    simp only [Nat.add_zero] at hd0
    have hz0 : (ss.getD 0 ByteArray.empty).size = patN ss := rfl
    generalize ss.getD 0 ByteArray.empty = r0 at hd0 hz0
    have HF : Hid (fL ss ss = fU ss ss len) := Lib.hid (by unfold fL; rw [hl])
    have HUL := Lib.hid (fun k (hk : k ≤ len) => show (fU ss ss k).length ≤ 576 from Nat.le_trans (fU_len ss ss k) (Nat.le_trans (Nat.mul_le_mul hk v4) (by omega)))
    have HRL := Lib.hid (fun u k => fR_len ss ss u (fU ss ss u) k)
    have HUN := Lib.hid (fun u => show fU ss ss (u + 1) = fR ss ss u (fU ss ss u) (patN ss) from rfl)
    have HRN := Lib.hid (fun u r => show fR ss ss u (fU ss ss u) (r + 1) = if isB ss ss (r : Int) (u : Int) = true then fR ss ss u (fU ss ss u) r ++ [(r, u)] else fR ss ss u (fU ss ss u) r from rfl)
    have HR0 := Lib.hid (fun u => show fR ss ss u (fU ss ss u) 0 = fU ss ss u from rfl)
    rw [g] at HV
    generalize patN ss = W at *
    rw [HF.out]
    clear h g v5 hl e4 e5
    go_enter Try.func25, Try.ntmps25
    go_wp2_with fail
    refine (HV.out _ (H.out.below (by repeat (first | exact Below.refl _ _ | assumption | refine Below.drew ?_ | refine below_drewN ?_ _ | refine Below.alloc ?_ (by first | omega | (simp; done) | (simp; omega)) _ | refine Below.setCell ?_ (by first | omega | (simp; done) | (simp; omega)) _)))).mono ?_
    rintro e1 w1 ⟨rfl, hb1⟩
    obtain ⟨hc1, hf1⟩ := bcell hb1
    have hz1 := hb1.size
    try simp at hz1
    have ha1 : Below w.heap.size w w1 := below_call (by repeat (first | exact Below.refl _ _ | assumption | refine Below.drew ?_ | refine below_drewN ?_ _ | refine Below.alloc ?_ (by first | omega | (simp; done) | (simp; omega)) _ | refine Below.setCell ?_ (by first | omega | (simp; done) | (simp; omega)) _)) hb1
    go_wp2_with fail
    go_loopw [4, 5, 6] (fun n i _ wr => ∃ u : Nat, u ≤ len ∧ i = .int .i64 (u : Int) ∧ n = .int .i64 ((fU ss ss u).length : Int) ∧ Below w.heap.size w wr) (fun _ i _ _ => (len - intOf i).toNat)
    case atStart => exact ⟨0, by omega, rfl, rfl, ha1⟩
    case round =>
      obtain ⟨u, hu, rfl, rfl, hB⟩ := hrel
      by_cases hlu : u < len
      · have hlu' : (u : Int) < (len : Int) := by omega
        have hl0 : (0 : Int) < (len : Int) := by omega
        have hUL := HUL.out u hu
        have HB := Lib.hid hB
        have hdo := keep1 hB hd0
        clear hB
        go_wp2_with fail
        clear hdo
        go_loopw [4, 6] (fun n i wr => ∃ r : Nat, r ≤ W ∧ i = .int .i64 (r : Int) ∧ n = .int .i64 ((fR ss ss u (fU ss ss u) r).length : Int) ∧ Below w.heap.size w wr) (fun _ i _ => (W - intOf i).toNat)
        case atStart => exact ⟨0, by omega, rfl, by rw [HR0.out], HB.out⟩
        case round =>
          clear HB
          obtain ⟨r, hr, rfl, rfl, hB⟩ := hrel
          have HB := Lib.hid hB
          have hdo := keep1 hB hd0
          clear hB
          by_cases hlr : r < W
          · have hlr' : (r : Int) < (W : Int) := by omega
            have HN := Lib.hid (HRN.out u r)
            have hRL := HRL.out u r
            have HIS1 := Lib.hid (fun W hW hW' => HIS.out (r : Int) (u : Int) W hW hW' (by omega) (by omega) (by omega) (by omega))
            generalize fR ss ss u (fU ss ss u) r = P at *
            cases hq : isB ss ss (r : Int) (u : Int)
            · rw [hq, if_neg (by decide)] at HN
              rw [hq] at HIS1
              clear hq
              go_wp2_with fail
              refine (HIS1.out _ (H.out.below HB.out) (H.out.below HB.out)).mono ?_
              rintro e w2 ⟨rfl, hb2⟩
              have HB2 := Lib.hid (below_call HB.out hb2)
              clear hb2
              go_wp2
              go_roundw
              case rel => exact ⟨r + 1, by omega, by go_num, by rw [HN.out], HB2.out⟩
              case measure => first | (simp [intOf]; done) | (simp [intOf]; omega)
            · rw [hq, if_pos rfl] at HN
              rw [hq] at HIS1
              have HNL : Hid ((fR ss ss u (fU ss ss u) (r + 1)).length = P.length + 1) := Lib.hid (by rw [HN.out]; simp)
              clear hq
              go_wp2_with fail
              refine (HIS1.out _ (H.out.below HB.out) (H.out.below HB.out)).mono ?_
              rintro e w2 ⟨rfl, hb2⟩
              have HB2 := Lib.hid (below_call HB.out hb2)
              clear hb2
              go_wp2
              go_roundw
              case rel => exact ⟨r + 1, by omega, by go_num, by rw [HNL.out]; go_num, HB2.out⟩
              case measure => first | (simp [intOf]; done) | (simp [intOf]; omega)
          · obtain rfl : r = W := by omega
            go_wp2
            go_roundw
            case rel => exact ⟨u + 1, by omega, by go_num, by rw [HUN.out], HB.out⟩
            case measure => first | (simp [intOf]; done) | (simp [intOf]; omega)
      · obtain rfl : u = len := by omega
        go_wp2
        go_ret2
        exact ⟨rfl, hB⟩
set_option maxHeartbeats 4000000 in
theorem specFindShift_any (a : Option Addr) (len cap : Nat) (xs : List ByteArray) (a' : Option Addr) (len' cap' : Nat) (ys : List ByteArray) (w : World) (h : IsStrs w a len cap xs) (h' : IsStrs w a' len' cap' ys) :
    Calls Try.prog 31 #[.slice a len cap, .slice a' len' cap'] w fun e w' => e = .returned (.tuple #[.int .i64 (fsR xs ys), .int .i64 (fsU xs ys), .int .i64 (fsC xs ys)]) ∧ Below w.heap.size w w' := by
  have H := Lib.hid h
  have H' := Lib.hid h'
  have HV := Lib.hid (fun W hW => l14Ok_any a len cap xs W hW)
  have HV' := Lib.hid (fun W hW => l14Ok_any a' len' cap' ys W hW)
  cases g1 : patB xs
  · obtain ⟨k1, k2, k3⟩ := fs_1 (xs := xs) (ys := ys) (by simp [twoB, g1])
    rw [k1, k2, k3]
    rw [g1] at HV
    clear h h' g1 k1 k2 k3
    go_enter Try.func31, Try.ntmps31
    go_wp2_with fail
    refine (HV.out _ (H.out.below (by repeat (first | exact Below.refl _ _ | assumption | refine Below.drew ?_ | refine below_drewN ?_ _ | refine Below.alloc ?_ (by first | omega | (simp; done) | (simp; omega)) _ | refine Below.setCell ?_ (by first | omega | (simp; done) | (simp; omega)) _)))).mono ?_
    rintro e1 w1 ⟨rfl, hb1⟩
    obtain ⟨hc1, hf1⟩ := bcell hb1
    have hz1 := hb1.size
    try simp at hz1
    have ha1 : Below w.heap.size w w1 := below_call (by repeat (first | exact Below.refl _ _ | assumption | refine Below.drew ?_ | refine below_drewN ?_ _ | refine Below.alloc ?_ (by first | omega | (simp; done) | (simp; omega)) _ | refine Below.setCell ?_ (by first | omega | (simp; done) | (simp; omega)) _)) hb1
    go_wp2
    go_ret3
    exact ⟨rfl, (by repeat (first | exact Below.refl _ _ | assumption | refine Below.drew ?_ | refine below_drewN ?_ _ | refine Below.alloc ?_ (by first | omega | (simp; done) | (simp; omega)) _ | refine Below.setCell ?_ (by first | omega | (simp; done) | (simp; omega)) _))⟩
  · cases g2 : patB ys
    · obtain ⟨k1, k2, k3⟩ := fs_1 (xs := xs) (ys := ys) (by simp [twoB, g2])
      rw [k1, k2, k3]
      rw [g1] at HV
      rw [g2] at HV'
      clear h h' g1 g2 k1 k2 k3
      go_enter Try.func31, Try.ntmps31
      go_wp2_with fail
      refine (HV.out _ (H.out.below (by repeat (first | exact Below.refl _ _ | assumption | refine Below.drew ?_ | refine below_drewN ?_ _ | refine Below.alloc ?_ (by first | omega | (simp; done) | (simp; omega)) _ | refine Below.setCell ?_ (by first | omega | (simp; done) | (simp; omega)) _)))).mono ?_
      rintro e1 w1 ⟨rfl, hb1⟩
      obtain ⟨hc1, hf1⟩ := bcell hb1
      have hz1 := hb1.size
      try simp at hz1
      have ha1 : Below w.heap.size w w1 := below_call (by repeat (first | exact Below.refl _ _ | assumption | refine Below.drew ?_ | refine below_drewN ?_ _ | refine Below.alloc ?_ (by first | omega | (simp; done) | (simp; omega)) _ | refine Below.setCell ?_ (by first | omega | (simp; done) | (simp; omega)) _)) hb1
      go_wp2_with fail
      refine (HV'.out _ (H'.out.below (by repeat (first | exact Below.refl _ _ | assumption | refine Below.drew ?_ | refine below_drewN ?_ _ | refine Below.alloc ?_ (by first | omega | (simp; done) | (simp; omega)) _ | refine Below.setCell ?_ (by first | omega | (simp; done) | (simp; omega)) _)))).mono ?_
      rintro e2 w2 ⟨rfl, hb2⟩
      have hy2 := hb2.size
      replace hb2 := below_call hb1 hb2
      clear hc1 hf1
      obtain ⟨hc2, hf2⟩ := bcell hb2
      have hz2 := hb2.size
      try simp at hz2
      have ha2 : Below w.heap.size w w2 := below_call (by repeat (first | exact Below.refl _ _ | assumption | refine Below.drew ?_ | refine below_drewN ?_ _ | refine Below.alloc ?_ (by first | omega | (simp; done) | (simp; omega)) _ | refine Below.setCell ?_ (by first | omega | (simp; done) | (simp; omega)) _)) hb2
      go_wp2
      go_ret3
      exact ⟨rfl, (by repeat (first | exact Below.refl _ _ | assumption | refine Below.drew ?_ | refine below_drewN ?_ _ | refine Below.alloc ?_ (by first | omega | (simp; done) | (simp; omega)) _ | refine Below.setCell ?_ (by first | omega | (simp; done) | (simp; omega)) _))⟩
    · have gt : twoB xs ys = true := by simp [twoB, g1, g2]
      have hl := h.1
      have hl' := h'.1
      obtain ⟨v1, v2, v3, v4, v5⟩ := patB_t g1
      obtain ⟨t1, t2, t3, t4, t5⟩ := patB_t g2
      rw [hl] at v1 v2
      rw [hl'] at t1 t2
      obtain ⟨b, o, rfl, hb⟩ := h.addr (by omega)
      obtain ⟨b', o', rfl, hb'⟩ := h'.addr (by omega)
      have hd := h.same (i := 0) (by omega)
      have hd' := h'.same (i := 0) (by omega)
      simp only [Nat.add_zero] at hd hd'
      have hz : (xs.getD 0 ByteArray.empty).size = patN xs := rfl
      have hz' : (ys.getD 0 ByteArray.empty).size = patN ys := rfl
      have HSI : Hid (∀ W, IsStrs W (some ⟨b, o, none⟩) len cap xs → IsStrs W (some ⟨b', o', none⟩) len' cap' ys → len = len' → patN xs = patN ys → Calls Try.prog 62 #[.slice (some ⟨b, o, none⟩) len cap, .slice (some ⟨b', o', none⟩) len' cap'] W fun e w' => e = .returned (.tuple #[.int .i64 (hdR (fL xs ys)), .int .i64 (hdU (fL xs ys)), .bool (hdB (fL xs ys))]) ∧ Below W.heap.size W w') := Lib.hid (fun W hW hW' hle hp => by
        subst hle
        exact l14Find_any _ _ _ _ _ xs ys W hW hW' g1 (fun y hy => by rw [hp]; exact (t5 y (by omega)).1))
      rw [g1] at HV
      rw [g2] at HV'
      have hl0 : (0 : Int) < (len : Int) := by omega
      have hl0' : (0 : Int) < (len' : Int) := by omega
      cases g3 : dimB xs ys
      · obtain ⟨k1, k2, k3⟩ := fs_9 gt g3
        rw [k1, k2, k3]
        have hdf := dim_f g3
        rw [hl, hl'] at hdf
        generalize xs.getD 0 ByteArray.empty = x0 at hd hz
        generalize ys.getD 0 ByteArray.empty = y0 at hd' hz'
        generalize patN xs = X at *
        generalize patN ys = Y at *
        clear h h' g1 g2 g3 gt k1 k2 k3 v5 t5 HSI hl hl'
        rcases hdf with hdf | ⟨hdf, hdf2⟩
        · have y1 : ((len : Int) != (len' : Int)) = true := by simp; omega
          clear hdf
          go_enter Try.func31, Try.ntmps31
          go_wp2_with fail
          refine (HV.out _ (H.out.below (by repeat (first | exact Below.refl _ _ | assumption | refine Below.drew ?_ | refine below_drewN ?_ _ | refine Below.alloc ?_ (by first | omega | (simp; done) | (simp; omega)) _ | refine Below.setCell ?_ (by first | omega | (simp; done) | (simp; omega)) _)))).mono ?_
          rintro e1 w1 ⟨rfl, hb1⟩
          obtain ⟨hc1, hf1⟩ := bcell hb1
          have hz1 := hb1.size
          try simp at hz1
          have ha1 : Below w.heap.size w w1 := below_call (by repeat (first | exact Below.refl _ _ | assumption | refine Below.drew ?_ | refine below_drewN ?_ _ | refine Below.alloc ?_ (by first | omega | (simp; done) | (simp; omega)) _ | refine Below.setCell ?_ (by first | omega | (simp; done) | (simp; omega)) _)) hb1
          go_wp2_with fail
          refine (HV'.out _ (H'.out.below (by repeat (first | exact Below.refl _ _ | assumption | refine Below.drew ?_ | refine below_drewN ?_ _ | refine Below.alloc ?_ (by first | omega | (simp; done) | (simp; omega)) _ | refine Below.setCell ?_ (by first | omega | (simp; done) | (simp; omega)) _)))).mono ?_
          rintro e2 w2 ⟨rfl, hb2⟩
          have hy2 := hb2.size
          replace hb2 := below_call hb1 hb2
          clear hc1 hf1
          obtain ⟨hc2, hf2⟩ := bcell hb2
          have hz2 := hb2.size
          try simp at hz2
          have ha2 : Below w.heap.size w w2 := below_call (by repeat (first | exact Below.refl _ _ | assumption | refine Below.drew ?_ | refine below_drewN ?_ _ | refine Below.alloc ?_ (by first | omega | (simp; done) | (simp; omega)) _ | refine Below.setCell ?_ (by first | omega | (simp; done) | (simp; omega)) _)) hb2
          go_wp2_with fail
          go_quiet (fail)
          go_wp2
          go_ret3
          exact ⟨rfl, (by repeat (first | exact Below.refl _ _ | assumption | refine Below.drew ?_ | refine below_drewN ?_ _ | refine Below.alloc ?_ (by first | omega | (simp; done) | (simp; omega)) _ | refine Below.setCell ?_ (by first | omega | (simp; done) | (simp; omega)) _))⟩
        · have y1 : ((len : Int) != (len' : Int)) = false := by simp; omega
          have y2 : ((X : Int) != (Y : Int)) = true := by simp; omega
          clear hdf hdf2
          go_enter Try.func31, Try.ntmps31
          go_wp2_with fail
          refine (HV.out _ (H.out.below (by repeat (first | exact Below.refl _ _ | assumption | refine Below.drew ?_ | refine below_drewN ?_ _ | refine Below.alloc ?_ (by first | omega | (simp; done) | (simp; omega)) _ | refine Below.setCell ?_ (by first | omega | (simp; done) | (simp; omega)) _)))).mono ?_
          rintro e1 w1 ⟨rfl, hb1⟩
          obtain ⟨hc1, hf1⟩ := bcell hb1
          have hz1 := hb1.size
          try simp at hz1
          have ha1 : Below w.heap.size w w1 := below_call (by repeat (first | exact Below.refl _ _ | assumption | refine Below.drew ?_ | refine below_drewN ?_ _ | refine Below.alloc ?_ (by first | omega | (simp; done) | (simp; omega)) _ | refine Below.setCell ?_ (by first | omega | (simp; done) | (simp; omega)) _)) hb1
          go_wp2_with fail
          refine (HV'.out _ (H'.out.below (by repeat (first | exact Below.refl _ _ | assumption | refine Below.drew ?_ | refine below_drewN ?_ _ | refine Below.alloc ?_ (by first | omega | (simp; done) | (simp; omega)) _ | refine Below.setCell ?_ (by first | omega | (simp; done) | (simp; omega)) _)))).mono ?_
          rintro e2 w2 ⟨rfl, hb2⟩
          have hy2 := hb2.size
          replace hb2 := below_call hb1 hb2
          clear hc1 hf1
          obtain ⟨hc2, hf2⟩ := bcell hb2
          have hz2 := hb2.size
          try simp at hz2
          have ha2 : Below w.heap.size w w2 := below_call (by repeat (first | exact Below.refl _ _ | assumption | refine Below.drew ?_ | refine below_drewN ?_ _ | refine Below.alloc ?_ (by first | omega | (simp; done) | (simp; omega)) _ | refine Below.setCell ?_ (by first | omega | (simp; done) | (simp; omega)) _)) hb2
          have q0 := keep1 ha2 hd
          have q1 := keep1 ha2 hd'
          go_wp2_with fail
          go_quiet (fail)
          go_wp2
          go_ret3
          exact ⟨rfl, (by repeat (first | exact Below.refl _ _ | assumption | refine Below.drew ?_ | refine below_drewN ?_ _ | refine Below.alloc ?_ (by first | omega | (simp; done) | (simp; omega)) _ | refine Below.setCell ?_ (by first | omega | (simp; done) | (simp; omega)) _))⟩
      · obtain ⟨k1, k2, k3⟩ := fs_yes gt g3
        obtain ⟨d1, d2⟩ := dim_t g3
        rw [hl, hl'] at d1
        have hfl := fL_len (ys := ys) g1
        have HSJ : Hid (∀ W, IsStrs W (some ⟨b, o, none⟩) len cap xs → IsStrs W (some ⟨b', o', none⟩) len' cap' ys → Calls Try.prog 62 #[.slice (some ⟨b, o, none⟩) len cap, .slice (some ⟨b', o', none⟩) len' cap'] W fun e w' => e = .returned (.tuple #[.int .i64 (hdR (fL xs ys)), .int .i64 (hdU (fL xs ys)), .bool (hdB (fL xs ys))]) ∧ Below W.heap.size W w') := Lib.hid (fun W hW hW' => HSI.out W hW hW' d1 d2)
        generalize xs.getD 0 ByteArray.empty = x0 at hd hz
        generalize ys.getD 0 ByteArray.empty = y0 at hd' hz'
        have y1 : ((len : Int) != (len' : Int)) = false := by simp; omega
        have y2 : ((x0.size : Int) != (y0.size : Int)) = false := by simp; omega
        rw [k1, k2, k3]
        have HZ0 := Lib.hid (fun h => hd_zero (l := fL xs ys) h)
        generalize fL xs ys = l at *
        clear h h' g1 g2 g3 gt k1 k2 k3 v1 v2 v3 v4 v5 t1 t2 t3 t4 t5 HSI hl hl' d1 d2 hz hz'
        generalize hdR l = R at *
        generalize hdU l = U at *
        cases hbv : hdB l
        · rw [hbv] at HSJ
          rw [if_neg (by decide), (HZ0.out hbv).1, (HZ0.out hbv).2]
          rw [(HZ0.out hbv).1, (HZ0.out hbv).2] at HSJ
          clear hbv HZ0
          go_enter Try.func31, Try.ntmps31
          go_wp2_with fail
          refine (HV.out _ (H.out.below (by repeat (first | exact Below.refl _ _ | assumption | refine Below.drew ?_ | refine below_drewN ?_ _ | refine Below.alloc ?_ (by first | omega | (simp; done) | (simp; omega)) _ | refine Below.setCell ?_ (by first | omega | (simp; done) | (simp; omega)) _)))).mono ?_
          rintro e1 w1 ⟨rfl, hb1⟩
          obtain ⟨hc1, hf1⟩ := bcell hb1
          have hz1 := hb1.size
          try simp at hz1
          have ha1 : Below w.heap.size w w1 := below_call (by repeat (first | exact Below.refl _ _ | assumption | refine Below.drew ?_ | refine below_drewN ?_ _ | refine Below.alloc ?_ (by first | omega | (simp; done) | (simp; omega)) _ | refine Below.setCell ?_ (by first | omega | (simp; done) | (simp; omega)) _)) hb1
          go_wp2_with fail
          refine (HV'.out _ (H'.out.below (by repeat (first | exact Below.refl _ _ | assumption | refine Below.drew ?_ | refine below_drewN ?_ _ | refine Below.alloc ?_ (by first | omega | (simp; done) | (simp; omega)) _ | refine Below.setCell ?_ (by first | omega | (simp; done) | (simp; omega)) _)))).mono ?_
          rintro e2 w2 ⟨rfl, hb2⟩
          have hy2 := hb2.size
          replace hb2 := below_call hb1 hb2
          clear hc1 hf1
          obtain ⟨hc2, hf2⟩ := bcell hb2
          have hz2 := hb2.size
          try simp at hz2
          have ha2 : Below w.heap.size w w2 := below_call (by repeat (first | exact Below.refl _ _ | assumption | refine Below.drew ?_ | refine below_drewN ?_ _ | refine Below.alloc ?_ (by first | omega | (simp; done) | (simp; omega)) _ | refine Below.setCell ?_ (by first | omega | (simp; done) | (simp; omega)) _)) hb2
          have q0 := keep1 ha2 hd
          have q1 := keep1 ha2 hd'
          go_wp2_with fail
          go_quiet (fail)
          have ha3 := below_drewN ha2 nq
          clear q0 q1
          go_wp2_with fail
          refine (HSJ.out _ (H.out.below (by repeat (first | exact Below.refl _ _ | assumption | refine Below.drew ?_ | refine below_drewN ?_ _ | refine Below.alloc ?_ (by first | omega | (simp; done) | (simp; omega)) _ | refine Below.setCell ?_ (by first | omega | (simp; done) | (simp; omega)) _))) (H'.out.below (by repeat (first | exact Below.refl _ _ | assumption | refine Below.drew ?_ | refine below_drewN ?_ _ | refine Below.alloc ?_ (by first | omega | (simp; done) | (simp; omega)) _ | refine Below.setCell ?_ (by first | omega | (simp; done) | (simp; omega)) _)))).mono ?_
          rintro e w4 ⟨rfl, hb4⟩
          have ha4 := below_call ha3 hb4
          go_wp2
          go_ret3
          exact ⟨rfl, (by repeat (first | exact Below.refl _ _ | assumption | refine Below.drew ?_ | refine below_drewN ?_ _ | refine Below.alloc ?_ (by first | omega | (simp; done) | (simp; omega)) _ | refine Below.setCell ?_ (by first | omega | (simp; done) | (simp; omega)) _))⟩
        · rw [hbv] at HSJ
          rw [if_pos rfl]
          clear hbv HZ0
          go_enter Try.func31, Try.ntmps31
          go_wp2_with fail
          refine (HV.out _ (H.out.below (by repeat (first | exact Below.refl _ _ | assumption | refine Below.drew ?_ | refine below_drewN ?_ _ | refine Below.alloc ?_ (by first | omega | (simp; done) | (simp; omega)) _ | refine Below.setCell ?_ (by first | omega | (simp; done) | (simp; omega)) _)))).mono ?_
          rintro e1 w1 ⟨rfl, hb1⟩
          obtain ⟨hc1, hf1⟩ := bcell hb1
          have hz1 := hb1.size
          try simp at hz1
          have ha1 : Below w.heap.size w w1 := below_call (by repeat (first | exact Below.refl _ _ | assumption | refine Below.drew ?_ | refine below_drewN ?_ _ | refine Below.alloc ?_ (by first | omega | (simp; done) | (simp; omega)) _ | refine Below.setCell ?_ (by first | omega | (simp; done) | (simp; omega)) _)) hb1
          go_wp2_with fail
          refine (HV'.out _ (H'.out.below (by repeat (first | exact Below.refl _ _ | assumption | refine Below.drew ?_ | refine below_drewN ?_ _ | refine Below.alloc ?_ (by first | omega | (simp; done) | (simp; omega)) _ | refine Below.setCell ?_ (by first | omega | (simp; done) | (simp; omega)) _)))).mono ?_
          rintro e2 w2 ⟨rfl, hb2⟩
          have hy2 := hb2.size
          replace hb2 := below_call hb1 hb2
          clear hc1 hf1
          obtain ⟨hc2, hf2⟩ := bcell hb2
          have hz2 := hb2.size
          try simp at hz2
          have ha2 : Below w.heap.size w w2 := below_call (by repeat (first | exact Below.refl _ _ | assumption | refine Below.drew ?_ | refine below_drewN ?_ _ | refine Below.alloc ?_ (by first | omega | (simp; done) | (simp; omega)) _ | refine Below.setCell ?_ (by first | omega | (simp; done) | (simp; omega)) _)) hb2
          have q0 := keep1 ha2 hd
          have q1 := keep1 ha2 hd'
          go_wp2_with fail
          go_quiet (fail)
          have ha3 := below_drewN ha2 nq
          clear q0 q1
          go_wp2_with fail
          refine (HSJ.out _ (H.out.below (by repeat (first | exact Below.refl _ _ | assumption | refine Below.drew ?_ | refine below_drewN ?_ _ | refine Below.alloc ?_ (by first | omega | (simp; done) | (simp; omega)) _ | refine Below.setCell ?_ (by first | omega | (simp; done) | (simp; omega)) _))) (H'.out.below (by repeat (first | exact Below.refl _ _ | assumption | refine Below.drew ?_ | refine below_drewN ?_ _ | refine Below.alloc ?_ (by first | omega | (simp; done) | (simp; omega)) _ | refine Below.setCell ?_ (by first | omega | (simp; done) | (simp; omega)) _)))).mono ?_
          rintro e w4 ⟨rfl, hb4⟩
          have ha4 := below_call ha3 hb4
          go_wp2
          go_ret3
          exact ⟨rfl, (by repeat (first | exact Below.refl _ _ | assumption | refine Below.drew ?_ | refine below_drewN ?_ _ | refine Below.alloc ?_ (by first | omega | (simp; done) | (simp; omega)) _ | refine Below.setCell ?_ (by first | omega | (simp; done) | (simp; omega)) _))⟩
end Go.Proofs.Ytlkdkidpbjpkhaa
