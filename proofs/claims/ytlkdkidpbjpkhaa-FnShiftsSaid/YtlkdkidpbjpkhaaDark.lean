/- Contracts of DarkIn, program and reference: the number of dark bricks of a pattern, and the code; no old memory turns; condition: the slice can be read. -/
import Derived.Test.YtlkdkidpbjpkhaaPatS
namespace Go.Proofs.Ytlkdkidpbjpkhaa
open Go.RowKit

/-- The dark bricks among the first j of a row. -/
def rowK (s : ByteArray) (j : Nat) : Int := ((s.data.toList.take j).count 35 : Nat)
theorem rowK_next (s : ByteArray) (j : Nat) (h : j < s.size) : rowK s (j + 1) = rowK s j + if s[j] = 35 then 1 else 0 := by
  unfold rowK
  rw [List.take_succ_eq_append_getElem (by simpa using h), List.count_append]
  have e : s.data.toList[j]'(by simpa using h) = s[j] := rfl
  rw [e]
  by_cases h1 : s[j] = 35
  · rw [if_pos h1, h1]; simp
  · rw [if_neg h1]
    have : List.count 35 [s[j]] = 0 := by
      rw [List.count_singleton]; simp [h1]
    omega
theorem rowK_bd (s : ByteArray) (j : Nat) : 0 ≤ rowK s j ∧ rowK s j ≤ j := by
  unfold rowK
  have h1 := List.count_le_length (a := (35 : UInt8)) (l := s.data.toList.take j)
  have h2 : (s.data.toList.take j).length ≤ j := List.length_take_le _ _
  omega
theorem rowK_all (s : ByteArray) : rowK s s.size = (Lib.countByte s.data.toList 35 : Nat) := by
  unfold rowK Lib.countByte
  rw [List.take_of_length_le (by simp)]
/-- The dark bricks of the first k rows. -/
def darkK (ss : List ByteArray) : Nat → Int
  | 0 => 0
  | k + 1 => darkK ss k + rowK (ss.getD k ByteArray.empty) (ss.getD k ByteArray.empty).size
theorem darkK_bd {ss : List ByteArray} (h : ∀ i, i < ss.length → (ss.getD i ByteArray.empty).size ≤ 24) (k : Nat) (hk : k ≤ ss.length) : 0 ≤ darkK ss k ∧ darkK ss k ≤ (k : Int) * 24 := by
  induction k with
  | zero => simp [darkK]
  | succ k ih =>
    have e1 := ih (by omega)
    have e2 := rowK_bd (ss.getD k ByteArray.empty) (ss.getD k ByteArray.empty).size
    have e3 := h k (by omega)
    simp only [darkK]
    omega
def darkI (ss : List ByteArray) : Int := if patB ss = true then darkK ss ss.length else 0
def darkC (ss : List ByteArray) : Int := if patB ss = true then 0 else 1
theorem dark_no {ss : List ByteArray} (h : patB ss = false) : darkI ss = 0 ∧ darkC ss = 1 := by simp [darkI, darkC, h]
theorem dark_yes {ss : List ByteArray} (h : patB ss = true) : darkI ss = darkK ss ss.length ∧ darkC ss = 0 := by simp [darkI, darkC, h]
set_option maxHeartbeats 2000000 in
theorem darkIn_any (a : Option Addr) (len cap : Nat) (ss : List ByteArray) (w : World) (h : IsStrs w a len cap ss) :
    Calls Try.prog 40 #[.slice a len cap] w fun e w' => e = .returned (.tuple #[.int .i64 (darkI ss), .int .i64 (darkC ss)]) ∧ Below w.heap.size w w' := by
  have hl := h.1
  have H := Lib.hid h
  have HV := Lib.hid (fun W hW => validPattern_any a len cap ss W hW)
  clear h
  cases g : patB ss
  · have e := dark_no g
    rw [e.1, e.2]
    rw [g] at HV
    clear g e hl
    go_enter Try.func40, Try.ntmps40
    go_wp2_with fail
    refine (HV.out _ (H.out.below (by repeat (first | exact Below.refl _ _ | assumption | refine Below.drew ?_ | refine below_drewN ?_ _ | refine Below.alloc ?_ (by first | omega | (simp; done) | (simp; omega)) _ | refine Below.setCell ?_ (by first | omega | (simp; done) | (simp; omega)) _)))).mono ?_
    rintro e1 w1 ⟨rfl, hb1⟩
    obtain ⟨hc1, hf1⟩ := bcell hb1
    have hz1 := hb1.size
    try simp at hz1
    have ha1 : Below w.heap.size w w1 := below_call (by repeat (first | exact Below.refl _ _ | assumption | refine Below.drew ?_ | refine below_drewN ?_ _ | refine Below.alloc ?_ (by first | omega | (simp; done) | (simp; omega)) _ | refine Below.setCell ?_ (by first | omega | (simp; done) | (simp; omega)) _)) hb1
    go_wp2
    go_ret2
    exact ⟨rfl, (by repeat (first | exact Below.refl _ _ | assumption | refine Below.drew ?_ | refine below_drewN ?_ _ | refine Below.alloc ?_ (by first | omega | (simp; done) | (simp; omega)) _ | refine Below.setCell ?_ (by first | omega | (simp; done) | (simp; omega)) _))⟩
  · have e := dark_yes g
    rw [e.1, e.2, hl]
    rw [g] at HV
    obtain ⟨v1, v2, v3, v4, v5⟩ := patB_t g
    have HB := Lib.hid (fun k (hk : k ≤ len) => darkK_bd (ss := ss) (fun i hi => by rw [(v5 i hi).1]; exact v4) k (by rw [hl]; exact hk))
    have HS := Lib.hid (fun i (hi : i < len) => show (ss.getD i ByteArray.empty).size ≤ 24 by rw [(v5 i (by rw [hl]; exact hi)).1]; exact v4)
    rw [hl] at v1 v2
    clear g e hl v3 v4 v5
    go_enter Try.func40, Try.ntmps40
    go_wp2_with fail
    refine (HV.out _ (H.out.below (by repeat (first | exact Below.refl _ _ | assumption | refine Below.drew ?_ | refine below_drewN ?_ _ | refine Below.alloc ?_ (by first | omega | (simp; done) | (simp; omega)) _ | refine Below.setCell ?_ (by first | omega | (simp; done) | (simp; omega)) _)))).mono ?_
    rintro e1 w1 ⟨rfl, hb1⟩
    obtain ⟨hc1, hf1⟩ := bcell hb1
    have hz1 := hb1.size
    try simp at hz1
    have ha1 : Below w.heap.size w w1 := below_call (by repeat (first | exact Below.refl _ _ | assumption | refine Below.drew ?_ | refine below_drewN ?_ _ | refine Below.alloc ?_ (by first | omega | (simp; done) | (simp; omega)) _ | refine Below.setCell ?_ (by first | omega | (simp; done) | (simp; omega)) _)) hb1
    go_wp2_with fail
    go_loop [4, 6, 12] (fun s _ i => ∃ k : Nat, k ≤ len ∧ i = .int .i64 (k : Int) ∧ s = .int .i64 (darkK ss k)) (fun _ _ i => (len - intOf i).toNat)
    case atStart => exact ⟨0, by omega, rfl, rfl⟩
    case round =>
      obtain ⟨k, hk, rfl, rfl⟩ := hrel
      by_cases hlt : k < len
      · have hlt' : (k : Int) < (len : Int) := by omega
        obtain ⟨b, o, rfl, hb, hc⟩ := (H.out.below ha1).cell hlt
        have HN : Hid (darkK ss (k + 1) = darkK ss k + rowK (ss.getD k ByteArray.empty) (ss.getD k ByteArray.empty).size) := Lib.hid rfl
        obtain ⟨d1, d2⟩ := HB.out k hk
        have hs := HS.out k hlt
        obtain ⟨r1, r2⟩ := rowK_bd (ss.getD k ByteArray.empty) (ss.getD k ByteArray.empty).size
        have HA := Lib.hid (rowK_all (ss.getD k ByteArray.empty))
        generalize ss.getD k ByteArray.empty = x at *
        generalize darkK ss k = s at *
        rw [HA.out] at HN r1 r2
        go_wp2_with fail
        refine (countOne_any _ _ _).mono ?_
        rintro e2 w2 ⟨rfl, rfl⟩
        generalize (Lib.countByte x.data.toList 35 : Nat) = v at *
        go_wp2
        go_round
        case rel => exact ⟨k + 1, by omega, by go_num, by rw [HN.out]⟩
        case measure => simp [intOf]; omega
      · obtain rfl : k = len := by omega
        go_wp2
        go_ret2
        exact ⟨rfl, ha1⟩
set_option maxHeartbeats 2000000 in
theorem specDarkIn_any (a : Option Addr) (len cap : Nat) (ss : List ByteArray) (w : World) (h : IsStrs w a len cap ss) :
    Calls Try.prog 39 #[.slice a len cap] w fun e w' => e = .returned (.tuple #[.int .i64 (darkI ss), .int .i64 (darkC ss)]) ∧ Below w.heap.size w w' := by
  have hl := h.1
  have H := Lib.hid h
  have HV := Lib.hid (fun W hW => l14Ok_any a len cap ss W hW)
  clear h
  cases g : patB ss
  · have e := dark_no g
    rw [e.1, e.2]
    rw [g] at HV
    clear g e hl
    go_enter Try.func39, Try.ntmps39
    go_wp2_with fail
    refine (HV.out _ (H.out.below (by repeat (first | exact Below.refl _ _ | assumption | refine Below.drew ?_ | refine below_drewN ?_ _ | refine Below.alloc ?_ (by first | omega | (simp; done) | (simp; omega)) _ | refine Below.setCell ?_ (by first | omega | (simp; done) | (simp; omega)) _)))).mono ?_
    rintro e1 w1 ⟨rfl, hb1⟩
    obtain ⟨hc1, hf1⟩ := bcell hb1
    have hz1 := hb1.size
    try simp at hz1
    have ha1 : Below w.heap.size w w1 := below_call (by repeat (first | exact Below.refl _ _ | assumption | refine Below.drew ?_ | refine below_drewN ?_ _ | refine Below.alloc ?_ (by first | omega | (simp; done) | (simp; omega)) _ | refine Below.setCell ?_ (by first | omega | (simp; done) | (simp; omega)) _)) hb1
    go_wp2
    go_ret2
    exact ⟨rfl, (by repeat (first | exact Below.refl _ _ | assumption | refine Below.drew ?_ | refine below_drewN ?_ _ | refine Below.alloc ?_ (by first | omega | (simp; done) | (simp; omega)) _ | refine Below.setCell ?_ (by first | omega | (simp; done) | (simp; omega)) _))⟩
  · have e := dark_yes g
    rw [e.1, e.2, hl]
    rw [g] at HV
    obtain ⟨v1, v2, v3, v4, v5⟩ := patB_t g
    have HB := Lib.hid (fun k (hk : k ≤ len) => darkK_bd (ss := ss) (fun i hi => by rw [(v5 i hi).1]; exact v4) k (by rw [hl]; exact hk))
    have HS := Lib.hid (fun i (hi : i < len) => show (ss.getD i ByteArray.empty).size ≤ 24 by rw [(v5 i (by rw [hl]; exact hi)).1]; exact v4)
    rw [hl] at v1 v2
    clear g e hl v3 v4 v5
    go_enter Try.func39, Try.ntmps39
    go_wp2_with fail
    refine (HV.out _ (H.out.below (by repeat (first | exact Below.refl _ _ | assumption | refine Below.drew ?_ | refine below_drewN ?_ _ | refine Below.alloc ?_ (by first | omega | (simp; done) | (simp; omega)) _ | refine Below.setCell ?_ (by first | omega | (simp; done) | (simp; omega)) _)))).mono ?_
    rintro e1 w1 ⟨rfl, hb1⟩
    obtain ⟨hc1, hf1⟩ := bcell hb1
    have hz1 := hb1.size
    try simp at hz1
    have ha1 : Below w.heap.size w w1 := below_call (by repeat (first | exact Below.refl _ _ | assumption | refine Below.drew ?_ | refine below_drewN ?_ _ | refine Below.alloc ?_ (by first | omega | (simp; done) | (simp; omega)) _ | refine Below.setCell ?_ (by first | omega | (simp; done) | (simp; omega)) _)) hb1
    go_wp2_with fail
    go_loop [4, 5, 6] (fun s i _ => ∃ k : Nat, k ≤ len ∧ i = .int .i64 (k : Int) ∧ s = .int .i64 (darkK ss k)) (fun _ i _ => (len - intOf i).toNat)
    case atStart => exact ⟨0, by omega, rfl, rfl⟩
    case round =>
      obtain ⟨k, hk, rfl, rfl⟩ := hrel
      by_cases hlt : k < len
      · have hlt' : (k : Int) < (len : Int) := by omega
        obtain ⟨b, o, rfl, hb, hc⟩ := (H.out.below ha1).cell hlt
        have HN : Hid (darkK ss (k + 1) = darkK ss k + rowK (ss.getD k ByteArray.empty) (ss.getD k ByteArray.empty).size) := Lib.hid rfl
        obtain ⟨d1, d2⟩ := HB.out k hk
        have hs := HS.out k hlt
        generalize ss.getD k ByteArray.empty = x at *
        generalize darkK ss k = s at *
        go_wp2_with fail
        go_loop [4, 6] (fun t i => ∃ j : Nat, j ≤ x.size ∧ i = .int .i64 (j : Int) ∧ t = .int .i64 (s + rowK x j)) (fun _ i => (x.size - intOf i).toNat)
        case atStart => exact ⟨0, by omega, rfl, by simp [rowK]⟩
        case round =>
          obtain ⟨j, hj, rfl, rfl⟩ := hrel
          by_cases hlj : j < x.size
          · have hlj' : (j : Int) < (x.size : Int) := by omega
            obtain ⟨r1, r2⟩ := rowK_bd x j
            have HJ := Lib.hid (rowK_next x j hlj)
            by_cases hx : (x[j].toNat : Int) = 35
            · have HJ2 : Hid (rowK x (j + 1) = rowK x j + 1) := Lib.hid (by rw [HJ.out, if_pos (UInt8.toNat_inj.1 (show x[j].toNat = (35 : UInt8).toNat by have : (35 : UInt8).toNat = 35 := rfl; omega))])
              have t1 : ((x[j].toNat : Int) == 35) = true := by simpa using hx
              clear hx
              generalize rowK x j = r at *
              go_wp2
              go_round
              case rel => exact ⟨j + 1, by omega, by go_num, by rw [HJ2.out]; congr 1; omega⟩
              case measure => simp [intOf]; omega
            · have HJ2 : Hid (rowK x (j + 1) = rowK x j) := Lib.hid (by rw [HJ.out, if_neg (fun e => hx (by rw [e]; rfl))]; omega)
              have t1 : ((x[j].toNat : Int) == 35) = false := by simpa using hx
              clear hx
              go_wp2
              go_round
              case rel => exact ⟨j + 1, by omega, by go_num, by rw [HJ2.out]⟩
              case measure => simp [intOf]; omega
          · obtain rfl : j = x.size := by omega
            go_wp2
            go_round
            case rel => exact ⟨k + 1, by omega, by go_num, by rw [HN.out]⟩
            case measure => simp [intOf]; omega
      · obtain rfl : k = len := by omega
        go_wp2
        go_ret2
        exact ⟨rfl, ha1⟩
end Go.Proofs.Ytlkdkidpbjpkhaa
