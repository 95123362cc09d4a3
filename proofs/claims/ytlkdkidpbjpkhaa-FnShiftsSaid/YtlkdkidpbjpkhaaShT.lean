/- Contracts of ShiftPattern, program and reference; no old memory turns; condition: the slice can be read. -/
import Derived.Test.YtlkdkidpbjpkhaaShS
import Derived.Test.YtlkdkidpbjpkhaaOwnU
import Derived.Test.YtlkdkidpbjpkhaaMarkS
namespace Go.Proofs.Ytlkdkidpbjpkhaa
open Go.RowKit

theorem shRow_bytes {ss : List ByteArray} (h : patB ss = true) (r u : Int) (y : Nat) : (⟨((List.range (patN ss)).map (shB ss r u y)).toArray⟩ : ByteArray) = shRow ss r u y := by
  refine bytes_eq ?_ fun x hx => ?_
  · rw [shRow_size h]; simp [ByteArray.size]
  · have hx' : x < patN ss := by simpa [ByteArray.size] using hx
    rw [shRow_get h r u y x hx']
    simp [List.getD_eq_getElem?_getD, hx']
set_option maxRecDepth 100000 in
set_option maxHeartbeats 4000000 in
theorem l14Shift_any (a : Option Addr) (len cap : Nat) (xs : List ByteArray) (r u : Int) (w : World) (h : IsStrs w a len cap xs) (g : patB xs = true) (hr1 : -1000 ≤ r) (hr2 : r ≤ 1000) (hu1 : -1000 ≤ u) (hu2 : u ≤ 1000) :
    Calls Try.prog 59 #[.slice a len cap, .int .i64 r, .int .i64 u] w (NewS w (shL xs r u)) := by
  have hl := h.1
  obtain ⟨v1, v2, v3, v4, v5⟩ := patB_t g
  rw [hl] at v1 v2
  have HSB := Lib.hid (fun y x => show shB xs r u y x = (xs.getD (((y : Int) - u) % (xs.length : Int)).toNat ByteArray.empty).data.toList.getD (((x : Int) - r) % (patN xs : Int)).toNat 0 from rfl)
  have HBY := Lib.hid (fun y => shRow_bytes g r u y)
  rw [hl] at HSB
  obtain ⟨b, o, rfl, hb⟩ := h.addr (by omega)
  have HD := Lib.hid (fun i hi => h.same (i := i) hi)
  have hd0 := h.same (i := 0) (by omega)
  simp only [Nat.add_zero] at hd0
  have hz0 : (xs.getD 0 ByteArray.empty).size = patN xs := rfl
  generalize xs.getD 0 ByteArray.empty = r0 at hd0 hz0
  have HS := Lib.hid (fun i (hi : i < len) => show (xs.getD i ByteArray.empty).size = patN xs from (v5 i (by rw [hl]; exact hi)).1)
  have HLX := Lib.hid hl
  generalize patN xs = W at *
  obtain ⟨i0, hi, hi0, hi1, hi2⟩ := info_parts info_str
  obtain ⟨j0, hj, hj0, hj1, hj2⟩ := info_parts info_u8
  clear h g v5 hl
  go_enter Try.func59, Try.ntmps59
  go_wp2_with fail
  go_loopw [9, 10, 11, 12, 13] (fun os i _ _ _ wr => ∃ (y : Nat) (vo : Value), y ≤ len ∧ vo = os ∧ i = .int .i64 (y : Int) ∧ OwnS wr w.heap.size vo ((List.range y).map (shRow xs r u)) ∧ Below w.heap.size w wr) (fun _ i _ _ _ _ => (len - intOf i).toNat)
  case atStart => exact ⟨0, _, by omega, rfl, rfl, ownS_empty _ _ (Nat.le_refl _), (by repeat (first | exact Below.refl _ _ | assumption | refine Below.drew ?_ | refine below_drewN ?_ _ | refine Below.alloc ?_ (by first | omega | (simp; done) | (simp; omega)) _ | refine Below.setCell ?_ (by first | omega | (simp; done) | (simp; omega)) _))⟩
  case round =>
    obtain ⟨y, vo, hy, rfl, rfl, hO, hB⟩ := hrel
    by_cases hly : y < len
    · have hly' : (y : Int) < (len : Int) := by omega
      have hl0 : (0 : Int) < (len : Int) := by omega
      obtain ⟨n1, n2⟩ := modN (a := (y : Int) - u) (n := (len : Int)) (by omega)
      obtain ⟨m, hm⟩ : ∃ m : Nat, ((y : Int) - u) % (len : Int) = (m : Int) := ⟨(((y : Int) - u) % (len : Int)).toNat, by omega⟩
      have hml : m < len := by omega
      have hml' : (m : Int) < (len : Int) := by omega
      have HMM := Lib.hid (fun W' => l14Mod_any ((y : Int) - u) (len : Int) W' (by omega) (by omega))
      have HSBy := Lib.hid (HSB.out y)
      rw [hm] at HMM HSBy
      have HMT : Hid (((m : Nat) : Int).toNat = m) := Lib.hid (by omega)
      rw [HMT.out] at HSBy
      have hsm := HS.out m hml
      have hdm0 := HD.out m hml
      generalize xs.getD m ByteArray.empty = row at *
      have HSN : Hid ((List.range (y + 1)).map (shRow xs r u) = (List.range y).map (shRow xs r u) ++ [shRow xs r u y]) := Lib.hid (by simp [List.range_succ])
      have HLK : Hid (((List.range y).map (shRow xs r u)).length = y) := Lib.hid (by simp)
      generalize (List.range y).map (shRow xs r u) = P at *
      obtain ⟨wo, rfl⟩ : ∃ wo : World, wo = wr := ⟨_, rfl⟩
      have hdm : (wo.alloc (.cells #[] 5)).cell? ⟨b, o + m, none⟩ = some (.string row) := keepA (keep1 hB hdm0)
      have hBz := hB.size
      have HO := Lib.hid hO
      have HB := Lib.hid hB
      clear hm n1 n2 hO hB
      go_wp2_with fail
      refine (HMM.out _).mono ?_
      rintro e w1 ⟨rfl, rfl⟩
      go_wp2_with fail
      clear hdm
      go_loopw [11, 13] (fun ls i wr => ∃ (x : Nat) (vl : Value), x ≤ W ∧ vl = ls ∧ i = .int .i64 (x : Int) ∧ OwnU wr wo.heap.size vl ((List.range x).map (shB xs r u y)) ∧ Below wo.heap.size wo wr) (fun _ i _ => (W - intOf i).toNat)
      case atStart => exact ⟨0, _, by omega, rfl, rfl, ownU_empty _ _ (Nat.le_refl _), (by repeat (first | exact Below.refl _ _ | assumption | refine Below.drew ?_ | refine below_drewN ?_ _ | refine Below.alloc ?_ (by first | omega | (simp; done) | (simp; omega)) _ | refine Below.setCell ?_ (by first | omega | (simp; done) | (simp; omega)) _))⟩
      case round =>
        obtain ⟨x, vl, hx, rfl, rfl, hU, hB⟩ := hrel
        by_cases hlx : x < W
        · have hlx' : (x : Int) < (W : Int) := by omega
          obtain ⟨n1, n2⟩ := modN (a := (x : Int) - r) (n := (W : Int)) (by omega)
          obtain ⟨q, hq⟩ : ∃ q : Nat, ((x : Int) - r) % (W : Int) = (q : Int) := ⟨(((x : Int) - r) % (W : Int)).toNat, by omega⟩
          have hqr : q < row.size := by omega
          have hqr' : (q : Int) < (W : Int) := by omega
          have HMX := Lib.hid (fun W' => l14Mod_any ((x : Int) - r) (W : Int) W' (by omega) (by omega))
          have HSBx := Lib.hid (HSBy.out x)
          rw [hq] at HMX HSBx
          have HQT : Hid (((q : Nat) : Int).toNat = q) := Lib.hid (by omega)
          rw [HQT.out, byteAt row q hqr] at HSBx
          have HXN : Hid ((List.range (x + 1)).map (shB xs r u y) = (List.range x).map (shB xs r u y) ++ [shB xs r u y x]) := Lib.hid (by simp [List.range_succ])
          have HXL : Hid (((List.range x).map (shB xs r u y)).length = x) := Lib.hid (by simp)
          rw [HSBx.out] at HXN
          generalize (List.range x).map (shB xs r u y) = L at *
          have i1 := IntWalk.i64_in ((x : Int) - r) (by omega)
          have hUl := hU
          unfold OwnU at hUl
          rw [HXL.out] at hUl
          have HB2 := Lib.hid hB
          have hB2z := hB.size
          clear hq n1 n2 hU hB
          generalize hcc : row[q] = cc at *
          have HCC := Lib.hid hcc
          clear HSBx
          go_wp2_with fail
          refine (HMX.out _).mono ?_
          rintro e w1 ⟨rfl, rfl⟩
          go_wp2_with (at_builtin; refine wpList_append_new _ rfl _ _ 40 rfl _ 5 j0 (.int .u8 0) 1 1 Try.underlying40 hj hj0 hj1 hj2 rfl (by decide) _ _ _ rfl (World.ownsRow.alloc hUl _) ⟨wr.heap.size, 0, none⟩ 1 1 [.int .u8 (cc.toNat : Int)] rfl rfl (cell_one_new _ _ _) (by simp [Value.oneCell']) (by unfold maxLen; omega) (by omega) (by first | omega | (simp; done) | (simp; omega)) (by decide) ?_; intro v' w1' hown1 hgrow1 hnew1)
          have hUn := OwnU.snoc hown1 (by rw [HXL.out])
          rw [← HXN.out] at hUn
          have HUn := Lib.hid hUn
          have HBn := Lib.hid (below_row (HB2.out.alloc hB2z _) (Nat.le_refl _) (World.ownsRow.alloc hUl _) hgrow1)
          clear hown1 hgrow1 hnew1 hUn hUl
          go_wp2
          go_roundw
          case rel => exact ⟨x + 1, _, by omega, rfl, by go_num, HUn.out, HBn.out⟩
          case measure => first | (simp [intOf]; done) | (simp [intOf]; omega)
        · obtain rfl : x = W := by omega
          have hlx' : ¬ (x : Int) < (x : Int) := by omega
          obtain ⟨aL, cL, rfl⟩ := hU.shape
          have hcv := hU.text (by simp; omega)
          rw [HBY.out y] at hcv
          have hBo := hB.size
          have HO2 := Lib.hid (HO.out.below hB)
          have HB2 := Lib.hid (below_callB HB.out hBz hB)
          have hB2z := HB2.out.size
          have hOl := HO2.out
          unfold OwnS at hOl
          rw [HLK.out] at hOl
          have HLL : Hid (((List.range x).map (shB xs r u y)).length = x) := Lib.hid (by simp)
          rw [HLL.out] at hcv ⊢
          clear hU hB
          go_wp2_with (at_builtin; refine wpList_append_new _ rfl _ _ 22 rfl _ 9 i0 (.string ByteArray.empty) 1 16 Try.underlying22 hi hi0 hi1 hi2 rfl (by decide) _ _ _ rfl (World.ownsRow.alloc hOl _) ⟨wr.heap.size, 0, none⟩ 1 1 [.string (shRow xs r u y)] rfl rfl (cell_one_new _ _ _) (by simp [Value.oneCell']) (by unfold maxLen; omega) (by omega) (by first | omega | (simp; done) | (simp; omega)) (by decide) ?_; intro v' w1' hown1 hgrow1 hnew1)
          have hOn := OwnS.snoc hown1 (by rw [HLK.out])
          rw [← HSN.out] at hOn
          have HOn := Lib.hid hOn
          have HBn := Lib.hid (below_row (HB2.out.alloc hB2z _) (Nat.le_refl _) (World.ownsRow.alloc hOl _) hgrow1)
          clear hown1 hgrow1 hnew1 hOn hOl hcv
          go_wp2
          go_roundw
          case rel => exact ⟨y + 1, _, by omega, rfl, by go_num, HOn.out, HBn.out⟩
          case measure => first | (simp [intOf]; done) | (simp [intOf]; omega)
    · obtain rfl : y = len := by omega
      have HO := Lib.hid hO
      have HB := Lib.hid hB
      clear hO hB
      go_wp2
      go_ret
      have e : shL xs r u = (List.range y).map (shRow xs r u) := by unfold shL; rw [HLX.out]
      rw [e]
      exact newS_mk HO.out HB.out
/-- The shifted pattern, or nothing, and the code. -/
def spW (r u : Int) : Bool := inB r (-100) 100 && inB u (-100) 100
def spI (ss : List ByteArray) (r u : Int) : List ByteArray := if patB ss = true ∧ spW r u = true then shL ss r u else []
def spC (ss : List ByteArray) (r u : Int) : Int := if patB ss = false then 1 else if spW r u = false then 2 else 0
theorem spI_len (ss : List ByteArray) (r u : Int) : (spI ss r u).length ≤ 1000000 := by
  unfold spI
  split
  · have := (patB_t (by rename_i h; exact h.1)).2.1
    rw [shL_len]; omega
  · simp
theorem sp_1 {ss : List ByteArray} {r u : Int} (h : patB ss = false) : spI ss r u = [] ∧ spC ss r u = 1 := by simp [spI, spC, h]
theorem sp_2 {ss : List ByteArray} {r u : Int} (h : patB ss = true) (h2 : spW r u = false) : spI ss r u = [] ∧ spC ss r u = 2 := by simp [spI, spC, h, h2]
theorem sp_0 {ss : List ByteArray} {r u : Int} (h : patB ss = true) (h2 : spW r u = true) : spI ss r u = shL ss r u ∧ spC ss r u = 0 := by simp [spI, spC, h, h2]
theorem shL_size {ss : List ByteArray} (h : patB ss = true) (r u : Int) : ∀ s ∈ shL ss r u, s.size ≤ maxLen := fun s hs => by
  obtain ⟨y, hy, rfl⟩ := List.mem_map.1 hs
  rw [shRow_size h]
  have := (patB_t h).2.2.2.1
  unfold maxLen; omega
theorem nil_size : ∀ s ∈ ([] : List ByteArray), s.size ≤ maxLen := fun s hs => by cases hs
set_option maxHeartbeats 1000000 in
theorem shiftPattern_any (a : Option Addr) (len cap : Nat) (ss : List ByteArray) (r u : Int) (w : World) (h : IsStrs w a len cap ss) :
    Calls Try.prog 28 #[.slice a len cap, .int .i64 r, .int .i64 u] w (NewSC w (spI ss r u) (spC ss r u)) := by
  have H := Lib.hid h
  have HV := Lib.hid (fun W hW => validPattern_any a len cap ss W hW)
  cases g : patB ss
  · obtain ⟨k1, k2⟩ := sp_1 (r := r) (u := u) g
    rw [k1, k2]
    rw [g] at HV
    clear h g k1 k2
    go_enter Try.func28, Try.ntmps28
    go_wp2_with fail
    refine (HV.out _ (H.out.below (by repeat (first | exact Below.refl _ _ | assumption | refine Below.drew ?_ | refine below_drewN ?_ _ | refine Below.alloc ?_ (by first | omega | (simp; done) | (simp; omega)) _ | refine Below.setCell ?_ (by first | omega | (simp; done) | (simp; omega)) _)))).mono ?_
    rintro e1 w1 ⟨rfl, hb1⟩
    obtain ⟨hc1, hf1⟩ := bcell hb1
    have hz1 := hb1.size
    try simp at hz1
    have ha1 : Below w.heap.size w w1 := below_call (by repeat (first | exact Below.refl _ _ | assumption | refine Below.drew ?_ | refine below_drewN ?_ _ | refine Below.alloc ?_ (by first | omega | (simp; done) | (simp; omega)) _ | refine Below.setCell ?_ (by first | omega | (simp; done) | (simp; omega)) _)) hb1
    go_wp2
    go_ret2
    exact newSC_mk (ownS_nil _ _) nil_size (by repeat (first | exact Below.refl _ _ | assumption | refine Below.drew ?_ | refine below_drewN ?_ _ | refine Below.alloc ?_ (by first | omega | (simp; done) | (simp; omega)) _ | refine Below.setCell ?_ (by first | omega | (simp; done) | (simp; omega)) _))
  · have HA := Lib.hid (fun W hW (_ : -1000 ≤ r) (_ : r ≤ 1000) (_ : -1000 ≤ u) (_ : u ≤ 1000) => shifted_any a len cap ss r u W hW g)
    have HSZ := Lib.hid (shL_size g r u)
    have HW1 := Lib.hid (fun W => within_any r (-100) 100 W)
    have HW2 := Lib.hid (fun W => within_any u (-100) 100 W)
    have e2 := fun q => sp_2 (r := r) (u := u) g q
    have e3 := fun q => sp_0 (r := r) (u := u) g q
    rw [g] at HV
    cases g1 : inB r (-100) 100
    · obtain ⟨k1, k2⟩ := e2 (by simp [spW, g1])
      rw [k1, k2]
      rw [g1] at HW1
      clear h g k1 k2 e2 e3 g1 HA HSZ
      go_enter Try.func28, Try.ntmps28
      go_wp2_with fail
      refine (HV.out _ (H.out.below (by repeat (first | exact Below.refl _ _ | assumption | refine Below.drew ?_ | refine below_drewN ?_ _ | refine Below.alloc ?_ (by first | omega | (simp; done) | (simp; omega)) _ | refine Below.setCell ?_ (by first | omega | (simp; done) | (simp; omega)) _)))).mono ?_
      rintro e1 w1 ⟨rfl, hb1⟩
      obtain ⟨hc1, hf1⟩ := bcell hb1
      have hz1 := hb1.size
      try simp at hz1
      have ha1 : Below w.heap.size w w1 := below_call (by repeat (first | exact Below.refl _ _ | assumption | refine Below.drew ?_ | refine below_drewN ?_ _ | refine Below.alloc ?_ (by first | omega | (simp; done) | (simp; omega)) _ | refine Below.setCell ?_ (by first | omega | (simp; done) | (simp; omega)) _)) hb1
      go_wp2_with fail
      refine (HW1.out _).mono ?_
      rintro e q ⟨rfl, rfl⟩
      go_wp2
      go_ret2
      exact newSC_mk (ownS_nil _ _) nil_size (by repeat (first | exact Below.refl _ _ | assumption | refine Below.drew ?_ | refine below_drewN ?_ _ | refine Below.alloc ?_ (by first | omega | (simp; done) | (simp; omega)) _ | refine Below.setCell ?_ (by first | omega | (simp; done) | (simp; omega)) _))
    · cases g2 : inB u (-100) 100
      · obtain ⟨k1, k2⟩ := e2 (by simp [spW, g2])
        rw [k1, k2]
        rw [g1] at HW1
        rw [g2] at HW2
        clear h g k1 k2 e2 e3 g1 g2 HA HSZ
        go_enter Try.func28, Try.ntmps28
        go_wp2_with fail
        refine (HV.out _ (H.out.below (by repeat (first | exact Below.refl _ _ | assumption | refine Below.drew ?_ | refine below_drewN ?_ _ | refine Below.alloc ?_ (by first | omega | (simp; done) | (simp; omega)) _ | refine Below.setCell ?_ (by first | omega | (simp; done) | (simp; omega)) _)))).mono ?_
        rintro e1 w1 ⟨rfl, hb1⟩
        obtain ⟨hc1, hf1⟩ := bcell hb1
        have hz1 := hb1.size
        try simp at hz1
        have ha1 : Below w.heap.size w w1 := below_call (by repeat (first | exact Below.refl _ _ | assumption | refine Below.drew ?_ | refine below_drewN ?_ _ | refine Below.alloc ?_ (by first | omega | (simp; done) | (simp; omega)) _ | refine Below.setCell ?_ (by first | omega | (simp; done) | (simp; omega)) _)) hb1
        go_wp2_with fail
        refine (HW1.out _).mono ?_
        rintro e q ⟨rfl, rfl⟩
        go_wp2_with fail
        refine (HW2.out _).mono ?_
        rintro e q ⟨rfl, rfl⟩
        go_wp2
        go_ret2
        exact newSC_mk (ownS_nil _ _) nil_size (by repeat (first | exact Below.refl _ _ | assumption | refine Below.drew ?_ | refine below_drewN ?_ _ | refine Below.alloc ?_ (by first | omega | (simp; done) | (simp; omega)) _ | refine Below.setCell ?_ (by first | omega | (simp; done) | (simp; omega)) _))
      · obtain ⟨k1, k2⟩ := e3 (by simp [spW, g1, g2])
        rw [k1, k2]
        have b1 := inB_t g1
        have b2 := inB_t g2
        rw [g1] at HW1
        rw [g2] at HW2
        have HA2 := Lib.hid (fun W hW => HA.out W hW (by omega) (by omega) (by omega) (by omega))
        clear h g k1 k2 e2 e3 g1 g2 HA
        go_enter Try.func28, Try.ntmps28
        go_wp2_with fail
        refine (HV.out _ (H.out.below (by repeat (first | exact Below.refl _ _ | assumption | refine Below.drew ?_ | refine below_drewN ?_ _ | refine Below.alloc ?_ (by first | omega | (simp; done) | (simp; omega)) _ | refine Below.setCell ?_ (by first | omega | (simp; done) | (simp; omega)) _)))).mono ?_
        rintro e1 w1 ⟨rfl, hb1⟩
        obtain ⟨hc1, hf1⟩ := bcell hb1
        have hz1 := hb1.size
        try simp at hz1
        have ha1 : Below w.heap.size w w1 := below_call (by repeat (first | exact Below.refl _ _ | assumption | refine Below.drew ?_ | refine below_drewN ?_ _ | refine Below.alloc ?_ (by first | omega | (simp; done) | (simp; omega)) _ | refine Below.setCell ?_ (by first | omega | (simp; done) | (simp; omega)) _)) hb1
        go_wp2_with fail
        refine (HW1.out _).mono ?_
        rintro e q ⟨rfl, rfl⟩
        go_wp2_with fail
        refine (HW2.out _).mono ?_
        rintro e q ⟨rfl, rfl⟩
        go_wp2_with fail
        refine (HA2.out _ (H.out.below (by repeat (first | exact Below.refl _ _ | assumption | refine Below.drew ?_ | refine below_drewN ?_ _ | refine Below.alloc ?_ (by first | omega | (simp; done) | (simp; omega)) _ | refine Below.setCell ?_ (by first | omega | (simp; done) | (simp; omega)) _)))).mono ?_
        rintro e w2 ⟨x, c, rfl, hO, hb2⟩
        have ha2 := below_call ha1 hb2
        have hz2 := ha1.size
        have HO := Lib.hid (hO.base hz2)
        clear hO
        go_wp2
        go_ret2
        exact newSC_mk HO.out HSZ.out ha2
set_option maxHeartbeats 1000000 in
theorem specShiftPattern_any (a : Option Addr) (len cap : Nat) (ss : List ByteArray) (r u : Int) (w : World) (h : IsStrs w a len cap ss) :
    Calls Try.prog 27 #[.slice a len cap, .int .i64 r, .int .i64 u] w (NewSC w (spI ss r u) (spC ss r u)) := by
  have H := Lib.hid h
  have HV := Lib.hid (fun W hW => l14Ok_any a len cap ss W hW)
  cases g : patB ss
  · obtain ⟨k1, k2⟩ := sp_1 (r := r) (u := u) g
    rw [k1, k2]
    rw [g] at HV
    clear h g k1 k2
    go_enter Try.func27, Try.ntmps27
    go_wp2_with fail
    refine (HV.out _ (H.out.below (by repeat (first | exact Below.refl _ _ | assumption | refine Below.drew ?_ | refine below_drewN ?_ _ | refine Below.alloc ?_ (by first | omega | (simp; done) | (simp; omega)) _ | refine Below.setCell ?_ (by first | omega | (simp; done) | (simp; omega)) _)))).mono ?_
    rintro e1 w1 ⟨rfl, hb1⟩
    obtain ⟨hc1, hf1⟩ := bcell hb1
    have hz1 := hb1.size
    try simp at hz1
    have ha1 : Below w.heap.size w w1 := below_call (by repeat (first | exact Below.refl _ _ | assumption | refine Below.drew ?_ | refine below_drewN ?_ _ | refine Below.alloc ?_ (by first | omega | (simp; done) | (simp; omega)) _ | refine Below.setCell ?_ (by first | omega | (simp; done) | (simp; omega)) _)) hb1
    go_wp2
    go_ret2
    exact newSC_mk (ownS_nil _ _) nil_size (by repeat (first | exact Below.refl _ _ | assumption | refine Below.drew ?_ | refine below_drewN ?_ _ | refine Below.alloc ?_ (by first | omega | (simp; done) | (simp; omega)) _ | refine Below.setCell ?_ (by first | omega | (simp; done) | (simp; omega)) _))
  · have HA := Lib.hid (fun W hW h1 h2 h3 h4 => l14Shift_any a len cap ss r u W hW g h1 h2 h3 h4)
    have HSZ := Lib.hid (shL_size g r u)
    have HW1 := Lib.hid (fun W => l00In_any r (-100) 100 W)
    have HW2 := Lib.hid (fun W => l00In_any u (-100) 100 W)
    have e2 := fun q => sp_2 (r := r) (u := u) g q
    have e3 := fun q => sp_0 (r := r) (u := u) g q
    rw [g] at HV
    cases g1 : inB r (-100) 100
    · obtain ⟨k1, k2⟩ := e2 (by simp [spW, g1])
      rw [k1, k2]
      rw [g1] at HW1
      clear h g k1 k2 e2 e3 g1 HA HSZ
      go_enter Try.func27, Try.ntmps27
      go_wp2_with fail
      refine (HV.out _ (H.out.below (by repeat (first | exact Below.refl _ _ | assumption | refine Below.drew ?_ | refine below_drewN ?_ _ | refine Below.alloc ?_ (by first | omega | (simp; done) | (simp; omega)) _ | refine Below.setCell ?_ (by first | omega | (simp; done) | (simp; omega)) _)))).mono ?_
      rintro e1 w1 ⟨rfl, hb1⟩
      obtain ⟨hc1, hf1⟩ := bcell hb1
      have hz1 := hb1.size
      try simp at hz1
      have ha1 : Below w.heap.size w w1 := below_call (by repeat (first | exact Below.refl _ _ | assumption | refine Below.drew ?_ | refine below_drewN ?_ _ | refine Below.alloc ?_ (by first | omega | (simp; done) | (simp; omega)) _ | refine Below.setCell ?_ (by first | omega | (simp; done) | (simp; omega)) _)) hb1
      go_wp2_with fail
      refine (HW1.out _).mono ?_
      rintro e q ⟨rfl, rfl⟩
      go_wp2
      go_ret2
      exact newSC_mk (ownS_nil _ _) nil_size (by repeat (first | exact Below.refl _ _ | assumption | refine Below.drew ?_ | refine below_drewN ?_ _ | refine Below.alloc ?_ (by first | omega | (simp; done) | (simp; omega)) _ | refine Below.setCell ?_ (by first | omega | (simp; done) | (simp; omega)) _))
    · cases g2 : inB u (-100) 100
      · obtain ⟨k1, k2⟩ := e2 (by simp [spW, g2])
        rw [k1, k2]
        rw [g1] at HW1
        rw [g2] at HW2
        clear h g k1 k2 e2 e3 g1 g2 HA HSZ
        go_enter Try.func27, Try.ntmps27
        go_wp2_with fail
        refine (HV.out _ (H.out.below (by repeat (first | exact Below.refl _ _ | assumption | refine Below.drew ?_ | refine below_drewN ?_ _ | refine Below.alloc ?_ (by first | omega | (simp; done) | (simp; omega)) _ | refine Below.setCell ?_ (by first | omega | (simp; done) | (simp; omega)) _)))).mono ?_
        rintro e1 w1 ⟨rfl, hb1⟩
        obtain ⟨hc1, hf1⟩ := bcell hb1
        have hz1 := hb1.size
        try simp at hz1
        have ha1 : Below w.heap.size w w1 := below_call (by repeat (first | exact Below.refl _ _ | assumption | refine Below.drew ?_ | refine below_drewN ?_ _ | refine Below.alloc ?_ (by first | omega | (simp; done) | (simp; omega)) _ | refine Below.setCell ?_ (by first | omega | (simp; done) | (simp; omega)) _)) hb1
        go_wp2_with fail
        refine (HW1.out _).mono ?_
        rintro e q ⟨rfl, rfl⟩
        go_wp2_with fail
        refine (HW2.out _).mono ?_
        rintro e q ⟨rfl, rfl⟩
        go_wp2
        go_ret2
        exact newSC_mk (ownS_nil _ _) nil_size (by repeat (first | exact Below.refl _ _ | assumption | refine Below.drew ?_ | refine below_drewN ?_ _ | refine Below.alloc ?_ (by first | omega | (simp; done) | (simp; omega)) _ | refine Below.setCell ?_ (by first | omega | (simp; done) | (simp; omega)) _))
      · obtain ⟨k1, k2⟩ := e3 (by simp [spW, g1, g2])
        rw [k1, k2]
        have b1 := inB_t g1
        have b2 := inB_t g2
        rw [g1] at HW1
        rw [g2] at HW2
        have HA2 := Lib.hid (fun W hW => HA.out W hW (by omega) (by omega) (by omega) (by omega))
        clear h g k1 k2 e2 e3 g1 g2 HA
        go_enter Try.func27, Try.ntmps27
        go_wp2_with fail
        refine (HV.out _ (H.out.below (by repeat (first | exact Below.refl _ _ | assumption | refine Below.drew ?_ | refine below_drewN ?_ _ | refine Below.alloc ?_ (by first | omega | (simp; done) | (simp; omega)) _ | refine Below.setCell ?_ (by first | omega | (simp; done) | (simp; omega)) _)))).mono ?_
        rintro e1 w1 ⟨rfl, hb1⟩
        obtain ⟨hc1, hf1⟩ := bcell hb1
        have hz1 := hb1.size
        try simp at hz1
        have ha1 : Below w.heap.size w w1 := below_call (by repeat (first | exact Below.refl _ _ | assumption | refine Below.drew ?_ | refine below_drewN ?_ _ | refine Below.alloc ?_ (by first | omega | (simp; done) | (simp; omega)) _ | refine Below.setCell ?_ (by first | omega | (simp; done) | (simp; omega)) _)) hb1
        go_wp2_with fail
        refine (HW1.out _).mono ?_
        rintro e q ⟨rfl, rfl⟩
        go_wp2_with fail
        refine (HW2.out _).mono ?_
        rintro e q ⟨rfl, rfl⟩
        go_wp2_with fail
        refine (HA2.out _ (H.out.below (by repeat (first | exact Below.refl _ _ | assumption | refine Below.drew ?_ | refine below_drewN ?_ _ | refine Below.alloc ?_ (by first | omega | (simp; done) | (simp; omega)) _ | refine Below.setCell ?_ (by first | omega | (simp; done) | (simp; omega)) _)))).mono ?_
        rintro e w2 ⟨x, c, rfl, hO, hb2⟩
        have ha2 := below_call ha1 hb2
        have hz2 := ha1.size
        have HO := Lib.hid (hO.base hz2)
        clear hO
        go_wp2
        go_ret2
        exact newSC_mk HO.out HSZ.out ha2
end Go.Proofs.Ytlkdkidpbjpkhaa
