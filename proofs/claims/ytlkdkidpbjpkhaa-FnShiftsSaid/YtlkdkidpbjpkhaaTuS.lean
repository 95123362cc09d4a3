/- Contracts of the reference's l14Turn and TurnPattern, and of both KeepsTurn; no old memory turns; condition: the slices can be read. -/
import Derived.Test.YtlkdkidpbjpkhaaTuI
namespace Go.Proofs.Ytlkdkidpbjpkhaa
open Go.RowKit

set_option maxRecDepth 100000 in
set_option maxHeartbeats 4000000 in
theorem l14Turn_any (a : Option Addr) (len cap : Nat) (ss : List ByteArray) (kind : Int) (w : World) (h : IsStrs w a len cap ss) (g : patB ss = true) :
    Calls Try.prog 63 #[.slice a len cap, .int .i64 kind] w (NewS w (tuL ss kind)) := by
  have hl := h.1
  obtain ⟨v1, v2, v3, v4, v5⟩ := patB_t g
  rw [hl] at v1 v2
  have HS := Lib.hid (fun i (hi : i < len) => show (ss.getD i ByteArray.empty).size = patN ss from (v5 i (by rw [hl]; exact hi)).1)
  have HTR : Hid (∀ y, tuRow ss kind y = tuF kind (ss.getD (if kind = 0 then y else len - 1 - y) ByteArray.empty)) := Lib.hid (fun y => by rw [← hl]; rfl)
  have HF1 : Hid (∀ s, kind = 1 → tuF kind s = s) := Lib.hid (fun s e => by unfold tuF; rw [if_pos e])
  have HF2 : Hid (∀ s, kind ≠ 1 → tuF kind s = revS s) := Lib.hid (fun s e => by unfold tuF; rw [if_neg e])
  have HTL : Hid (tuL ss kind = (List.range len).map (tuRow ss kind)) := Lib.hid (by rw [← hl]; rfl)
  obtain ⟨b, o, rfl, hb⟩ := h.addr (by omega)
  have HD := Lib.hid (fun i hi => h.same (i := i) hi)
  generalize patN ss = W at *
  obtain ⟨i0, hi, hi0, hi1, hi2⟩ := info_parts info_str
  obtain ⟨j0, hj, hj0, hj1, hj2⟩ := info_parts info_u8
  clear h g v5 hl
  rw [HTL.out]
  go_enter Try.func63, Try.ntmps63
  go_wp2_with fail
  go_loopw [5, 6, 7, 8, 9] (fun os i _ _ _ wr => ∃ (y : Nat) (vo : Value), y ≤ len ∧ vo = os ∧ i = .int .i64 (y : Int) ∧ OwnS wr w.heap.size vo ((List.range y).map (tuRow ss kind)) ∧ Below w.heap.size w wr) (fun _ i _ _ _ _ => (len - intOf i).toNat)
  case atStart => exact ⟨0, _, by omega, rfl, rfl, ownS_empty _ _ (Nat.le_refl _), (by repeat (first | exact Below.refl _ _ | assumption | refine Below.drew ?_ | refine below_drewN ?_ _ | refine Below.alloc ?_ (by first | omega | (simp; done) | (simp; omega)) _ | refine Below.setCell ?_ (by first | omega | (simp; done) | (simp; omega)) _))⟩
  case round =>
    obtain ⟨y, vo, hy, rfl, rfl, hO, hB⟩ := hrel
    by_cases hly : y < len
    · have hly' : (y : Int) < (len : Int) := by omega
      have hc := keep1 hB (HD.out y hly)
      have hsr0 := HS.out y hly
      have HN : Hid ((List.range (y + 1)).map (tuRow ss kind) = (List.range y).map (tuRow ss kind) ++ [tuRow ss kind y]) := Lib.hid (by simp [List.range_succ])
      have HLK : Hid (((List.range y).map (tuRow ss kind)).length = y) := Lib.hid (by simp)
      generalize (List.range y).map (tuRow ss kind) = P at *
      rw [HTR.out] at HN
      by_cases hk0 : kind = 0
      · have y1 : (kind != 0) = false := by simpa using hk0
        have y2 : (kind != 1) = true := by simp; omega
        rw [if_pos hk0] at HN
        have HTF := Lib.hid (HF2.out (ss.getD y ByteArray.empty) (by omega))
        generalize ss.getD y ByteArray.empty = row at *
        have hsr := hsr0
        clear hk0 hsr0
        obtain ⟨cp, W2, hcv, hby, hbW, hWz⟩ := bytes_new wr row
        have hbl : row.data.toList.length = W := by rw [← hsr]; simp
        rw [hsr] at hcv
        have hBz := hB.size
        have HO2 := Lib.hid (hO.below hbW)
        have HB2 := Lib.hid (below_callB hB hBz hbW)
        have hB2z := HB2.out.size
        clear hO hB hbW hWz
        rw [HTF.out] at HN
        clear hby
        go_wp2_with fail
        clear hcv
        obtain ⟨W3, hW3⟩ : ∃ W3 : World, W2.alloc (.cells #[] 5) = W3 := ⟨_, rfl⟩
        have HU0 : Hid (OwnU W3 W2.heap.size (.slice (some ⟨W2.heap.size, 0, none⟩) 0 0) []) := Lib.hid (by rw [← hW3]; exact ownU_empty _ _ (Nat.le_refl _))
        have HBU : Hid (Below W2.heap.size W2 W3) := Lib.hid (by rw [← hW3]; exact (by repeat (first | exact Below.refl _ _ | assumption | refine Below.drew ?_ | refine below_drewN ?_ _ | refine Below.alloc ?_ (by first | omega | (simp; done) | (simp; omega)) _ | refine Below.setCell ?_ (by first | omega | (simp; done) | (simp; omega)) _)))
        rw [hW3]
        clear hW3
        go_loopw [8, 9] (fun ls i wr => ∃ (k : Nat) (vl : Value), k ≤ W ∧ vl = ls ∧ i = .int .i64 ((W : Int) - 1 - (k : Int)) ∧ OwnU wr W2.heap.size vl (row.data.toList.reverse.take k) ∧ Below W2.heap.size W2 wr) (fun _ i _ => (intOf i + 1).toNat)
        case atStart => exact ⟨0, _, by omega, rfl, by go_num, HU0.out, HBU.out⟩
        case round =>
          clear HU0 HBU
          obtain ⟨k, vl, hk, rfl, rfl, hU, hBU⟩ := hrel
          by_cases hlk : k < W
          · obtain ⟨q, hq⟩ : ∃ q : Nat, q + k + 1 = W := ⟨W - 1 - k, by omega⟩
            have hqi : (W : Int) - 1 - (k : Int) = (q : Int) := by omega
            have HME := Lib.hid (show (q : Int) - 1 = (W : Int) - 1 - ((k + 1 : Nat) : Int) by omega)
            rw [hqi]
            have hqr : q < row.size := by omega
            have hqr' : (q : Int) < (W : Int) := by omega
            have hq0 : (0 : Int) ≤ (q : Int) := by omega
            have HNX := Lib.hid (revU_next (bs := row.data.toList) (k := k) (m := q) (by rw [hbl]; exact hq))
            have HXL := Lib.hid (revU_len (bs := row.data.toList) (k := k) (by rw [hbl]; omega))
            rw [byteAt row q hqr] at HNX
            generalize row.data.toList.reverse.take k = L at *
            have hUl := hU
            unfold OwnU at hUl
            rw [HXL.out] at hUl
            have HB4 := Lib.hid hBU
            have hB4z := hBU.size
            generalize hcc : row[q] = cc at *
            have HCC := Lib.hid hcc
            have HQI := Lib.hid hqi
            have HQ := Lib.hid hq
            clear hU hBU hqi hq
            go_wp2_with (at_builtin; refine wpList_append_new _ rfl _ _ 40 rfl _ 5 j0 (.int .u8 0) 1 1 Try.underlying40 hj hj0 hj1 hj2 rfl (by decide) _ _ _ rfl (World.ownsRow.alloc hUl _) ⟨wr.heap.size, 0, none⟩ 1 1 [.int .u8 (cc.toNat : Int)] rfl rfl (cell_one_new _ _ _) (by simp [Value.oneCell']) (by unfold maxLen; omega) (by omega) (by first | omega | (simp; done) | (simp; omega)) (by decide) ?_; intro v' w1' hown1 hgrow1 hnew1)
            have hUn := OwnU.snoc hown1 (by rw [HXL.out])
            rw [← HNX.out] at hUn
            have HUn := Lib.hid hUn
            have HBn := Lib.hid (below_row (HB4.out.alloc hB4z _) (Nat.le_refl _) (World.ownsRow.alloc hUl _) hgrow1)
            clear hown1 hgrow1 hnew1 hUn hUl hcc
            go_wp2
            go_roundw
            case rel => exact ⟨k + 1, _, by omega, rfl, by rw [HME.out], HUn.out, HBn.out⟩
            case measure => first | (simp [intOf]; done) | (simp [intOf]; omega)
          · obtain rfl : k = W := by omega
            have hme : (k : Int) - 1 - (k : Int) = -1 := by omega
            rw [hme]
            have HTK : Hid (row.data.toList.reverse.take k = row.data.toList.reverse) := Lib.hid (List.take_of_length_le (by rw [List.length_reverse, hbl]; exact Nat.le_refl _))
            rw [HTK.out] at hU
            obtain ⟨aL, cL, rfl⟩ := hU.shape
            have hcv := hU.text (by rw [List.length_reverse, hbl]; omega)
            rw [revS_of] at hcv
            have HRL : Hid (row.data.toList.reverse.length = k) := Lib.hid (by rw [List.length_reverse]; exact hbl)
            rw [HRL.out] at hcv ⊢
            have HO5 := Lib.hid (HO2.out.below hBU)
            have HB5 := Lib.hid (below_callB HB2.out hB2z hBU)
            have hB5z := HB5.out.size
            have hOl := HO5.out
            unfold OwnS at hOl
            rw [HLK.out] at hOl
            clear hU hBU hme
            go_wp2_with (at_builtin; refine wpList_append_new _ rfl _ _ 22 rfl _ 9 i0 (.string ByteArray.empty) 1 16 Try.underlying22 hi hi0 hi1 hi2 rfl (by decide) _ _ _ rfl (World.ownsRow.alloc hOl _) ⟨wr.heap.size, 0, none⟩ 1 1 [.string (revS row)] rfl rfl (cell_one_new _ _ _) (by simp [Value.oneCell']) (by unfold maxLen; omega) (by omega) (by first | omega | (simp; done) | (simp; omega)) (by decide) ?_; intro v' w1' hown1 hgrow1 hnew1)
            have hOn := OwnS.snoc hown1 (by rw [HLK.out])
            rw [← HN.out] at hOn
            have HOn := Lib.hid hOn
            have HBn := Lib.hid (below_row (HB5.out.alloc hB5z _) (Nat.le_refl _) (World.ownsRow.alloc hOl _) hgrow1)
            clear hown1 hgrow1 hnew1 hOn hOl
            (try clear hct hcv)
            go_wp2
            go_roundw
            case rel => exact ⟨y + 1, _, by omega, rfl, by go_num, HOn.out, HBn.out⟩
            case measure => first | (simp [intOf]; done) | (simp [intOf]; omega)
      · have y1 : (kind != 0) = true := by simpa using hk0
        rw [if_neg hk0] at HN
        obtain ⟨m, hm⟩ : ∃ m : Nat, m + y + 1 = len := ⟨len - 1 - y, by omega⟩
        have hme : len - 1 - y = m := by omega
        rw [hme] at HN
        have hmi : (len : Int) - 1 - (y : Int) = (m : Int) := by omega
        have hml : m < len := by omega
        have hml' : (m : Int) < (len : Int) := by omega
        have hcm := keep1 hB (HD.out m hml)
        have hsr := HS.out m hml
        have HT1 := Lib.hid (HF1.out (ss.getD m ByteArray.empty))
        have HT2 := Lib.hid (HF2.out (ss.getD m ByteArray.empty))
        generalize ss.getD m ByteArray.empty = row at *
        generalize ss.getD y ByteArray.empty = row0 at *
        have HMM := Lib.hid hm
        clear hk0 hsr0 hm hme
        by_cases hk1 : kind = 1
        · have y2 : (kind != 1) = false := by simpa using hk1
          have HTF := Lib.hid (HT1.out hk1)
          clear hk1
          obtain ⟨cp, W2, hcv, hby, hbW, hWz⟩ := bytes_new wr row
          have hbl : row.data.toList.length = W := by rw [← hsr]; simp
          rw [hsr] at hcv
          have hBz := hB.size
          have HO2 := Lib.hid (hO.below hbW)
          have HB2 := Lib.hid (below_callB hB hBz hbW)
          have hB2z := HB2.out.size
          clear hO hB hbW hWz
          have hct := bytes_text (c := cp) hby hbl
          rw [sameS_of] at hct
          rw [HTF.out] at HN
          have hOl := HO2.out
          unfold OwnS at hOl
          rw [HLK.out] at hOl
          clear hby
          go_wp2_with (at_builtin; refine wpList_append_new _ rfl _ _ 22 rfl _ 9 i0 (.string ByteArray.empty) 1 16 Try.underlying22 hi hi0 hi1 hi2 rfl (by decide) _ _ _ rfl (World.ownsRow.alloc hOl _) ⟨W2.heap.size, 0, none⟩ 1 1 [.string row] rfl rfl (cell_one_new _ _ _) (by simp [Value.oneCell']) (by unfold maxLen; omega) (by omega) (by first | omega | (simp; done) | (simp; omega)) (by decide) ?_; intro v' w1' hown1 hgrow1 hnew1)
          have hOn := OwnS.snoc hown1 (by rw [HLK.out])
          rw [← HN.out] at hOn
          have HOn := Lib.hid hOn
          have HBn := Lib.hid (below_row (HB2.out.alloc hB2z _) (Nat.le_refl _) (World.ownsRow.alloc hOl _) hgrow1)
          clear hown1 hgrow1 hnew1 hOn hOl
          (try clear hct hcv)
          go_wp2
          go_roundw
          case rel => exact ⟨y + 1, _, by omega, rfl, by go_num, HOn.out, HBn.out⟩
          case measure => first | (simp [intOf]; done) | (simp [intOf]; omega)
        · have y2 : (kind != 1) = true := by simpa using hk1
          have HTF := Lib.hid (HT2.out hk1)
          clear hk1
          obtain ⟨cp, W2, hcv, hby, hbW, hWz⟩ := bytes_new wr row
          have hbl : row.data.toList.length = W := by rw [← hsr]; simp
          rw [hsr] at hcv
          have hBz := hB.size
          have HO2 := Lib.hid (hO.below hbW)
          have HB2 := Lib.hid (below_callB hB hBz hbW)
          have hB2z := HB2.out.size
          clear hO hB hbW hWz
          rw [HTF.out] at HN
          clear hby
          go_wp2_with fail
          clear hcv
          obtain ⟨W3, hW3⟩ : ∃ W3 : World, W2.alloc (.cells #[] 5) = W3 := ⟨_, rfl⟩
          have HU0 : Hid (OwnU W3 W2.heap.size (.slice (some ⟨W2.heap.size, 0, none⟩) 0 0) []) := Lib.hid (by rw [← hW3]; exact ownU_empty _ _ (Nat.le_refl _))
          have HBU : Hid (Below W2.heap.size W2 W3) := Lib.hid (by rw [← hW3]; exact (by repeat (first | exact Below.refl _ _ | assumption | refine Below.drew ?_ | refine below_drewN ?_ _ | refine Below.alloc ?_ (by first | omega | (simp; done) | (simp; omega)) _ | refine Below.setCell ?_ (by first | omega | (simp; done) | (simp; omega)) _)))
          rw [hW3]
          clear hW3
          go_loopw [8, 9] (fun ls i wr => ∃ (k : Nat) (vl : Value), k ≤ W ∧ vl = ls ∧ i = .int .i64 ((W : Int) - 1 - (k : Int)) ∧ OwnU wr W2.heap.size vl (row.data.toList.reverse.take k) ∧ Below W2.heap.size W2 wr) (fun _ i _ => (intOf i + 1).toNat)
          case atStart => exact ⟨0, _, by omega, rfl, by go_num, HU0.out, HBU.out⟩
          case round =>
            clear HU0 HBU
            obtain ⟨k, vl, hk, rfl, rfl, hU, hBU⟩ := hrel
            by_cases hlk : k < W
            · obtain ⟨q, hq⟩ : ∃ q : Nat, q + k + 1 = W := ⟨W - 1 - k, by omega⟩
              have hqi : (W : Int) - 1 - (k : Int) = (q : Int) := by omega
              have HME := Lib.hid (show (q : Int) - 1 = (W : Int) - 1 - ((k + 1 : Nat) : Int) by omega)
              rw [hqi]
              have hqr : q < row.size := by omega
              have hqr' : (q : Int) < (W : Int) := by omega
              have hq0 : (0 : Int) ≤ (q : Int) := by omega
              have HNX := Lib.hid (revU_next (bs := row.data.toList) (k := k) (m := q) (by rw [hbl]; exact hq))
              have HXL := Lib.hid (revU_len (bs := row.data.toList) (k := k) (by rw [hbl]; omega))
              rw [byteAt row q hqr] at HNX
              generalize row.data.toList.reverse.take k = L at *
              have hUl := hU
              unfold OwnU at hUl
              rw [HXL.out] at hUl
              have HB4 := Lib.hid hBU
              have hB4z := hBU.size
              generalize hcc : row[q] = cc at *
              have HCC := Lib.hid hcc
              have HQI := Lib.hid hqi
              have HQ := Lib.hid hq
              clear hU hBU hqi hq
              go_wp2_with (at_builtin; refine wpList_append_new _ rfl _ _ 40 rfl _ 5 j0 (.int .u8 0) 1 1 Try.underlying40 hj hj0 hj1 hj2 rfl (by decide) _ _ _ rfl (World.ownsRow.alloc hUl _) ⟨wr.heap.size, 0, none⟩ 1 1 [.int .u8 (cc.toNat : Int)] rfl rfl (cell_one_new _ _ _) (by simp [Value.oneCell']) (by unfold maxLen; omega) (by omega) (by first | omega | (simp; done) | (simp; omega)) (by decide) ?_; intro v' w1' hown1 hgrow1 hnew1)
              have hUn := OwnU.snoc hown1 (by rw [HXL.out])
              rw [← HNX.out] at hUn
              have HUn := Lib.hid hUn
              have HBn := Lib.hid (below_row (HB4.out.alloc hB4z _) (Nat.le_refl _) (World.ownsRow.alloc hUl _) hgrow1)
              clear hown1 hgrow1 hnew1 hUn hUl hcc
              go_wp2
              go_roundw
              case rel => exact ⟨k + 1, _, by omega, rfl, by rw [HME.out], HUn.out, HBn.out⟩
              case measure => first | (simp [intOf]; done) | (simp [intOf]; omega)
            · obtain rfl : k = W := by omega
              have hme : (k : Int) - 1 - (k : Int) = -1 := by omega
              rw [hme]
              have HTK : Hid (row.data.toList.reverse.take k = row.data.toList.reverse) := Lib.hid (List.take_of_length_le (by rw [List.length_reverse, hbl]; exact Nat.le_refl _))
              rw [HTK.out] at hU
              obtain ⟨aL, cL, rfl⟩ := hU.shape
              have hcv := hU.text (by rw [List.length_reverse, hbl]; omega)
              rw [revS_of] at hcv
              have HRL : Hid (row.data.toList.reverse.length = k) := Lib.hid (by rw [List.length_reverse]; exact hbl)
              rw [HRL.out] at hcv ⊢
              have HO5 := Lib.hid (HO2.out.below hBU)
              have HB5 := Lib.hid (below_callB HB2.out hB2z hBU)
              have hB5z := HB5.out.size
              have hOl := HO5.out
              unfold OwnS at hOl
              rw [HLK.out] at hOl
              clear hU hBU hme
              go_wp2_with (at_builtin; refine wpList_append_new _ rfl _ _ 22 rfl _ 9 i0 (.string ByteArray.empty) 1 16 Try.underlying22 hi hi0 hi1 hi2 rfl (by decide) _ _ _ rfl (World.ownsRow.alloc hOl _) ⟨wr.heap.size, 0, none⟩ 1 1 [.string (revS row)] rfl rfl (cell_one_new _ _ _) (by simp [Value.oneCell']) (by unfold maxLen; omega) (by omega) (by first | omega | (simp; done) | (simp; omega)) (by decide) ?_; intro v' w1' hown1 hgrow1 hnew1)
              have hOn := OwnS.snoc hown1 (by rw [HLK.out])
              rw [← HN.out] at hOn
              have HOn := Lib.hid hOn
              have HBn := Lib.hid (below_row (HB5.out.alloc hB5z _) (Nat.le_refl _) (World.ownsRow.alloc hOl _) hgrow1)
              clear hown1 hgrow1 hnew1 hOn hOl
              (try clear hct hcv)
              go_wp2
              go_roundw
              case rel => exact ⟨y + 1, _, by omega, rfl, by go_num, HOn.out, HBn.out⟩
              case measure => first | (simp [intOf]; done) | (simp [intOf]; omega)
    · obtain rfl : y = len := by omega
      have HO := Lib.hid hO
      have HB := Lib.hid hB
      clear hO hB
      go_wp2
      go_ret
      exact newS_mk HO.out HB.out
theorem tuC_cases (ss : List ByteArray) (kind : Int) : (patB ss = false) ∨ (patB ss = true ∧ inB kind 0 2 = false) ∨ (patB ss = true ∧ inB kind 0 2 = true) := by
  cases patB ss
  · exact .inl rfl
  · cases inB kind 0 2
    · exact .inr (.inl ⟨rfl, rfl⟩)
    · exact .inr (.inr ⟨rfl, rfl⟩)
set_option maxHeartbeats 1000000 in
theorem patternCode_any (a : Option Addr) (len cap : Nat) (ss : List ByteArray) (kind : Int) (w : World) (h : IsStrs w a len cap ss) :
    Calls Try.prog 64 #[.slice a len cap, .int .i64 kind] w fun e w' => e = .returned (.int .i64 (tuC ss kind)) ∧ Below w.heap.size w w' := by
  have H := Lib.hid h
  have HV := Lib.hid (fun W hW => validPattern_any a len cap ss W hW)
  have HW := Lib.hid (fun W => within_any kind 0 2 W)
  rcases tuC_cases ss kind with g | ⟨g, g2⟩ | ⟨g, g2⟩
  · rw [(tu_1 g).1]
    rw [g] at HV
    clear h g
    go_enter Try.func64, Try.ntmps64
    go_wp2_with fail
    refine (HV.out _ (H.out.below (by repeat (first | exact Below.refl _ _ | assumption | refine Below.drew ?_ | refine below_drewN ?_ _ | refine Below.alloc ?_ (by first | omega | (simp; done) | (simp; omega)) _ | refine Below.setCell ?_ (by first | omega | (simp; done) | (simp; omega)) _)))).mono ?_
    rintro e1 w1 ⟨rfl, hb1⟩
    obtain ⟨hc1, hf1⟩ := bcell hb1
    have hz1 := hb1.size
    try simp at hz1
    have ha1 : Below w.heap.size w w1 := below_call (by repeat (first | exact Below.refl _ _ | assumption | refine Below.drew ?_ | refine below_drewN ?_ _ | refine Below.alloc ?_ (by first | omega | (simp; done) | (simp; omega)) _ | refine Below.setCell ?_ (by first | omega | (simp; done) | (simp; omega)) _)) hb1
    go_wp2
    go_ret
    exact ⟨rfl, (by repeat (first | exact Below.refl _ _ | assumption | refine Below.drew ?_ | refine below_drewN ?_ _ | refine Below.alloc ?_ (by first | omega | (simp; done) | (simp; omega)) _ | refine Below.setCell ?_ (by first | omega | (simp; done) | (simp; omega)) _))⟩
  · rw [(tu_2 g g2).1]
    rw [g] at HV
    rw [g2] at HW
    clear h g g2
    go_enter Try.func64, Try.ntmps64
    go_wp2_with fail
    refine (HV.out _ (H.out.below (by repeat (first | exact Below.refl _ _ | assumption | refine Below.drew ?_ | refine below_drewN ?_ _ | refine Below.alloc ?_ (by first | omega | (simp; done) | (simp; omega)) _ | refine Below.setCell ?_ (by first | omega | (simp; done) | (simp; omega)) _)))).mono ?_
    rintro e1 w1 ⟨rfl, hb1⟩
    obtain ⟨hc1, hf1⟩ := bcell hb1
    have hz1 := hb1.size
    try simp at hz1
    have ha1 : Below w.heap.size w w1 := below_call (by repeat (first | exact Below.refl _ _ | assumption | refine Below.drew ?_ | refine below_drewN ?_ _ | refine Below.alloc ?_ (by first | omega | (simp; done) | (simp; omega)) _ | refine Below.setCell ?_ (by first | omega | (simp; done) | (simp; omega)) _)) hb1
    go_wp2_with fail
    refine (HW.out _).mono ?_
    rintro e q ⟨rfl, rfl⟩
    go_wp2
    go_ret
    exact ⟨rfl, (by repeat (first | exact Below.refl _ _ | assumption | refine Below.drew ?_ | refine below_drewN ?_ _ | refine Below.alloc ?_ (by first | omega | (simp; done) | (simp; omega)) _ | refine Below.setCell ?_ (by first | omega | (simp; done) | (simp; omega)) _))⟩
  · rw [(tu_0 g g2).1]
    rw [g] at HV
    rw [g2] at HW
    clear h g g2
    go_enter Try.func64, Try.ntmps64
    go_wp2_with fail
    refine (HV.out _ (H.out.below (by repeat (first | exact Below.refl _ _ | assumption | refine Below.drew ?_ | refine below_drewN ?_ _ | refine Below.alloc ?_ (by first | omega | (simp; done) | (simp; omega)) _ | refine Below.setCell ?_ (by first | omega | (simp; done) | (simp; omega)) _)))).mono ?_
    rintro e1 w1 ⟨rfl, hb1⟩
    obtain ⟨hc1, hf1⟩ := bcell hb1
    have hz1 := hb1.size
    try simp at hz1
    have ha1 : Below w.heap.size w w1 := below_call (by repeat (first | exact Below.refl _ _ | assumption | refine Below.drew ?_ | refine below_drewN ?_ _ | refine Below.alloc ?_ (by first | omega | (simp; done) | (simp; omega)) _ | refine Below.setCell ?_ (by first | omega | (simp; done) | (simp; omega)) _)) hb1
    go_wp2_with fail
    refine (HW.out _).mono ?_
    rintro e q ⟨rfl, rfl⟩
    go_wp2
    go_ret
    exact ⟨rfl, (by repeat (first | exact Below.refl _ _ | assumption | refine Below.drew ?_ | refine below_drewN ?_ _ | refine Below.alloc ?_ (by first | omega | (simp; done) | (simp; omega)) _ | refine Below.setCell ?_ (by first | omega | (simp; done) | (simp; omega)) _))⟩
set_option maxHeartbeats 1000000 in
theorem turnPattern2_any (a : Option Addr) (len cap : Nat) (ss : List ByteArray) (kind : Int) (w : World) (h : IsStrs w a len cap ss) :
    Calls Try.prog 34 #[.slice a len cap, .int .i64 kind] w (NewSC w (tuI ss kind) (tuC ss kind)) := by
  have H := Lib.hid h
  have HV := Lib.hid (fun W hW => patternCode_any a len cap ss kind W hW)
  rcases tuC_cases ss kind with g | ⟨g, g2⟩ | ⟨g, g2⟩
  · rw [(tu_1 (kind := kind) g).2.1]
    have hcc : tuC ss kind ≠ 0 := by rw [(tu_1 (kind := kind) g).1]; decide
    have hcc' : (tuC ss kind != 0) = true := by simpa using hcc
    generalize tuC ss kind = c at *
    clear h g
    go_enter Try.func34, Try.ntmps34
    go_wp2_with fail
    refine (HV.out _ (H.out.below (by repeat (first | exact Below.refl _ _ | assumption | refine Below.drew ?_ | refine below_drewN ?_ _ | refine Below.alloc ?_ (by first | omega | (simp; done) | (simp; omega)) _ | refine Below.setCell ?_ (by first | omega | (simp; done) | (simp; omega)) _)))).mono ?_
    rintro e1 w1 ⟨rfl, hb1⟩
    obtain ⟨hc1, hf1⟩ := bcell hb1
    have hz1 := hb1.size
    try simp at hz1
    have ha1 : Below w.heap.size w w1 := below_call (by repeat (first | exact Below.refl _ _ | assumption | refine Below.drew ?_ | refine below_drewN ?_ _ | refine Below.alloc ?_ (by first | omega | (simp; done) | (simp; omega)) _ | refine Below.setCell ?_ (by first | omega | (simp; done) | (simp; omega)) _)) hb1
    go_wp2
    go_ret2
    exact newSC_mk (ownS_nil _ _) nil_size (by repeat (first | exact Below.refl _ _ | assumption | refine Below.drew ?_ | refine below_drewN ?_ _ | refine Below.alloc ?_ (by first | omega | (simp; done) | (simp; omega)) _ | refine Below.setCell ?_ (by first | omega | (simp; done) | (simp; omega)) _))
  · rw [(tu_2 g g2).2.1]
    have hcc : tuC ss kind ≠ 0 := by rw [(tu_2 g g2).1]; decide
    have hcc' : (tuC ss kind != 0) = true := by simpa using hcc
    generalize tuC ss kind = c at *
    clear h g g2
    go_enter Try.func34, Try.ntmps34
    go_wp2_with fail
    refine (HV.out _ (H.out.below (by repeat (first | exact Below.refl _ _ | assumption | refine Below.drew ?_ | refine below_drewN ?_ _ | refine Below.alloc ?_ (by first | omega | (simp; done) | (simp; omega)) _ | refine Below.setCell ?_ (by first | omega | (simp; done) | (simp; omega)) _)))).mono ?_
    rintro e1 w1 ⟨rfl, hb1⟩
    obtain ⟨hc1, hf1⟩ := bcell hb1
    have hz1 := hb1.size
    try simp at hz1
    have ha1 : Below w.heap.size w w1 := below_call (by repeat (first | exact Below.refl _ _ | assumption | refine Below.drew ?_ | refine below_drewN ?_ _ | refine Below.alloc ?_ (by first | omega | (simp; done) | (simp; omega)) _ | refine Below.setCell ?_ (by first | omega | (simp; done) | (simp; omega)) _)) hb1
    go_wp2
    go_ret2
    exact newSC_mk (ownS_nil _ _) nil_size (by repeat (first | exact Below.refl _ _ | assumption | refine Below.drew ?_ | refine below_drewN ?_ _ | refine Below.alloc ?_ (by first | omega | (simp; done) | (simp; omega)) _ | refine Below.setCell ?_ (by first | omega | (simp; done) | (simp; omega)) _))
  · rw [(tu_0 g g2).1] at HV ⊢
    rw [(tu_0 g g2).2.1]
    have HA := Lib.hid (fun W hW => turnPattern_any a len cap ss kind W hW g)
    have HSZ := Lib.hid (tuL_size g kind)
    clear h g g2
    go_enter Try.func34, Try.ntmps34
    go_wp2_with fail
    refine (HV.out _ (H.out.below (by repeat (first | exact Below.refl _ _ | assumption | refine Below.drew ?_ | refine below_drewN ?_ _ | refine Below.alloc ?_ (by first | omega | (simp; done) | (simp; omega)) _ | refine Below.setCell ?_ (by first | omega | (simp; done) | (simp; omega)) _)))).mono ?_
    rintro e1 w1 ⟨rfl, hb1⟩
    obtain ⟨hc1, hf1⟩ := bcell hb1
    have hz1 := hb1.size
    try simp at hz1
    have ha1 : Below w.heap.size w w1 := below_call (by repeat (first | exact Below.refl _ _ | assumption | refine Below.drew ?_ | refine below_drewN ?_ _ | refine Below.alloc ?_ (by first | omega | (simp; done) | (simp; omega)) _ | refine Below.setCell ?_ (by first | omega | (simp; done) | (simp; omega)) _)) hb1
    go_wp2_with fail
    refine (HA.out _ (H.out.below (by repeat (first | exact Below.refl _ _ | assumption | refine Below.drew ?_ | refine below_drewN ?_ _ | refine Below.alloc ?_ (by first | omega | (simp; done) | (simp; omega)) _ | refine Below.setCell ?_ (by first | omega | (simp; done) | (simp; omega)) _)))).mono ?_
    rintro e w2 ⟨x, c, rfl, hO, hb2⟩
    have ha2 := below_call ha1 hb2
    have hz2 := ha1.size
    have HO := Lib.hid (hO.base hz2)
    clear hO
    go_wp2
    go_ret2
    exact newSC_mk HO.out HSZ.out ha2
theorem hdB_len (l : List (Nat × Nat)) : hdB l = decide (0 < l.length) := by
  cases l with
  | nil => rfl
  | cons p t => simp [hdB]
set_option maxHeartbeats 1000000 in
theorem keepsTurn_any (a : Option Addr) (len cap : Nat) (ss : List ByteArray) (kind : Int) (w : World) (h : IsStrs w a len cap ss) :
    Calls Try.prog 38 #[.slice a len cap, .int .i64 kind] w fun e w' => e = .returned (.tuple #[.bool (tuK ss kind), .int .i64 (tuC ss kind)]) ∧ Below w.heap.size w w' := by
  have H := Lib.hid h
  have HV := Lib.hid (fun W hW => patternCode_any a len cap ss kind W hW)
  rcases tuC_cases ss kind with g | ⟨g, g2⟩ | ⟨g, g2⟩
  · rw [(tu_1 (kind := kind) g).2.2]
    have hcc : tuC ss kind ≠ 0 := by rw [(tu_1 (kind := kind) g).1]; decide
    have hcc' : (tuC ss kind != 0) = true := by simpa using hcc
    generalize tuC ss kind = c at *
    clear h g
    go_enter Try.func38, Try.ntmps38
    go_wp2_with fail
    refine (HV.out _ (H.out.below (by repeat (first | exact Below.refl _ _ | assumption | refine Below.drew ?_ | refine below_drewN ?_ _ | refine Below.alloc ?_ (by first | omega | (simp; done) | (simp; omega)) _ | refine Below.setCell ?_ (by first | omega | (simp; done) | (simp; omega)) _)))).mono ?_
    rintro e1 w1 ⟨rfl, hb1⟩
    obtain ⟨hc1, hf1⟩ := bcell hb1
    have hz1 := hb1.size
    try simp at hz1
    have ha1 : Below w.heap.size w w1 := below_call (by repeat (first | exact Below.refl _ _ | assumption | refine Below.drew ?_ | refine below_drewN ?_ _ | refine Below.alloc ?_ (by first | omega | (simp; done) | (simp; omega)) _ | refine Below.setCell ?_ (by first | omega | (simp; done) | (simp; omega)) _)) hb1
    go_wp2
    go_ret2
    exact ⟨rfl, (by repeat (first | exact Below.refl _ _ | assumption | refine Below.drew ?_ | refine below_drewN ?_ _ | refine Below.alloc ?_ (by first | omega | (simp; done) | (simp; omega)) _ | refine Below.setCell ?_ (by first | omega | (simp; done) | (simp; omega)) _))⟩
  · rw [(tu_2 g g2).2.2]
    have hcc : tuC ss kind ≠ 0 := by rw [(tu_2 g g2).1]; decide
    have hcc' : (tuC ss kind != 0) = true := by simpa using hcc
    generalize tuC ss kind = c at *
    clear h g g2
    go_enter Try.func38, Try.ntmps38
    go_wp2_with fail
    refine (HV.out _ (H.out.below (by repeat (first | exact Below.refl _ _ | assumption | refine Below.drew ?_ | refine below_drewN ?_ _ | refine Below.alloc ?_ (by first | omega | (simp; done) | (simp; omega)) _ | refine Below.setCell ?_ (by first | omega | (simp; done) | (simp; omega)) _)))).mono ?_
    rintro e1 w1 ⟨rfl, hb1⟩
    obtain ⟨hc1, hf1⟩ := bcell hb1
    have hz1 := hb1.size
    try simp at hz1
    have ha1 : Below w.heap.size w w1 := below_call (by repeat (first | exact Below.refl _ _ | assumption | refine Below.drew ?_ | refine below_drewN ?_ _ | refine Below.alloc ?_ (by first | omega | (simp; done) | (simp; omega)) _ | refine Below.setCell ?_ (by first | omega | (simp; done) | (simp; omega)) _)) hb1
    go_wp2
    go_ret2
    exact ⟨rfl, (by repeat (first | exact Below.refl _ _ | assumption | refine Below.drew ?_ | refine below_drewN ?_ _ | refine Below.alloc ?_ (by first | omega | (simp; done) | (simp; omega)) _ | refine Below.setCell ?_ (by first | omega | (simp; done) | (simp; omega)) _))⟩
  · rw [(tu_0 g g2).1] at HV ⊢
    rw [(tu_0 g g2).2.2]
    have hl := h.1
    have HA := Lib.hid (fun W hW => turnPattern_any a len cap ss kind W hW g)
    have HSZ := Lib.hid (tuL_size g kind)
    have HTL := Lib.hid ((tuL_len ss kind).trans hl)
    have HSH := Lib.hid (fun x c W hW hW' => shifts_any a x len cap c ss (tuL ss kind) W hW hW' g (fun y hy => by rw [tuL_get ss kind y hy]; exact tuRow_size g kind y hy))
    have hfl := fL_len (ys := tuL ss kind) g
    generalize tuL ss kind = T at *
    rw [hdB_len]
    generalize fL ss T = l at *
    clear h g g2 hl
    go_enter Try.func38, Try.ntmps38
    go_wp2_with fail
    refine (HV.out _ (H.out.below (by repeat (first | exact Below.refl _ _ | assumption | refine Below.drew ?_ | refine below_drewN ?_ _ | refine Below.alloc ?_ (by first | omega | (simp; done) | (simp; omega)) _ | refine Below.setCell ?_ (by first | omega | (simp; done) | (simp; omega)) _)))).mono ?_
    rintro e1 w1 ⟨rfl, hb1⟩
    obtain ⟨hc1, hf1⟩ := bcell hb1
    have hz1 := hb1.size
    try simp at hz1
    have ha1 : Below w.heap.size w w1 := below_call (by repeat (first | exact Below.refl _ _ | assumption | refine Below.drew ?_ | refine below_drewN ?_ _ | refine Below.alloc ?_ (by first | omega | (simp; done) | (simp; omega)) _ | refine Below.setCell ?_ (by first | omega | (simp; done) | (simp; omega)) _)) hb1
    go_wp2_with fail
    refine (HA.out _ (H.out.below (by repeat (first | exact Below.refl _ _ | assumption | refine Below.drew ?_ | refine below_drewN ?_ _ | refine Below.alloc ?_ (by first | omega | (simp; done) | (simp; omega)) _ | refine Below.setCell ?_ (by first | omega | (simp; done) | (simp; omega)) _)))).mono ?_
    rintro e w2 ⟨x, c, rfl, hO, hb2⟩
    rw [HTL.out] at hO ⊢
    have ha2 := below_call ha1 hb2
    have hT := hO.row HSZ.out
    go_wp2_with fail
    refine (HSH.out _ _ _ (H.out.below ha2) hT).mono ?_
    rintro e w3 ⟨v, rfl, hP, hb3⟩
    obtain ⟨xp, cp, rfl⟩ := hP.shape
    have ha3 := below_call ha2 hb3
    clear hO hT hP
    go_wp2
    go_ret2
    exact ⟨rfl, ha3⟩
set_option maxHeartbeats 1000000 in
theorem specTurnPattern_any (a : Option Addr) (len cap : Nat) (ss : List ByteArray) (kind : Int) (w : World) (h : IsStrs w a len cap ss) :
    Calls Try.prog 33 #[.slice a len cap, .int .i64 kind] w (NewSC w (tuI ss kind) (tuC ss kind)) := by
  have H := Lib.hid h
  have HV := Lib.hid (fun W hW => l14Ok_any a len cap ss W hW)
  have HW := Lib.hid (fun W => l00In_any kind 0 2 W)
  rcases tuC_cases ss kind with g | ⟨g, g2⟩ | ⟨g, g2⟩
  · rw [(tu_1 (kind := kind) g).1, (tu_1 (kind := kind) g).2.1]
    rw [g] at HV
    clear h g
    go_enter Try.func33, Try.ntmps33
    go_wp2_with fail
    refine (HV.out _ (H.out.below (by repeat (first | exact Below.refl _ _ | assumption | refine Below.drew ?_ | refine below_drewN ?_ _ | refine Below.alloc ?_ (by first | omega | (simp; done) | (simp; omega)) _ | refine Below.setCell ?_ (by first | omega | (simp; done) | (simp; omega)) _)))).mono ?_
    rintro e1 w1 ⟨rfl, hb1⟩
    obtain ⟨hc1, hf1⟩ := bcell hb1
    have hz1 := hb1.size
    try simp at hz1
    have ha1 : Below w.heap.size w w1 := below_call (by repeat (first | exact Below.refl _ _ | assumption | refine Below.drew ?_ | refine below_drewN ?_ _ | refine Below.alloc ?_ (by first | omega | (simp; done) | (simp; omega)) _ | refine Below.setCell ?_ (by first | omega | (simp; done) | (simp; omega)) _)) hb1
    go_wp2
    go_ret2
    exact newSC_mk (ownS_nil _ _) nil_size (by repeat (first | exact Below.refl _ _ | assumption | refine Below.drew ?_ | refine below_drewN ?_ _ | refine Below.alloc ?_ (by first | omega | (simp; done) | (simp; omega)) _ | refine Below.setCell ?_ (by first | omega | (simp; done) | (simp; omega)) _))
  · rw [(tu_2 g g2).1, (tu_2 g g2).2.1]
    rw [g] at HV
    rw [g2] at HW
    clear h g g2
    go_enter Try.func33, Try.ntmps33
    go_wp2_with fail
    refine (HV.out _ (H.out.below (by repeat (first | exact Below.refl _ _ | assumption | refine Below.drew ?_ | refine below_drewN ?_ _ | refine Below.alloc ?_ (by first | omega | (simp; done) | (simp; omega)) _ | refine Below.setCell ?_ (by first | omega | (simp; done) | (simp; omega)) _)))).mono ?_
    rintro e1 w1 ⟨rfl, hb1⟩
    obtain ⟨hc1, hf1⟩ := bcell hb1
    have hz1 := hb1.size
    try simp at hz1
    have ha1 : Below w.heap.size w w1 := below_call (by repeat (first | exact Below.refl _ _ | assumption | refine Below.drew ?_ | refine below_drewN ?_ _ | refine Below.alloc ?_ (by first | omega | (simp; done) | (simp; omega)) _ | refine Below.setCell ?_ (by first | omega | (simp; done) | (simp; omega)) _)) hb1
    go_wp2_with fail
    refine (HW.out _).mono ?_
    rintro e q ⟨rfl, rfl⟩
    go_wp2
    go_ret2
    exact newSC_mk (ownS_nil _ _) nil_size (by repeat (first | exact Below.refl _ _ | assumption | refine Below.drew ?_ | refine below_drewN ?_ _ | refine Below.alloc ?_ (by first | omega | (simp; done) | (simp; omega)) _ | refine Below.setCell ?_ (by first | omega | (simp; done) | (simp; omega)) _))
  · rw [(tu_0 g g2).1, (tu_0 g g2).2.1]
    have HA := Lib.hid (fun W hW => l14Turn_any a len cap ss kind W hW g)
    have HSZ := Lib.hid (tuL_size g kind)
    rw [g] at HV
    rw [g2] at HW
    clear h g g2
    go_enter Try.func33, Try.ntmps33
    go_wp2_with fail
    refine (HV.out _ (H.out.below (by repeat (first | exact Below.refl _ _ | assumption | refine Below.drew ?_ | refine below_drewN ?_ _ | refine Below.alloc ?_ (by first | omega | (simp; done) | (simp; omega)) _ | refine Below.setCell ?_ (by first | omega | (simp; done) | (simp; omega)) _)))).mono ?_
    rintro e1 w1 ⟨rfl, hb1⟩
    obtain ⟨hc1, hf1⟩ := bcell hb1
    have hz1 := hb1.size
    try simp at hz1
    have ha1 : Below w.heap.size w w1 := below_call (by repeat (first | exact Below.refl _ _ | assumption | refine Below.drew ?_ | refine below_drewN ?_ _ | refine Below.alloc ?_ (by first | omega | (simp; done) | (simp; omega)) _ | refine Below.setCell ?_ (by first | omega | (simp; done) | (simp; omega)) _)) hb1
    go_wp2_with fail
    refine (HW.out _).mono ?_
    rintro e q ⟨rfl, rfl⟩
    go_wp2_with fail
    refine (HA.out _ (H.out.below (by repeat (first | exact Below.refl _ _ | assumption | refine Below.drew ?_ | refine below_drewN ?_ _ | refine Below.alloc ?_ (by first | omega | (simp; done) | (simp; omega)) _ | refine Below.setCell ?_ (by first | omega | (simp; done) | (simp; omega)) _)))).mono ?_
    rintro e w2 ⟨x, c, rfl, hO, hb2⟩
    have ha2 := below_call ha1 hb2
    have hz2 := ha1.size
    have HO := Lib.hid (hO.base hz2)
    clear hO
    go_wp2
    go_ret2
    exact newSC_mk HO.out HSZ.out ha2
set_option maxHeartbeats 1000000 in
theorem specKeepsTurn_any (a : Option Addr) (len cap : Nat) (ss : List ByteArray) (kind : Int) (w : World) (h : IsStrs w a len cap ss) :
    Calls Try.prog 37 #[.slice a len cap, .int .i64 kind] w fun e w' => e = .returned (.tuple #[.bool (tuK ss kind), .int .i64 (tuC ss kind)]) ∧ Below w.heap.size w w' := by
  have H := Lib.hid h
  have HV := Lib.hid (fun W hW => l14Ok_any a len cap ss W hW)
  have HW := Lib.hid (fun W => l00In_any kind 0 2 W)
  rcases tuC_cases ss kind with g | ⟨g, g2⟩ | ⟨g, g2⟩
  · rw [(tu_1 (kind := kind) g).1, (tu_1 (kind := kind) g).2.2]
    rw [g] at HV
    clear h g
    go_enter Try.func37, Try.ntmps37
    go_wp2_with fail
    refine (HV.out _ (H.out.below (by repeat (first | exact Below.refl _ _ | assumption | refine Below.drew ?_ | refine below_drewN ?_ _ | refine Below.alloc ?_ (by first | omega | (simp; done) | (simp; omega)) _ | refine Below.setCell ?_ (by first | omega | (simp; done) | (simp; omega)) _)))).mono ?_
    rintro e1 w1 ⟨rfl, hb1⟩
    obtain ⟨hc1, hf1⟩ := bcell hb1
    have hz1 := hb1.size
    try simp at hz1
    have ha1 : Below w.heap.size w w1 := below_call (by repeat (first | exact Below.refl _ _ | assumption | refine Below.drew ?_ | refine below_drewN ?_ _ | refine Below.alloc ?_ (by first | omega | (simp; done) | (simp; omega)) _ | refine Below.setCell ?_ (by first | omega | (simp; done) | (simp; omega)) _)) hb1
    go_wp2
    go_ret2
    exact ⟨rfl, (by repeat (first | exact Below.refl _ _ | assumption | refine Below.drew ?_ | refine below_drewN ?_ _ | refine Below.alloc ?_ (by first | omega | (simp; done) | (simp; omega)) _ | refine Below.setCell ?_ (by first | omega | (simp; done) | (simp; omega)) _))⟩
  · rw [(tu_2 g g2).1, (tu_2 g g2).2.2]
    rw [g] at HV
    rw [g2] at HW
    clear h g g2
    go_enter Try.func37, Try.ntmps37
    go_wp2_with fail
    refine (HV.out _ (H.out.below (by repeat (first | exact Below.refl _ _ | assumption | refine Below.drew ?_ | refine below_drewN ?_ _ | refine Below.alloc ?_ (by first | omega | (simp; done) | (simp; omega)) _ | refine Below.setCell ?_ (by first | omega | (simp; done) | (simp; omega)) _)))).mono ?_
    rintro e1 w1 ⟨rfl, hb1⟩
    obtain ⟨hc1, hf1⟩ := bcell hb1
    have hz1 := hb1.size
    try simp at hz1
    have ha1 : Below w.heap.size w w1 := below_call (by repeat (first | exact Below.refl _ _ | assumption | refine Below.drew ?_ | refine below_drewN ?_ _ | refine Below.alloc ?_ (by first | omega | (simp; done) | (simp; omega)) _ | refine Below.setCell ?_ (by first | omega | (simp; done) | (simp; omega)) _)) hb1
    go_wp2_with fail
    refine (HW.out _).mono ?_
    rintro e q ⟨rfl, rfl⟩
    go_wp2
    go_ret2
    exact ⟨rfl, (by repeat (first | exact Below.refl _ _ | assumption | refine Below.drew ?_ | refine below_drewN ?_ _ | refine Below.alloc ?_ (by first | omega | (simp; done) | (simp; omega)) _ | refine Below.setCell ?_ (by first | omega | (simp; done) | (simp; omega)) _))⟩
  · rw [(tu_0 g g2).1, (tu_0 g g2).2.2]
    have hl := h.1
    have HA := Lib.hid (fun W hW => l14Turn_any a len cap ss kind W hW g)
    have HSZ := Lib.hid (tuL_size g kind)
    have HTL := Lib.hid ((tuL_len ss kind).trans hl)
    have HSH := Lib.hid (fun x c W hW hW' => l14Find_any a x len cap c ss (tuL ss kind) W hW hW' g (fun y hy => by rw [tuL_get ss kind y hy]; exact tuRow_size g kind y hy))
    generalize tuL ss kind = T at *
    rw [g] at HV
    rw [g2] at HW
    clear h g g2 hl
    go_enter Try.func37, Try.ntmps37
    go_wp2_with fail
    refine (HV.out _ (H.out.below (by repeat (first | exact Below.refl _ _ | assumption | refine Below.drew ?_ | refine below_drewN ?_ _ | refine Below.alloc ?_ (by first | omega | (simp; done) | (simp; omega)) _ | refine Below.setCell ?_ (by first | omega | (simp; done) | (simp; omega)) _)))).mono ?_
    rintro e1 w1 ⟨rfl, hb1⟩
    obtain ⟨hc1, hf1⟩ := bcell hb1
    have hz1 := hb1.size
    try simp at hz1
    have ha1 : Below w.heap.size w w1 := below_call (by repeat (first | exact Below.refl _ _ | assumption | refine Below.drew ?_ | refine below_drewN ?_ _ | refine Below.alloc ?_ (by first | omega | (simp; done) | (simp; omega)) _ | refine Below.setCell ?_ (by first | omega | (simp; done) | (simp; omega)) _)) hb1
    go_wp2_with fail
    refine (HW.out _).mono ?_
    rintro e q ⟨rfl, rfl⟩
    go_wp2_with fail
    refine (HA.out _ (H.out.below (by repeat (first | exact Below.refl _ _ | assumption | refine Below.drew ?_ | refine below_drewN ?_ _ | refine Below.alloc ?_ (by first | omega | (simp; done) | (simp; omega)) _ | refine Below.setCell ?_ (by first | omega | (simp; done) | (simp; omega)) _)))).mono ?_
    rintro e w2 ⟨x, c, rfl, hO, hb2⟩
    rw [HTL.out] at hO ⊢
    have ha2 := below_call ha1 hb2
    have hT := hO.row HSZ.out
    go_wp2_with fail
    refine (HSH.out _ _ _ (H.out.below ha2) hT).mono ?_
    rintro e w3 ⟨rfl, hb3⟩
    have ha3 := below_call ha2 hb3
    clear hO hT
    go_wp2
    go_ret2
    exact ⟨rfl, ha3⟩
end Go.Proofs.Ytlkdkidpbjpkhaa
