/- Contracts of slices.Reverse at strings (a slice of the call's own) and at bytes (cells that are not frozen): turned round in place; other memory stays. -/
import Derived.Test.YtlkdkidpbjpkhaaOwnU
import Derived.Deep.RegionLaw
import Derived.Laws.OwnMore
import Derived.Maps.AppendAt
import Derived.OwnWalk
namespace Go.Proofs.Ytlkdkidpbjpkhaa
open Go.RowKit

/-- The first and the last k are exchanged. -/
def MidG {α : Type} (d : α) (zs L : List α) (k : Nat) : Prop := L.length = zs.length ∧ ∀ i, i < zs.length → L.getD i d = if i < k ∨ zs.length - k ≤ i then zs.getD (zs.length - 1 - i) d else zs.getD i d
theorem midG0 {α : Type} (d : α) (zs : List α) : MidG d zs zs 0 := ⟨rfl, fun i hi => by rw [if_neg (by omega)]⟩
theorem getD_setG {α : Type} (d : α) (L : List α) (k i : Nat) (x : α) (hk : k < L.length) : (L.set k x).getD i d = if i = k then x else L.getD i d := by
  simp only [List.getD_eq_getElem?_getD, List.getElem?_set]
  by_cases e : k = i
  · subst e; simp [hk]
  · rw [if_neg e, if_neg (by omega)]
theorem midG_next {α : Type} {d : α} {zs L : List α} {k j : Nat} (h : MidG d zs L k) (hj : k + j + 1 = zs.length) (hlt : k < j) : MidG d zs ((L.set k (L.getD j d)).set j (L.getD k d)) (k + 1) := by
  obtain ⟨h1, h2⟩ := h
  refine ⟨by simp [h1], fun i hi => ?_⟩
  rw [getD_setG _ _ _ _ _ (by simp; omega), getD_setG _ _ _ _ _ (by omega)]
  have ek := h2 k (by omega)
  have ej := h2 j (by omega)
  rw [if_neg (by omega)] at ek ej
  by_cases e1 : i = j
  · subst e1
    rw [if_pos rfl, if_pos (by omega), ek]
    congr 1; omega
  · rw [if_neg e1]
    by_cases e2 : i = k
    · subst e2
      rw [if_pos rfl, if_pos (by omega), ej]
      congr 1; omega
    · rw [if_neg e2, h2 i hi]
      by_cases e3 : i < k ∨ zs.length - k ≤ i
      · rw [if_pos e3, if_pos (by omega)]
      · rw [if_neg e3, if_neg (by omega)]
theorem midG_end {α : Type} {d : α} {zs L : List α} {k j : Nat} (h : MidG d zs L k) (hj : k + j + 1 = zs.length) (hge : ¬ k < j) : L = zs.reverse := by
  obtain ⟨h1, h2⟩ := h
  apply List.ext_getElem
  · simp [h1]
  · intro i hi hi'
    have := h2 i (by omega)
    rw [List.getElem_reverse]
    have e1 : L.getD i d = L[i] := by rw [List.getD_eq_getElem?_getD, List.getElem?_eq_getElem hi]; rfl
    have hz : zs.length - 1 - i < zs.length := by omega
    have e2 : zs.getD (zs.length - 1 - i) d = zs[zs.length - 1 - i] := by rw [List.getD_eq_getElem?_getD, List.getElem?_eq_getElem hz]; rfl
    rw [e1] at this
    rw [this]
    by_cases e3 : i < k ∨ zs.length - k ≤ i
    · rw [if_pos e3, e2]
    · rw [if_neg e3, ← e2]
      congr 1; omega
theorem ownS_len {w : World} {b n c : Nat} {a : Option Addr} {ss : List ByteArray} (h : OwnS w b (.slice a n c) ss) : ss.length = n := by
  obtain ⟨a', c', e⟩ := h.shape
  injection e with _ e _
  exact e.symm
set_option maxHeartbeats 2000000 in
theorem reverseS_any (base : Nat) (a : Option Addr) (n c : Nat) (zs : List ByteArray) (w : World) (h : OwnS w base (.slice a n c) zs) (hn : n ≤ 1000000000) :
    Calls Try.prog 76 #[.slice a n c] w fun e w' => e = .returned (.tuple #[]) ∧ OwnS w' base (.slice a n c) zs.reverse ∧ w.grownBy w' (Value.slice a n c).ownBlock := by
  have hl : zs.length = n := ownS_len h
  by_cases h0 : n = 0
  · have hz : zs = [] := List.eq_nil_of_length_eq_zero (by omega)
    subst hz
    have H := Lib.hid h
    subst h0
    clear h hl
    go_enter Try.func76, Try.ntmps76
    go_wp2_with fail
    go_loopw [2, 3] (fun i j wr => i = .int .i64 0 ∧ j = .int .i64 (-1) ∧ wr = w) (fun _ _ _ => 0)
    case atStart => exact ⟨rfl, by go_num, rfl⟩
    case round =>
      obtain ⟨rfl, rfl, rfl⟩ := hrel
      go_wp2
      go_end0
      exact ⟨rfl, H.out, World.grownBy.refl _ _⟩
  · have H := Lib.hid h
    have HL := Lib.hid hl
    clear h hl
    go_enter Try.func76, Try.ntmps76
    go_wp2_with fail
    go_loopw [2, 3] (fun i j wr => ∃ (k m : Nat) (L : List ByteArray), k + m + 1 = n ∧ i = .int .i64 (k : Int) ∧ j = .int .i64 (m : Int) ∧ OwnS wr base (.slice a n c) L ∧ MidG ByteArray.empty zs L k ∧ w.grownBy wr (Value.slice a n c).ownBlock) (fun i _ _ => (n - intOf i).toNat)
    case atStart => exact ⟨0, n - 1, zs, by omega, rfl, by rw [show ((n - 1 : Nat) : Int) = (n : Int) - 1 by omega], H.out, midG0 ByteArray.empty zs, World.grownBy.refl _ _⟩
    case round =>
      obtain ⟨k, m, L, hkm, rfl, rfl, hO, hM, hG⟩ := hrel
      have hlL : L.length = n := hM.1.trans HL.out
      by_cases hlt : k < m
      · have hlt' : (k : Int) < (m : Int) := by omega
        have HM := Lib.hid (midG_next hM (by rw [HL.out]; exact hkm) hlt)
        have HG := Lib.hid hG
        rcases hO.2 with ⟨_, hz⟩ | ⟨g, cap, cur, hv, hb, hh, _⟩
        · omega
        · injection hv with h1 h2 h3
          subst h1 h3
          unfold OwnS at hO
          rw [hlL] at hO
          have hc := hO.cellAt k (by omega)
          have hd := hO.cellAt m (by omega)
          have hf := hO.frozenAt k
          have hf' := hO.frozenAt m
          have HS1 := ((World.ownsRow.drew hO).stored k (.string (L.getD m ByteArray.empty)))
          have HS2 := (HS1.1.stored m (.string (L.getD k ByteArray.empty)))
          have HS : Hid (OwnS ((wr.drew.setCell ⟨g, k, none⟩ (.string (L.getD m ByteArray.empty))).setCell ⟨g, m, none⟩ (.string (L.getD k ByteArray.empty))) base (.slice (some ⟨g, 0, none⟩) n c) ((L.set k (L.getD m ByteArray.empty)).set m (L.getD k ByteArray.empty))) := Lib.hid (by
            have := HS2.1
            unfold OwnS
            rw [← List.map_set, ← List.map_set] at this
            rw [show ((L.set k (L.getD m ByteArray.empty)).set m (L.getD k ByteArray.empty)).length = n by simp [hlL]]
            exact this)
          have HGr : Hid (w.grownBy ((wr.drew.setCell ⟨g, k, none⟩ (.string (L.getD m ByteArray.empty))).setCell ⟨g, m, none⟩ (.string (L.getD k ByteArray.empty))) (Value.slice (some ⟨g, 0, none⟩) n c).ownBlock) := Lib.hid (((HG.out.trans (⟨rfl, rfl, rfl, Nat.le_refl _, fun _ _ _ => rfl⟩ : wr.grownBy wr.drew _)).trans HS1.2).trans HS2.2)
          have e1 : (L.map (Value.string))[k]? = some (Value.string (L.getD k ByteArray.empty)) := by
            rw [List.getElem?_map, List.getD_eq_getElem?_getD, List.getElem?_eq_getElem (show k < L.length by omega)]; rfl
          have e2 : (L.map (Value.string))[m]? = some (Value.string (L.getD m ByteArray.empty)) := by
            rw [List.getElem?_map, List.getD_eq_getElem?_getD, List.getElem?_eq_getElem (show m < L.length by omega)]; rfl
          rw [e1] at hc
          rw [e2] at hd
          have hne : ¬ k = m := by omega
          have hne' : ¬ m = k := by omega
          have z1 : (0 : Int) ≤ (k : Int) := by omega
          have z2 : (k : Int) < (n : Int) := by omega
          have z3 : (0 : Int) ≤ (m : Int) := by omega
          have z4 : (m : Int) < (n : Int) := by omega
          have HLL := Lib.hid hlL
          clear e1 e2 hO hG hM HS1 HS2 hh h2 hlL
          generalize L.getD k ByteArray.empty = x at *
          generalize L.getD m ByteArray.empty = y at *
          go_wp2_with fail
          go_region
          all_goals
            go_wp2
            go_roundw
            case rel => exact ⟨k + 1, m - 1, _, by omega, by go_num, by rw [show ((m - 1 : Nat) : Int) = (m : Int) - 1 by omega], HS.out, HM.out, HGr.out⟩
            case measure => first | (simp [intOf]; done) | (simp [intOf]; omega)
      · have HF : Hid (OwnS wr base (.slice a n c) zs.reverse) := Lib.hid (by rw [← midG_end hM (by rw [HL.out]; exact hkm) hlt]; exact hO)
        have HG := Lib.hid hG
        clear hO hG hM hlL
        go_wp2
        go_end0
        exact ⟨rfl, HF.out, HG.out⟩
theorem grown_setU (w : World) (g i : Nat) (u : Value) : w.grownBy (w.setCell ⟨g, i, none⟩ u) (some g) :=
  ⟨rfl, rfl, rfl, by simp [World.setCell], fun k _ hne => Below.heap_setCell w ⟨g, i, none⟩ u k (fun e => hne (by rw [e]))⟩
/-- Bytes in the cells of a block, none of them frozen. -/
def BytesAt (w : World) (g : Nat) (bs : List UInt8) : Prop := ∀ j, j < bs.length → w.cell? ⟨g, j, none⟩ = some (.int .u8 ((bs.getD j 0).toNat : Int)) ∧ w.frozen? ⟨g, j, none⟩ = false
theorem bytesAt_set {w : World} {g k : Nat} {bs : List UInt8} (h : BytesAt w g bs) (hk : k < bs.length) (x : UInt8) : BytesAt (w.setCell ⟨g, k, none⟩ (.int .u8 (x.toNat : Int))) g (bs.set k x) := by
  intro j hj
  have hj' : j < bs.length := by simpa using hj
  obtain ⟨h1, h2⟩ := h j hj'
  refine ⟨?_, ?_⟩
  · rw [getD_setG 0 _ _ _ _ hk]
    by_cases e : j = k
    · subst e
      rw [if_pos rfl]
      exact World.cell?_setCell_same _ _ _ (by rw [h1])
    · rw [if_neg e, World.cell?_setCell_other _ _ _ _ (fun e' => e (by injection e' with _ e2 _; exact e2.symm))]
      exact h1
  · simpa using h2
set_option maxHeartbeats 2000000 in
theorem reverseB_any (g n c : Nat) (bs : List UInt8) (w : World) (hl : bs.length = n) (h : BytesAt w g bs) (hn0 : 1 ≤ n) (hn : n ≤ 1000000000) :
    Calls Try.prog 75 #[.slice (some ⟨g, 0, none⟩) n c] w fun e w' => e = .returned (.tuple #[]) ∧ BytesAt w' g bs.reverse ∧ w.grownBy w' (some g) := by
  have H := Lib.hid h
  have HL := Lib.hid hl
  clear h hl
  go_enter Try.func75, Try.ntmps75
  go_wp2_with fail
  go_loopw [2, 3] (fun i j wr => ∃ (k m : Nat) (L : List UInt8), k + m + 1 = n ∧ i = .int .i64 (k : Int) ∧ j = .int .i64 (m : Int) ∧ BytesAt wr g L ∧ MidG 0 bs L k ∧ w.grownBy wr (some g)) (fun i _ _ => (n - intOf i).toNat)
  case atStart => exact ⟨0, n - 1, bs, by omega, rfl, by rw [show ((n - 1 : Nat) : Int) = (n : Int) - 1 by omega], H.out, midG0 0 bs, World.grownBy.refl _ _⟩
  case round =>
    obtain ⟨k, m, L, hkm, rfl, rfl, hO, hM, hG⟩ := hrel
    have hlL : L.length = n := hM.1.trans HL.out
    by_cases hlt : k < m
    · have hlt' : (k : Int) < (m : Int) := by omega
      have HM := Lib.hid (midG_next hM (by rw [HL.out]; exact hkm) hlt)
      have HG := Lib.hid hG
      obtain ⟨hc, hf⟩ := hO k (by omega)
      obtain ⟨hd, hf'⟩ := hO m (by omega)
      have HS0 : BytesAt wr.drew g L := hO
      have HS : Hid (BytesAt ((wr.drew.setCell ⟨g, k, none⟩ (.int .u8 ((L.getD m 0).toNat : Int))).setCell ⟨g, m, none⟩ (.int .u8 ((L.getD k 0).toNat : Int))) g ((L.set k (L.getD m 0)).set m (L.getD k 0))) := Lib.hid (bytesAt_set (bytesAt_set HS0 (by omega) _) (by simp; omega) _)
      have HGr : Hid (w.grownBy ((wr.drew.setCell ⟨g, k, none⟩ (.int .u8 ((L.getD m 0).toNat : Int))).setCell ⟨g, m, none⟩ (.int .u8 ((L.getD k 0).toNat : Int))) (some g)) := Lib.hid (((HG.out.trans (⟨rfl, rfl, rfl, Nat.le_refl _, fun _ _ _ => rfl⟩ : wr.grownBy wr.drew _)).trans (grown_setU _ g k _)).trans (grown_setU _ g m _))
      have hne : ¬ k = m := by omega
      have hne' : ¬ m = k := by omega
      have z1 : (0 : Int) ≤ (k : Int) := by omega
      have z2 : (k : Int) < (n : Int) := by omega
      have z3 : (0 : Int) ≤ (m : Int) := by omega
      have z4 : (m : Int) < (n : Int) := by omega
      have HLL := Lib.hid hlL
      clear hO hG hM hlL HS0
      generalize L.getD k 0 = x at *
      generalize L.getD m 0 = y at *
      go_wp2_with fail
      go_region
      all_goals
        go_wp2
        go_roundw
        case rel => exact ⟨k + 1, m - 1, _, by omega, by go_num, by rw [show ((m - 1 : Nat) : Int) = (m : Int) - 1 by omega], HS.out, HM.out, HGr.out⟩
        case measure => first | (simp [intOf]; done) | (simp [intOf]; omega)
    · have HF : Hid (BytesAt wr g bs.reverse) := Lib.hid (by rw [← midG_end hM (by rw [HL.out]; exact hkm) hlt]; exact hO)
      have HG := Lib.hid hG
      clear hO hG hM hlL
      go_wp2
      go_end0
      exact ⟨rfl, HF.out, HG.out⟩
end Go.Proofs.Ytlkdkidpbjpkhaa
