/- Contract of slices.Reverse at []int64: a slice of the call's own is turned round in place; other memory stays. -/
import Derived.Test.YtklhaanapembdaaOwnT
import Derived.Deep.RegionLaw
import Derived.Laws.OwnMore
import Derived.Maps.AppendAt
namespace Go.Proofs.Ytklhaanapembdaa
open Go.RowKit

/-- The first and the last k are exchanged. -/
def Mid (zs L : List Int) (k : Nat) : Prop := L.length = zs.length ∧ ∀ i, i < zs.length → L.getD i 0 = if i < k ∨ zs.length - k ≤ i then zs.getD (zs.length - 1 - i) 0 else zs.getD i 0
theorem mid0 (zs : List Int) : Mid zs zs 0 := ⟨rfl, fun i hi => by rw [if_neg (by omega)]⟩
theorem getD_set (L : List Int) (k i : Nat) (x : Int) (hk : k < L.length) : (L.set k x).getD i 0 = if i = k then x else L.getD i 0 := by
  simp only [List.getD_eq_getElem?_getD, List.getElem?_set]
  by_cases e : k = i
  · subst e; simp [hk]
  · rw [if_neg e, if_neg (by omega)]
theorem mid_next {zs L : List Int} {k j : Nat} (h : Mid zs L k) (hj : k + j + 1 = zs.length) (hlt : k < j) : Mid zs ((L.set k (L.getD j 0)).set j (L.getD k 0)) (k + 1) := by
  obtain ⟨h1, h2⟩ := h
  refine ⟨by simp [h1], fun i hi => ?_⟩
  rw [getD_set _ _ _ _ (by simp; omega), getD_set _ _ _ _ (by omega)]
  have ek := h2 k (by omega)
  have ej := h2 j (by omega)
  rw [if_neg (by omega)] at ek ej
  by_cases e1 : i = j
  · subst e1
    rw [if_pos rfl, if_pos (by omega), ek]
    congr 1; omega
  · rw [if_neg e1]
    by_cases e2 : i = k
    · subst e2
      rw [if_pos rfl, if_pos (by omega), ej]
      congr 1; omega
    · rw [if_neg e2, h2 i hi]
      by_cases e3 : i < k ∨ zs.length - k ≤ i
      · rw [if_pos e3, if_pos (by omega)]
      · rw [if_neg e3, if_neg (by omega)]
theorem mid_end {zs L : List Int} {k j : Nat} (h : Mid zs L k) (hj : k + j + 1 = zs.length) (hge : ¬ k < j) : L = zs.reverse := by
  obtain ⟨h1, h2⟩ := h
  apply List.ext_getElem
  · simp [h1]
  · intro i hi hi'
    have := h2 i (by omega)
    rw [List.getElem_reverse]
    have e1 : L.getD i 0 = L[i] := by rw [List.getD_eq_getElem?_getD, List.getElem?_eq_getElem hi]; rfl
    have hz : zs.length - 1 - i < zs.length := by omega
    have e2 : zs.getD (zs.length - 1 - i) 0 = zs[zs.length - 1 - i] := by rw [List.getD_eq_getElem?_getD, List.getElem?_eq_getElem hz]; rfl
    rw [e1] at this
    rw [this]
    by_cases e3 : i < k ∨ zs.length - k ≤ i
    · rw [if_pos e3, e2]
    · rw [if_neg e3, ← e2]
      congr 1; omega
set_option maxHeartbeats 2000000 in
theorem reverse_any (base : Nat) (a : Option Addr) (n c : Nat) (zs : List Int) (w : World) (h : OwnI w base (.slice a n c) zs) (hn : n ≤ 1000000000) :
    Calls Try.prog 98 #[.slice a n c] w fun e w' => e = .returned (.tuple #[]) ∧ OwnI w' base (.slice a n c) zs.reverse ∧ w.grownBy w' (Value.slice a n c).ownBlock := by
  have hl : zs.length = n := h.row.1
  by_cases h0 : n = 0
  · have hz : zs = [] := List.eq_nil_of_length_eq_zero (by omega)
    subst hz
    have H := Lib.hid h
    subst h0
    clear h hl
    go_enter Try.func98, Try.ntmps98
    go_wp2_with fail
    go_loopw [2, 3] (fun i j wr => i = .int .i64 0 ∧ j = .int .i64 (-1) ∧ wr = w) (fun _ _ _ => 0)
    case atStart => exact ⟨rfl, by go_num, rfl⟩
    case round =>
      obtain ⟨rfl, rfl, rfl⟩ := hrel
      go_wp2
      go_end0
      exact ⟨rfl, H.out, World.grownBy.refl _ _⟩
  · have H := Lib.hid h
    have HL := Lib.hid hl
    clear h hl
    go_enter Try.func98, Try.ntmps98
    go_wp2_with fail
    go_loopw [2, 3] (fun i j wr => ∃ (k m : Nat) (L : List Int), k + m + 1 = n ∧ i = .int .i64 (k : Int) ∧ j = .int .i64 (m : Int) ∧ OwnI wr base (.slice a n c) L ∧ Mid zs L k ∧ w.grownBy wr (Value.slice a n c).ownBlock) (fun i _ _ => (n - intOf i).toNat)
    case atStart => exact ⟨0, n - 1, zs, by omega, rfl, by rw [show ((n - 1 : Nat) : Int) = (n : Int) - 1 by omega], H.out, mid0 zs, World.grownBy.refl _ _⟩
    case round =>
      obtain ⟨k, m, L, hkm, rfl, rfl, hO, hM, hG⟩ := hrel
      have hlL : L.length = n := hM.1.trans HL.out
      by_cases hlt : k < m
      · have hlt' : (k : Int) < (m : Int) := by omega
        have HM := Lib.hid (mid_next hM (by rw [HL.out]; exact hkm) hlt)
        have HG := Lib.hid hG
        rcases hO.2 with ⟨_, hz⟩ | ⟨g, cap, cur, hv, hb, hh, _⟩
        · omega
        · injection hv with h1 h2 h3
          subst h1 h3
          unfold OwnI at hO
          rw [hlL] at hO
          have hc := hO.cellAt k (by omega)
          have hd := hO.cellAt m (by omega)
          have hf := hO.frozenAt k
          have hf' := hO.frozenAt m
          have HS1 := ((World.ownsRow.drew hO).stored k (.int .i64 (L.getD m 0)))
          have HS2 := (HS1.1.stored m (.int .i64 (L.getD k 0)))
          have HS : Hid (OwnI ((wr.drew.setCell ⟨g, k, none⟩ (.int .i64 (L.getD m 0))).setCell ⟨g, m, none⟩ (.int .i64 (L.getD k 0))) base (.slice (some ⟨g, 0, none⟩) n c) ((L.set k (L.getD m 0)).set m (L.getD k 0))) := Lib.hid (by
            have := HS2.1
            unfold OwnI
            rw [← List.map_set, ← List.map_set] at this
            rw [show ((L.set k (L.getD m 0)).set m (L.getD k 0)).length = n by simp [hlL]]
            exact this)
          have HGr : Hid (w.grownBy ((wr.drew.setCell ⟨g, k, none⟩ (.int .i64 (L.getD m 0))).setCell ⟨g, m, none⟩ (.int .i64 (L.getD k 0))) (Value.slice (some ⟨g, 0, none⟩) n c).ownBlock) := Lib.hid (((HG.out.trans (⟨rfl, rfl, rfl, Nat.le_refl _, fun _ _ _ => rfl⟩ : wr.grownBy wr.drew _)).trans HS1.2).trans HS2.2)
          have e1 : (L.map (Value.int .i64))[k]? = some (Value.int .i64 (L.getD k 0)) := by
            rw [List.getElem?_map, List.getD_eq_getElem?_getD, List.getElem?_eq_getElem (show k < L.length by omega)]; rfl
          have e2 : (L.map (Value.int .i64))[m]? = some (Value.int .i64 (L.getD m 0)) := by
            rw [List.getElem?_map, List.getD_eq_getElem?_getD, List.getElem?_eq_getElem (show m < L.length by omega)]; rfl
          rw [e1] at hc
          rw [e2] at hd
          have hne : ¬ k = m := by omega
          have hne' : ¬ m = k := by omega
          have z1 : (0 : Int) ≤ (k : Int) := by omega
          have z2 : (k : Int) < (n : Int) := by omega
          have z3 : (0 : Int) ≤ (m : Int) := by omega
          have z4 : (m : Int) < (n : Int) := by omega
          have HLL := Lib.hid hlL
          clear e1 e2 hO hG hM HS1 HS2 hh h2 hlL
          generalize L.getD k 0 = x at *
          generalize L.getD m 0 = y at *
          go_wp2_with fail
          go_region
          all_goals
            go_wp2
            go_roundw
            case rel => exact ⟨k + 1, m - 1, _, by omega, by go_num, by rw [show ((m - 1 : Nat) : Int) = (m : Int) - 1 by omega], HS.out, HM.out, HGr.out⟩
            case measure => first | (simp [intOf]; done) | (simp [intOf]; omega)
      · have HF : Hid (OwnI wr base (.slice a n c) zs.reverse) := Lib.hid (by rw [← mid_end hM (by rw [HL.out]; exact hkm) hlt]; exact hO)
        have HG := Lib.hid hG
        clear hO hG hM hlL
        go_wp2
        go_end0
        exact ⟨rfl, HF.out, HG.out⟩
end Go.Proofs.Ytklhaanapembdaa
