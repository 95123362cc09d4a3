/- Slices of strings: an argument opened to its cells, and the contracts of the laws' own functions on them (toStringS, eqStringS, szStringS); conditions: the slices can be read, and are no longer than 2^20 where one is made. -/
import Derived.Test.YtlkdkidpbjpkhaaBase
namespace Go.Proofs.Ytlkdkidpbjpkhaa
open Go.RowKit

/-- What a walk is told of a slice of strings. -/
def IsStrs (w : World) (a : Option Addr) (len cap : Nat) (ss : List ByteArray) : Prop :=
  ss.length = len ∧ len ≤ cap ∧ cap ≤ maxLen ∧ (∀ s ∈ ss, s.size ≤ maxLen) ∧ (0 < len → ∃ b o, a = some ⟨b, o, none⟩ ∧ b < w.heap.size ∧ ∀ (i : Nat) s, ss[i]? = some s → w.cell? ⟨b, o + i, none⟩ = some (.string s))
theorem isStrs_nil {w : World} : IsStrs w none 0 0 [] := ⟨rfl, Nat.le_refl _, Nat.zero_le _, (fun _ h => by cases h), (fun h => absurd h (by omega))⟩
theorem isStrs_mk {w : World} {x : Addr} {len cap m : Nat} {ss : List ByteArray} (hl : len ≤ cap) (hm : cap ≤ maxLen) (hz : ss.length = m) (hlm : len ≤ m) (hcell : ∀ i, i < ss.length → w.cell? (x.add i) = some (.string (ss.getD i ByteArray.empty))) (hw : ∀ s ∈ ss, s.size ≤ maxLen) :
    IsStrs w (some x) len cap (ss.take len) := by
  refine ⟨by simp; omega, hl, hm, fun s hs => hw s (List.mem_of_mem_take hs), fun h0 => ?_⟩
  obtain ⟨b, o, sp⟩ := x
  have hc := hcell 0 (by omega)
  have hs : sp = none := by simpa [Addr.add] using World.cell?_spot hc
  subst hs
  refine ⟨b, o, rfl, ?_, fun i n hi => ?_⟩
  · simpa [Addr.add] using World.block_lt_of_cell? _ _ hc
  · have hi' : i < len ∧ ss[i]? = some n := by
      rw [List.getElem?_take] at hi
      split at hi
      · exact ⟨by assumption, hi⟩
      · cases hi
    have hc := hcell i (by omega)
    have e : ss.getD i ByteArray.empty = n := by rw [List.getD_eq_getElem?_getD, hi'.2]; rfl
    rw [e] at hc
    by_cases h : i = 0
    · subst h; simpa [Addr.add] using hc
    · simpa [Addr.add, h] using hc
theorem IsStrs.cell {w : World} {a : Option Addr} {len cap : Nat} {ss : List ByteArray} (h : IsStrs w a len cap ss) {i : Nat} (hi : i < len) :
    ∃ b o, a = some ⟨b, o, none⟩ ∧ b < w.heap.size ∧ w.cell? ⟨b, o + i, none⟩ = some (.string (ss.getD i ByteArray.empty)) := by
  obtain ⟨hl, _, _, _, hc⟩ := h
  obtain ⟨b, o, ha, hb, hc⟩ := hc (by omega)
  exact ⟨b, o, ha, hb, hc i _ (by rw [List.getD_eq_getElem?_getD, List.getElem?_eq_getElem (by omega)]; rfl)⟩
theorem IsStrs.below {w w' : World} {a : Option Addr} {len cap : Nat} {ss : List ByteArray} (h : IsStrs w a len cap ss) (hb : Below w.heap.size w w') : IsStrs w' a len cap ss := by
  obtain ⟨h1, h2, h3, h4, h5⟩ := h
  refine ⟨h1, h2, h3, h4, fun h0 => ?_⟩
  obtain ⟨b, o, ha, hlt, hc⟩ := h5 h0
  exact ⟨b, o, ha, Nat.lt_of_lt_of_le hlt hb.size, fun i n hi => keep1 hb (hc i n hi)⟩
theorem IsStrs.max {w : World} {a : Option Addr} {len cap : Nat} {ss : List ByteArray} (h : IsStrs w a len cap ss) (i : Nat) : (ss.getD i ByteArray.empty).size ≤ maxLen := by
  rw [List.getD_eq_getElem?_getD]
  rcases hi : ss[i]? with _ | s
  · simp
  · exact h.2.2.2.1 s (List.mem_of_getElem? hi)
/-- Strings as a row of cells. -/
def strsA (ss : List ByteArray) : Array Value := (ss.map Value.string).toArray
theorem strsA_get (ss : List ByteArray) (i : Nat) : (strsA ss)[i]? = ss[i]?.map Value.string := by simp [strsA]
theorem strsA_set (ss : List ByteArray) (i : Nat) (s : ByteArray) : (strsA ss).setIfInBounds i (.string s) = strsA (ss.set i s) := by
  simp [strsA, List.map_set]
theorem made_strs (n : Nat) : madeCells (Value.string ByteArray.empty).cells n = strsA (List.replicate n ByteArray.empty) := by
  apply Array.ext
  · simp [madeCells, strsA]
  · intro i h1 h2
    simp [madeCells, strsA, Value.cells, Nat.mod_one]
theorem isStrs_blk {w : World} {g : Nat} {ss : List ByteArray} {T : TypeId} (h : w.heap[g]? = some (.cells (strsA ss) T (0, 0))) (hm : ss.length ≤ maxLen) (hs : ∀ s ∈ ss, s.size ≤ maxLen) : IsStrs w (some ⟨g, 0, none⟩) ss.length ss.length ss := by
  refine ⟨rfl, Nat.le_refl _, hm, hs, fun _ => ⟨g, 0, rfl, blk_lt h, fun i p hp => ?_⟩⟩
  rw [Nat.zero_add, cellOf h, strsA_get, hp]; rfl
theorem info_str : (Try.prog.info? 9).map (fun i => (i.zero, i.size, i.bytes)) = some (some (.string ByteArray.empty), 1, 16) := by kernel_rfl
theorem make_str (n : Nat) (hn : n ≤ 1048576) (W : World) : (Instr.makeSlice 22 (.int .i64 (n : Int)) (.int .i64 (n : Int))).run Try.prog W = .ok (.slice (some ⟨W.heap.size, 0, none⟩) n n) (W.alloc (.cells (strsA (List.replicate n ByteArray.empty)) 9)) := by
  obtain ⟨i, hi, hz, hs, hb⟩ := info_parts info_str
  have hr := run_make (P := Try.prog) W 22 9 i (.string ByteArray.empty) Try.underlying22 hi hz .i64 .i64 n n (by omega) (Int.le_refl _) (by rw [hb]; omega) (by omega)
  rw [hs] at hr
  simp only [Int.toNat_natCast, Nat.mul_one, made_strs] at hr
  exact hr
/-- What a copy holds behind k rounds. -/
def spart (ss : List ByteArray) (k : Nat) : List ByteArray := ss.take k ++ List.replicate (ss.length - k) ByteArray.empty
theorem spart_zero (ss : List ByteArray) : spart ss 0 = List.replicate ss.length ByteArray.empty := by simp [spart]
theorem spart_all (ss : List ByteArray) : spart ss ss.length = ss := by simp [spart]
theorem spart_get (ss : List ByteArray) (k : Nat) (h : k < ss.length) : (spart ss k)[k]? = some ByteArray.empty := by
  unfold spart; rw [List.getElem?_append_right (by simp; omega)]
  simp [List.getElem?_replicate]; omega
theorem spart_next (ss : List ByteArray) (k : Nat) (h : k < ss.length) : (spart ss k).set k (ss.getD k ByteArray.empty) = spart ss (k + 1) := by
  unfold spart
  rw [List.set_append_right _ _ (by simp; omega)]
  have e1 : k - (List.take k ss).length = 0 := by simp; omega
  have e2 : ss.length - k = (ss.length - (k + 1)) + 1 := by omega
  rw [e1, e2, List.replicate_succ, List.set_cons_zero, List.take_succ_eq_append_getElem h, List.append_assoc]
  simp [List.getD_eq_getElem?_getD, h]
set_option maxHeartbeats 1000000 in
theorem toStringS_any (a : Option Addr) (len cap : Nat) (ss : List ByteArray) (w : World) (h : IsStrs w a len cap ss) (hlen : len ≤ 1048576) :
    Calls Try.prog 18 #[.slice a len cap] w fun e w' => e = .returned (.slice (some ⟨w.heap.size, 0, none⟩) len len) ∧ w.alloc (.cells (strsA ss) 9) = w' := by
  have hm := make_str len hlen
  have hl := h.1
  have H := Lib.hid h
  have HL := Lib.hid hl
  clear h hl
  go_enter Try.func18, Try.ntmps18
  go_wp2
  clear hm
  go_loopw [4] (fun i wr => ∃ k : Nat, k ≤ len ∧ i = .int .i64 (k : Int) ∧ wr = w.alloc (.cells (strsA (spart ss k)) 9)) (fun i _ => (len - intOf i).toNat)
  case atStart => exact ⟨0, by omega, rfl, by rw [spart_zero, HL.out]⟩
  case round =>
    obtain ⟨k, hk, rfl, rfl⟩ := hrel
    by_cases hlt : k < len
    · obtain ⟨b, o, rfl, hb, hc⟩ := H.out.cell hlt
      have hp : (strsA (spart ss k))[k]? = some (.string ByteArray.empty) := by rw [strsA_get, spart_get ss k (by rw [HL.out]; exact hlt)]; rfl
      have HN : Hid ((strsA (spart ss k)).setIfInBounds k (.string (ss.getD k ByteArray.empty)) = strsA (spart ss (k + 1))) := Lib.hid (by rw [strsA_set, spart_next ss k (by rw [HL.out]; exact hlt)])
      have hne : b ≠ w.heap.size := by omega
      generalize ss.getD k ByteArray.empty = x at *
      generalize strsA (spart ss k) = C at *
      go_wp2
      go_roundw
      case rel => exact ⟨k + 1, by omega, by go_num, by rw [HN.out]⟩
      case measure => simp [intOf]; omega
    · obtain rfl : k = len := by omega
      have HA := Lib.hid (spart_all ss)
      rw [HL.out] at HA
      go_wp2
      go_ret
      exact ⟨rfl, by rw [HA.out]⟩
theorem toS (a : Option Addr) (len cap : Nat) (ss : List ByteArray) (w : World) (h : IsStrs w a len cap ss) (hlen : len ≤ 1048576) :
    Calls Try.prog 18 #[.slice a len cap] w fun e w' => ∃ x c, e = .returned (.slice x len c) ∧ IsStrs w' x len c ss ∧ Below w.heap.size w w' := by
  have hl := h.1
  have hs := h.2.2.2.1
  refine (toStringS_any a len cap ss w h hlen).mono ?_
  rintro e w' ⟨rfl, rfl⟩
  subst hl
  exact ⟨_, _, rfl, isStrs_blk (blk_new _ _) (by unfold maxLen; omega) hs, (Below.refl _ _).alloc (Nat.le_refl _) _⟩
set_option maxHeartbeats 2000000 in
theorem eqStringS_same (a a' : Option Addr) (len cap cap' : Nat) (ss : List ByteArray) (w : World) (h : IsStrs w a len cap ss) (h' : IsStrs w a' len cap' ss) :
    Calls Try.prog 20 #[.slice a len cap, .slice a' len cap'] w fun e w' => e = .returned (.bool true) ∧ Below w.heap.size w w' := by
  have hm : len ≤ maxLen := Nat.le_trans h.2.1 h.2.2.1
  unfold maxLen at hm
  have H := Lib.hid h
  have H' := Lib.hid h'
  clear h h'
  go_enter Try.func20, Try.ntmps20
  go_wp2
  go_loopw [5] (fun i wr => ∃ k : Nat, k ≤ len ∧ i = .int .i64 (k : Int) ∧ Below w.heap.size w wr) (fun i _ => (len - intOf i).toNat)
  case atStart => exact ⟨0, by omega, rfl, Below.refl _ _⟩
  case round =>
    obtain ⟨k, hk, rfl, hB⟩ := hrel
    by_cases hlt : k < len
    · obtain ⟨b, o, rfl, hb, hc⟩ := (H.out.below hB).cell hlt
      obtain ⟨b', o', rfl, hb', hc'⟩ := (H'.out.below hB).cell hlt
      generalize ss.getD k ByteArray.empty = x at *
      have hlt' : (k : Int) < (len : Int) := by omega
      go_wp2
      go_quiet (fail)
      go_wp2
      go_roundw
      case rel => exact ⟨k + 1, by omega, by go_num, below_drewN hB _⟩
      case measure => simp [intOf]; omega
    · go_wp2
      go_ret
      exact ⟨rfl, hB⟩
/-- The bytes of the first k strings. -/
def szK (ss : List ByteArray) : Nat → Int
  | 0 => 0
  | k + 1 => szK ss k + ((ss.getD k ByteArray.empty).size : Int)
theorem szK_mono (ss : List ByteArray) (i j : Nat) (h : i ≤ j) : szK ss i ≤ szK ss j := by
  induction j with
  | zero => obtain rfl : i = 0 := by omega
            exact Int.le_refl _
  | succ j ih =>
    rcases Nat.lt_or_ge i (j + 1) with h1 | h1
    · have := ih (by omega)
      simp only [szK]; omega
    · obtain rfl : i = j + 1 := by omega
      exact Int.le_refl _
theorem szK_nonneg (ss : List ByteArray) (i : Nat) : 0 ≤ szK ss i := szK_mono ss 0 i (by omega)
/-- What a slice of strings takes of the laws' allowance. -/
def szT (ss : List ByteArray) : Int := (ss.length : Int) + szK ss ss.length
theorem szT_len (ss : List ByteArray) : (ss.length : Int) ≤ szT ss := by
  have := szK_nonneg ss ss.length
  unfold szT; omega
set_option maxHeartbeats 2000000 in
theorem szStringS_any (a : Option Addr) (len cap : Nat) (ss : List ByteArray) (left : Int) (w : World) (h : IsStrs w a len cap ss) (h1 : 0 ≤ left) (h2 : left ≤ 1048576) :
    Calls Try.prog 16 #[.slice a len cap, .int .i64 left] w fun e w' => e = .returned (.int .i64 (if left - szT ss < 0 then -1 else left - szT ss)) ∧ w = w' := by
  have hl := h.1
  have hm : len ≤ maxLen := Nat.le_trans h.2.1 h.2.2.1
  unfold maxLen at hm
  have HT : Hid (szT ss = (len : Int) + szK ss len) := Lib.hid (by unfold szT; rw [hl])
  have H := Lib.hid h
  have HX := Lib.hid h.max
  have HZ := Lib.hid (szK_nonneg ss)
  have HMo := Lib.hid (szK_mono ss)
  clear h hl
  obtain ⟨r, hr⟩ : ∃ r, (if left - szT ss < 0 then -1 else left - szT ss) = r := ⟨_, rfl⟩
  rw [hr]
  have HRr := Lib.hid hr
  clear hr
  by_cases g : left - (len : Int) < 0
  · have HR : Hid (r = -1) := Lib.hid (by rw [← HRr.out, HT.out]; exact if_pos (by have := HZ.out len; omega))
    go_enter Try.func16, Try.ntmps16
    go_wp2
    go_ret
    exact ⟨ret_int HR.out.symm, rfl⟩
  · go_enter Try.func16, Try.ntmps16
    go_wp2
    go_loop [1, 5] (fun l i => ∃ k : Nat, k ≤ len ∧ i = .int .i64 (k : Int) ∧ l = .int .i64 (left - (len : Int) - szK ss k) ∧ 0 ≤ left - (len : Int) - szK ss k) (fun _ i => (len - intOf i).toNat)
    case atStart => exact ⟨0, by omega, rfl, by simp [szK], by simp only [szK]; omega⟩
    case round =>
      obtain ⟨k, hk, rfl, rfl, hs⟩ := hrel
      by_cases hlt : k < len
      · obtain ⟨b, o, rfl, hb, hc⟩ := H.out.cell hlt
        have hx := HX.out k
        unfold maxLen at hx
        have hz := HZ.out k
        have HN : Hid (szK ss (k + 1) = szK ss k + ((ss.getD k ByteArray.empty).size : Int)) := Lib.hid rfl
        have HL := HMo.out (k + 1) len (by omega)
        rw [HN.out] at HL
        generalize ss.getD k ByteArray.empty = x at *
        generalize szK ss k = s at *
        by_cases hg : left - (len : Int) - s - (x.size : Int) < 0
        · have HR : Hid (r = -1) := Lib.hid (by rw [← HRr.out, HT.out]; exact if_pos (by omega))
          go_wp2
          go_ret
          exact ⟨ret_int HR.out.symm, rfl⟩
        · go_wp2
          go_round
          case rel => exact ⟨k + 1, by omega, by go_num, by rw [HN.out]; congr 1; omega, by rw [HN.out]; omega⟩
          case measure => simp [intOf]; omega
      · obtain rfl : k = len := by omega
        have HR : Hid (r = left - (k : Int) - szK ss k) := Lib.hid (by rw [← HRr.out, HT.out, if_neg (by omega)]; omega)
        go_wp2
        go_ret
        exact ⟨ret_int HR.out.symm, rfl⟩
end Go.Proofs.Ytlkdkidpbjpkhaa
