/- Slices of strings: an argument opened to its cells, and the contracts of the laws' own functions on them (toStringS, eqStringS, szStringS); conditions: the slices can be read, and are no longer than 2^20 where one is made. -/
import Derived.Laws.AppendOwn
import Derived.Test.YtklhaanapembdaaBase

namespace Go.Proofs.Ytklhaanapembdaa
open Go.RowKit

/-- What a walk is told of a slice of strings. -/
def IsStrs (w : World) (a : Option Addr) (len cap : Nat) (ss : List ByteArray) : Prop :=
  ss.length = len ∧ len ≤ cap ∧ cap ≤ maxLen ∧ (∀ s ∈ ss, s.size ≤ maxLen) ∧ (0 < len → ∃ b o, a = some ⟨b, o, none⟩ ∧ b < w.heap.size ∧ ∀ (i : Nat) s, ss[i]? = some s → w.cell? ⟨b, o + i, none⟩ = some (.string s))
theorem isStrs_nil {w : World} : IsStrs w none 0 0 [] := ⟨rfl, Nat.le_refl _, Nat.zero_le _, (fun _ h => by cases h), (fun h => absurd h (by omega))⟩
theorem isStrs_mk {w : World} {x : Addr} {len cap m : Nat} {ss : List ByteArray} (hl : len ≤ cap) (hm : cap ≤ maxLen) (hz : ss.length = m) (hlm : len ≤ m) (hcell : ∀ i, i < ss.length → w.cell? (x.add i) = some (.string (ss.getD i ByteArray.empty))) (hw : ∀ s ∈ ss, s.size ≤ maxLen) :
    IsStrs w (some x) len cap (ss.take len) := by
  refine ⟨by simp; omega, hl, hm, fun s hs => hw s (List.mem_of_mem_take hs), fun h0 => ?_⟩
  obtain ⟨b, o, sp⟩ := x
  have hc := hcell 0 (by omega)
  have hs : sp = none := by simpa [Addr.add] using World.cell?_spot hc
  subst hs
  refine ⟨b, o, rfl, ?_, fun i n hi => ?_⟩
  · simpa [Addr.add] using World.block_lt_of_cell? _ _ hc
  · have hi' : i < len ∧ ss[i]? = some n := by
      rw [List.getElem?_take] at hi
      split at hi
      · exact ⟨by assumption, hi⟩
      · cases hi
    have hc := hcell i (by omega)
    have e : ss.getD i ByteArray.empty = n := by rw [List.getD_eq_getElem?_getD, hi'.2]; rfl
    rw [e] at hc
    by_cases h : i = 0
    · subst h; simpa [Addr.add] using hc
    · simpa [Addr.add, h] using hc
theorem IsStrs.cell {w : World} {a : Option Addr} {len cap : Nat} {ss : List ByteArray} (h : IsStrs w a len cap ss) {i : Nat} (hi : i < len) :
    ∃ b o, a = some ⟨b, o, none⟩ ∧ b < w.heap.size ∧ w.cell? ⟨b, o + i, none⟩ = some (.string (ss.getD i ByteArray.empty)) := by
  obtain ⟨hl, _, _, _, hc⟩ := h
  obtain ⟨b, o, ha, hb, hc⟩ := hc (by omega)
  exact ⟨b, o, ha, hb, hc i _ (by rw [List.getD_eq_getElem?_getD, List.getElem?_eq_getElem (by omega)]; rfl)⟩
theorem IsStrs.below {w w' : World} {a : Option Addr} {len cap : Nat} {ss : List ByteArray} (h : IsStrs w a len cap ss) (hb : Below w.heap.size w w') : IsStrs w' a len cap ss := by
  obtain ⟨h1, h2, h3, h4, h5⟩ := h
  refine ⟨h1, h2, h3, h4, fun h0 => ?_⟩
  obtain ⟨b, o, ha, hlt, hc⟩ := h5 h0
  exact ⟨b, o, ha, Nat.lt_of_lt_of_le hlt hb.size, fun i n hi => keep1 hb (hc i n hi)⟩
theorem IsStrs.max {w : World} {a : Option Addr} {len cap : Nat} {ss : List ByteArray} (h : IsStrs w a len cap ss) (i : Nat) : (ss.getD i ByteArray.empty).size ≤ maxLen := by
  rw [List.getD_eq_getElem?_getD]
  rcases hi : ss[i]? with _ | s
  · simp
  · exact h.2.2.2.1 s (List.mem_of_getElem? hi)
/-- Strings as a row of cells. -/
def strsA (ss : List ByteArray) : Array Value := (ss.map Value.string).toArray
theorem strsA_get (ss : List ByteArray) (i : Nat) : (strsA ss)[i]? = ss[i]?.map Value.string := by simp [strsA]
theorem strsA_set (ss : List ByteArray) (i : Nat) (s : ByteArray) : (strsA ss).setIfInBounds i (.string s) = strsA (ss.set i s) := by
  simp [strsA, List.map_set]
theorem made_strs (n : Nat) : madeCells (Value.string ByteArray.empty).cells n = strsA (List.replicate n ByteArray.empty) := by
  apply Array.ext
  · simp [madeCells, strsA]
  · intro i h1 h2
    simp [madeCells, strsA, Value.cells, Nat.mod_one]
theorem isStrs_blk {w : World} {g : Nat} {ss : List ByteArray} {T : TypeId} (h : w.heap[g]? = some (.cells (strsA ss) T (0, 0))) (hm : ss.length ≤ maxLen) (hs : ∀ s ∈ ss, s.size ≤ maxLen) : IsStrs w (some ⟨g, 0, none⟩) ss.length ss.length ss := by
  refine ⟨rfl, Nat.le_refl _, hm, hs, fun _ => ⟨g, 0, rfl, blk_lt h, fun i p hp => ?_⟩⟩
  rw [Nat.zero_add, cellOf h, strsA_get, hp]; rfl
theorem info_str : (Try.prog.info? 9).map (fun i => (i.zero, i.size, i.bytes)) = some (some (.string ByteArray.empty), 1, 16) := by kernel_rfl
theorem make_str (n : Nat) (hn : n ≤ 1048576) (W : World) : (Instr.makeSlice 48 (.int .i64 (n : Int)) (.int .i64 (n : Int))).run Try.prog W = .ok (.slice (some ⟨W.heap.size, 0, none⟩) n n) (W.alloc (.cells (strsA (List.replicate n ByteArray.empty)) 9)) := by
  obtain ⟨i, hi, hz, hs, hb⟩ := info_parts info_str
  have hr := run_make (P := Try.prog) W 48 9 i (.string ByteArray.empty) Try.underlying48 hi hz .i64 .i64 n n (by omega) (Int.le_refl _) (by rw [hb]; omega) (by omega)
  rw [hs] at hr
  simp only [Int.toNat_natCast, Nat.mul_one, made_strs] at hr
  exact hr
/-- What a copy holds behind k rounds. -/
def spart (ss : List ByteArray) (k : Nat) : List ByteArray := ss.take k ++ List.replicate (ss.length - k) ByteArray.empty
theorem spart_zero (ss : List ByteArray) : spart ss 0 = List.replicate ss.length ByteArray.empty := by simp [spart]
theorem spart_all (ss : List ByteArray) : spart ss ss.length = ss := by simp [spart]
theorem spart_get (ss : List ByteArray) (k : Nat) (h : k < ss.length) : (spart ss k)[k]? = some ByteArray.empty := by
  unfold spart; rw [List.getElem?_append_right (by simp; omega)]
  simp [List.getElem?_replicate]; omega
theorem spart_next (ss : List ByteArray) (k : Nat) (h : k < ss.length) : (spart ss k).set k (ss.getD k ByteArray.empty) = spart ss (k + 1) := by
  unfold spart
  rw [List.set_append_right _ _ (by simp; omega)]
  have e1 : k - (List.take k ss).length = 0 := by simp; omega
  have e2 : ss.length - k = (ss.length - (k + 1)) + 1 := by omega
  rw [e1, e2, List.replicate_succ, List.set_cons_zero, List.take_succ_eq_append_getElem h, List.append_assoc]
  simp [List.getD_eq_getElem?_getD, h]
/-- The bytes of the first k strings. -/
def szK (ss : List ByteArray) : Nat → Int
  | 0 => 0
  | k + 1 => szK ss k + ((ss.getD k ByteArray.empty).size : Int)
theorem szK_mono (ss : List ByteArray) (i j : Nat) (h : i ≤ j) : szK ss i ≤ szK ss j := by
  induction j with
  | zero => obtain rfl : i = 0 := by omega
            exact Int.le_refl _
  | succ j ih =>
    rcases Nat.lt_or_ge i (j + 1) with h1 | h1
    · have := ih (by omega)
      simp only [szK]; omega
    · obtain rfl : i = j + 1 := by omega
      exact Int.le_refl _
theorem szK_nonneg (ss : List ByteArray) (i : Nat) : 0 ≤ szK ss i := szK_mono ss 0 i (by omega)
/-- What a slice of strings takes of the laws' allowance. -/
def szT (ss : List ByteArray) : Int := (ss.length : Int) + szK ss ss.length
theorem szT_len (ss : List ByteArray) : (ss.length : Int) ≤ szT ss := by
  have := szK_nonneg ss ss.length
  unfold szT; omega
end Go.Proofs.Ytklhaanapembdaa
/- Slices of strings of a call's own: made, appended to, read, marked; no function of the program is named but the laws' marking; conditions: lengths that memory holds. -/
namespace Go.Proofs.Ytklhaanapembdaa
open Go.RowKit

/-- A slice of strings of the call's own. -/
def OwnS (w : World) (base : Nat) (v : Value) (ss : List ByteArray) : Prop := w.ownsRow base 9 1 v ss.length (ss.map Value.string)
theorem OwnS.row {w : World} {base : Nat} {a : Option Addr} {n c : Nat} {ss : List ByteArray} (h : OwnS w base (.slice a n c) ss) (hs : ∀ s ∈ ss, s.size ≤ maxLen) : IsStrs w a n c ss := by
  obtain ⟨_, h⟩ := h
  rcases h with ⟨hv, hn⟩ | ⟨g, cap, cur, hv, hb, hh, hnc, hm, hs', ht⟩
  · injection hv with h1 h2 h3
    subst h1 h2 h3
    have : ss = [] := by simpa using hn
    subst this
    exact isStrs_nil
  · injection hv with h1 h2 h3
    subst h1 h2 h3
    refine ⟨rfl, hnc, hm, hs, fun _ => ⟨g, 0, rfl, blk_lt hh, fun i n hi => ?_⟩⟩
    rw [Nat.zero_add, cellOf hh]
    have e : (cur.toList.take (ss.length * 1))[i]? = some (Value.string n) := by rw [ht]; simp [hi]
    rw [List.getElem?_take] at e
    split at e
    · simpa using e
    · cases e
theorem ownS_made {w : World} {base g : Nat} {ss : List ByteArray} (h : w.heap[g]? = some (.cells (strsA ss) 9 (0, 0))) (hb : base ≤ g) (hm : ss.length ≤ maxLen) : OwnS w base (.slice (some ⟨g, 0, none⟩) ss.length ss.length) ss :=
  ⟨by simp, .inr ⟨g, _, _, rfl, hb, h, Nat.le_refl _, hm, by simp [strsA], by simp only [strsA, Nat.mul_one]; exact List.take_of_length_le (by simp)⟩⟩
theorem OwnS.below {w w' : World} {base : Nat} {v : Value} {ss : List ByteArray} (h : OwnS w base v ss) (hb : Below w.heap.size w w') : OwnS w' base v ss := by
  refine World.ownsRow.kept (row := none) h ⟨hb.os, hb.tape, hb.output, hb.size, fun k hk _ => hb.block k hk⟩ ?_
  rcases h.2 with ⟨rfl, _⟩ | ⟨g, _, _, rfl, _⟩
  · exact .inl rfl
  · exact .inr (by simp [Value.ownBlock])
theorem ownS_empty (w : World) (base : Nat) (h : base ≤ w.heap.size) : OwnS (w.alloc (.cells #[] 9)) base (.slice (some ⟨w.heap.size, 0, none⟩) 0 0) [] :=
  World.ownsRow_made w #[] 0 h (Nat.zero_le _) rfl
theorem ownS_nil (w : World) (base : Nat) : OwnS w base (.slice none 0 0) [] := World.ownsRow_nil _ _ _ _
theorem OwnS.alloc {w : World} {base : Nat} {v : Value} {ss : List ByteArray} (h : OwnS w base v ss) (o : Obj) : OwnS (w.alloc o) base v ss := World.ownsRow.alloc h o
theorem OwnS.snoc {w : World} {base n : Nat} {v : Value} {ss : List ByteArray} {x : ByteArray} (h : w.ownsRow base 9 1 v n (ss.map Value.string ++ [.string x])) (hn : n = ss.length + 1) : OwnS w base v (ss ++ [x]) := by
  unfold OwnS; subst hn; simpa using h
theorem ownS_of {W : World} {base n : Nat} {v : Value} {ss : List ByteArray} (hl : ss.length = n) (h : W.ownsRow base 9 1 v n (ss.map Value.string)) : OwnS W base v ss := by
  unfold OwnS; rw [hl]; exact h
theorem OwnS.shape {w : World} {base : Nat} {v : Value} {ss : List ByteArray} (h : OwnS w base v ss) : ∃ a c, v = .slice a ss.length c := by
  rcases h.2 with ⟨rfl, h0⟩ | ⟨g, cap, _, rfl, _⟩
  · exact ⟨none, 0, by rw [h0]⟩
  · exact ⟨_, _, rfl⟩
theorem OwnS.base {w : World} {b b' : Nat} {v : Value} {ss : List ByteArray} (h : OwnS w b v ss) (hb : b' ≤ b) : OwnS w b' v ss := by
  obtain ⟨h1, h2⟩ := h
  refine ⟨h1, ?_⟩
  rcases h2 with h2 | ⟨g, cap, cur, h3, h4, h5⟩
  · exact .inl h2
  · exact .inr ⟨g, cap, cur, h3, Nat.le_trans hb h4, h5⟩
theorem below_row {a w w' : World} {base n size : Nat} {e : TypeId} {v : Value} {xs : List Value} (h : Below a.heap.size a w) (hb : a.heap.size ≤ base) (ho : w.ownsRow base e size v n xs) (hg : w.grownBy w' v.ownBlock) : Below a.heap.size a w' :=
  h.grown hg h.size (fun k e => Nat.le_trans hb (ho.lt k e).1)
theorem blk_row {w w' : World} {g base n size : Nat} {e : TypeId} {o : Obj} {v : Value} {xs : List Value} (h : w.heap[g]? = some o) (ho : w.ownsRow base e size v n xs) (hg : w.grownBy w' v.ownBlock) (hb : g < base) : w'.heap[g]? = some o :=
  (hg.block g (blk_lt h) (fun e => by have := (ho.lt g e.symm).1; omega)).trans h
theorem cell_row {w w' : World} {b o base n size : Nat} {e : TypeId} {u v : Value} {xs : List Value} (h : w.cell? ⟨b, o, none⟩ = some u) (ho : w.ownsRow base e size v n xs) (hg : w.grownBy w' v.ownBlock) (hb : b < base) : w'.cell? ⟨b, o, none⟩ = some u := by
  have hl := World.block_lt_of_cell? _ _ h
  have e : w'.heap[b]? = w.heap[b]? := hg.block b hl (fun e => by have := (ho.lt b e.symm).1; omega)
  rw [← h]
  unfold World.cell?
  simp only [e]
/-- A call that hands back a new slice of strings. -/
def NewS (w : World) (ss : List ByteArray) (e : Ending) (w' : World) : Prop :=
  ∃ a c, e = .returned (.slice a ss.length c) ∧ OwnS w' w.heap.size (.slice a ss.length c) ss ∧ Below w.heap.size w w'
theorem newS_mk {w w' : World} {v : Value} {ss : List ByteArray} (h : OwnS w' w.heap.size v ss) (hb : Below w.heap.size w w') : NewS w ss (.returned v) w' := by
  obtain ⟨a, c, rfl⟩ := h.shape
  exact ⟨a, c, rfl, h, hb⟩
end Go.Proofs.Ytklhaanapembdaa
