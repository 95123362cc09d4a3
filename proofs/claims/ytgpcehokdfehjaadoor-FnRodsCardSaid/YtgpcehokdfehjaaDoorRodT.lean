/- Numbers in decimals with spaces between: the plain text, and slices of strings of the call's own; no function of the program is named; conditions: lengths that memory holds. -/
import Derived.Test.YtgpcehokdfehjaaDoorDecS
import Derived.Lib.Join
namespace Go.Proofs.YtgpcehokdfehjaaDoor
set_option linter.unusedVariables false
open Go.RowKit

/-- Numbers in decimals, with spaces between. -/
def jnB (xs : List ByteArray) : ByteArray := ⟨(Lib.join (xs.map (·.data.toList)) [32]).toArray⟩
def decs (ys : List Int) : List ByteArray := ys.map fun y => decS y.toNat
theorem jnB_nil : jnB [] = ⟨#[]⟩ := rfl
theorem jnB_one (x : ByteArray) : jnB [x] = x := by
  unfold jnB
  rw [List.map_cons, List.map_nil, Lib.join_one]
theorem joinTail_snoc (sep : List UInt8) (r : List (List UInt8)) (y : List UInt8) : Lib.joinTail sep (r ++ [y]) = Lib.joinTail sep r ++ (sep ++ y) := by
  simp [Lib.joinTail]
theorem jnB_snoc (x : ByteArray) (r : List ByteArray) (y : ByteArray) : jnB ((x :: r) ++ [y]) = jnB (x :: r) ++ ⟨#[32]⟩ ++ y := by
  apply ByteArray.ext
  apply Array.toList_inj.1
  unfold jnB
  simp only [ByteArray.data_append, Array.toList_append, List.cons_append, List.map_cons, List.map_append, List.map_nil, Lib.join_cons, joinTail_snoc, List.append_assoc]
theorem jnB_next {xs : List ByteArray} (h : xs ≠ []) (y : ByteArray) : jnB (xs ++ [y]) = jnB xs ++ ⟨#[32]⟩ ++ y := by
  cases xs with
  | nil => exact absurd rfl h
  | cons x r => exact jnB_snoc x r y
theorem lens_le : ∀ (xs : List (List UInt8)), (∀ x ∈ xs, x.length ≤ 21) → Lib.lens xs ≤ 21 * xs.length
  | [], _ => Nat.zero_le _
  | x :: r, h => by
    have h1 := h x (List.mem_cons_self ..)
    have h2 := lens_le r fun y hy => h y (List.mem_cons_of_mem _ hy)
    simp [Lib.lens] at h2 ⊢
    omega
theorem jnB_len (xs : List ByteArray) (h : ∀ x ∈ xs, x.size ≤ 21) : (jnB xs).size ≤ 22 * xs.length := by
  cases xs with
  | nil => exact Nat.le_refl _
  | cons x r =>
    have h1 := lens_le ((x :: r).map (·.data.toList)) (fun y hy => by
      obtain ⟨z, hz, rfl⟩ := List.mem_map.1 hy
      simpa using h z hz)
    have h2 : (jnB (x :: r)).size = (Lib.join ((x :: r).map (·.data.toList)) [32]).length := by simp [jnB, ByteArray.size]
    rw [h2, List.map_cons, Lib.join_length]
    rw [List.map_cons] at h1
    simp at h1 ⊢
    omega
theorem decs_len (ys : List Int) : (decs ys).length = ys.length := by simp [decs]
theorem decs_next {ys : List Int} {k : Nat} (h : k < ys.length) : decs (ys.take (k + 1)) = decs (ys.take k) ++ [decS (ys.getD k 0).toNat] := by
  unfold decs
  rw [List.take_succ_eq_append_getElem h, List.map_append, List.getD_eq_getElem?_getD, List.getElem?_eq_getElem h]; rfl
theorem decs_small {ys : List Int} (h : ∀ k, k < ys.length → 0 ≤ ys.getD k 0 ∧ ys.getD k 0 ≤ 1000000000) : ∀ x ∈ decs ys, x.size ≤ 21 := by
  intro x hx
  obtain ⟨y, hy, rfl⟩ := List.mem_map.1 hx
  obtain ⟨k, hk, rfl⟩ := List.getElem_of_mem hy
  have := h k hk
  rw [List.getD_eq_getElem?_getD, List.getElem?_eq_getElem hk] at this
  rw [decS_size]
  exact dec_len _ (by simp at this; omega)
/-! ### Slices of strings of the call's own -/
def OwnX (w : World) (base : Nat) (v : Value) (ss : List ByteArray) : Prop := w.ownsRow base 9 1 v ss.length (ss.map Value.string)
theorem info_x : (Tryd.prog.info? 9).map (fun i => (i.zero, i.size, i.bytes)) = some (some (.string ByteArray.empty), 1, 16) := by kernel_rfl
theorem ownX_empty (w : World) (base : Nat) (h : base ≤ w.heap.size) : OwnX (w.alloc (.cells #[] 9)) base (.slice (some ⟨w.heap.size, 0, none⟩) 0 0) [] :=
  World.ownsRow_made w #[] 0 h (Nat.zero_le _) rfl
theorem OwnX.below {w w' : World} {base : Nat} {v : Value} {ss : List ByteArray} (h : OwnX w base v ss) (hb : Below w.heap.size w w') : OwnX w' base v ss := by
  refine World.ownsRow.kept (row := none) h ⟨hb.os, hb.tape, hb.output, hb.size, fun k hk _ => hb.block k hk⟩ ?_
  rcases h.2 with ⟨rfl, _⟩ | ⟨g, _, _, rfl, _⟩
  · exact .inl rfl
  · exact .inr (by simp [Value.ownBlock])
theorem OwnX.snoc {w : World} {base n : Nat} {v : Value} {ss : List ByteArray} {x : ByteArray} (h : w.ownsRow base 9 1 v n (ss.map Value.string ++ [.string x])) (hn : n = ss.length + 1) : OwnX w base v (ss ++ [x]) := by
  unfold OwnX; subst hn; simpa using h
theorem OwnX.shape {w : World} {base : Nat} {v : Value} {ss : List ByteArray} (h : OwnX w base v ss) : ∃ a c, v = .slice a ss.length c := by
  rcases h.2 with ⟨rfl, h0⟩ | ⟨g, cap, _, rfl, _⟩
  · exact ⟨none, 0, by rw [h0]⟩
  · exact ⟨_, _, rfl⟩
/-- What is in such a slice that is not empty. -/
theorem OwnX.cells {w : World} {base n c : Nat} {a : Option Addr} {ss : List ByteArray} (h : OwnX w base (.slice a n c) ss) (h0 : 0 < ss.length) : ∃ g, a = some ⟨g, 0, none⟩ ∧ g < w.heap.size ∧ n = ss.length ∧ ss.length ≤ c ∧ ∀ (j : Nat) x, ss[j]? = some x → w.cell? ⟨g, 0 + j, none⟩ = some (.string x) := by
  rcases h.2 with ⟨_, hn⟩ | ⟨g, cap, cur, hv, hb, hh, hnc, hm, hs, ht⟩
  · omega
  · injection hv with h1 h2 h3
    subst h3
    refine ⟨g, h1, blk_lt hh, h2, hnc, fun j x hj => ?_⟩
    rw [Nat.zero_add, cellOf hh]
    have e : (cur.toList.take (ss.length * 1))[j]? = some (Value.string x) := by rw [ht]; simp [hj]
    rw [List.getElem?_take] at e
    split at e
    · simpa using e
    · cases e
end Go.Proofs.YtgpcehokdfehjaaDoor
