/- Slices of strings of a call's own: made, appended to, read, marked; no function of the program is named but the laws' marking; conditions: lengths that memory holds. -/
import Derived.Test.YtlkdkidpbjpkhaaStrs
import Derived.Laws.AppendOwn
namespace Go.Proofs.Ytlkdkidpbjpkhaa
open Go.RowKit

/-- A slice of strings of the call's own. -/
def OwnS (w : World) (base : Nat) (v : Value) (ss : List ByteArray) : Prop := w.ownsRow base 9 1 v ss.length (ss.map Value.string)
theorem OwnS.row {w : World} {base : Nat} {a : Option Addr} {n c : Nat} {ss : List ByteArray} (h : OwnS w base (.slice a n c) ss) (hs : ∀ s ∈ ss, s.size ≤ maxLen) : IsStrs w a n c ss := by
  obtain ⟨_, h⟩ := h
  rcases h with ⟨hv, hn⟩ | ⟨g, cap, cur, hv, hb, hh, hnc, hm, hs', ht⟩
  · injection hv with h1 h2 h3
    subst h1 h2 h3
    have : ss = [] := by simpa using hn
    subst this
    exact isStrs_nil
  · injection hv with h1 h2 h3
    subst h1 h2 h3
    refine ⟨rfl, hnc, hm, hs, fun _ => ⟨g, 0, rfl, blk_lt hh, fun i n hi => ?_⟩⟩
    rw [Nat.zero_add, cellOf hh]
    have e : (cur.toList.take (ss.length * 1))[i]? = some (Value.string n) := by rw [ht]; simp [hi]
    rw [List.getElem?_take] at e
    split at e
    · simpa using e
    · cases e
theorem ownS_made {w : World} {base g : Nat} {ss : List ByteArray} (h : w.heap[g]? = some (.cells (strsA ss) 9 (0, 0))) (hb : base ≤ g) (hm : ss.length ≤ maxLen) : OwnS w base (.slice (some ⟨g, 0, none⟩) ss.length ss.length) ss :=
  ⟨by simp, .inr ⟨g, _, _, rfl, hb, h, Nat.le_refl _, hm, by simp [strsA], by simp only [strsA, Nat.mul_one]; exact List.take_of_length_le (by simp)⟩⟩
theorem OwnS.below {w w' : World} {base : Nat} {v : Value} {ss : List ByteArray} (h : OwnS w base v ss) (hb : Below w.heap.size w w') : OwnS w' base v ss := by
  refine World.ownsRow.kept (row := none) h ⟨hb.os, hb.tape, hb.output, hb.size, fun k hk _ => hb.block k hk⟩ ?_
  rcases h.2 with ⟨rfl, _⟩ | ⟨g, _, _, rfl, _⟩
  · exact .inl rfl
  · exact .inr (by simp [Value.ownBlock])
theorem ownS_empty (w : World) (base : Nat) (h : base ≤ w.heap.size) : OwnS (w.alloc (.cells #[] 9)) base (.slice (some ⟨w.heap.size, 0, none⟩) 0 0) [] :=
  World.ownsRow_made w #[] 0 h (Nat.zero_le _) rfl
theorem ownS_nil (w : World) (base : Nat) : OwnS w base (.slice none 0 0) [] := World.ownsRow_nil _ _ _ _
theorem OwnS.alloc {w : World} {base : Nat} {v : Value} {ss : List ByteArray} (h : OwnS w base v ss) (o : Obj) : OwnS (w.alloc o) base v ss := World.ownsRow.alloc h o
theorem OwnS.snoc {w : World} {base n : Nat} {v : Value} {ss : List ByteArray} {x : ByteArray} (h : w.ownsRow base 9 1 v n (ss.map Value.string ++ [.string x])) (hn : n = ss.length + 1) : OwnS w base v (ss ++ [x]) := by
  unfold OwnS; subst hn; simpa using h
theorem ownS_of {W : World} {base n : Nat} {v : Value} {ss : List ByteArray} (hl : ss.length = n) (h : W.ownsRow base 9 1 v n (ss.map Value.string)) : OwnS W base v ss := by
  unfold OwnS; rw [hl]; exact h
theorem OwnS.shape {w : World} {base : Nat} {v : Value} {ss : List ByteArray} (h : OwnS w base v ss) : ∃ a c, v = .slice a ss.length c := by
  rcases h.2 with ⟨rfl, h0⟩ | ⟨g, cap, _, rfl, _⟩
  · exact ⟨none, 0, by rw [h0]⟩
  · exact ⟨_, _, rfl⟩
theorem OwnS.base {w : World} {b b' : Nat} {v : Value} {ss : List ByteArray} (h : OwnS w b v ss) (hb : b' ≤ b) : OwnS w b' v ss := by
  obtain ⟨h1, h2⟩ := h
  refine ⟨h1, ?_⟩
  rcases h2 with h2 | ⟨g, cap, cur, h3, h4, h5⟩
  · exact .inl h2
  · exact .inr ⟨g, cap, cur, h3, Nat.le_trans hb h4, h5⟩
theorem below_row {a w w' : World} {base n size : Nat} {e : TypeId} {v : Value} {xs : List Value} (h : Below a.heap.size a w) (hb : a.heap.size ≤ base) (ho : w.ownsRow base e size v n xs) (hg : w.grownBy w' v.ownBlock) : Below a.heap.size a w' :=
  h.grown hg h.size (fun k e => Nat.le_trans hb (ho.lt k e).1)
theorem blk_row {w w' : World} {g base n size : Nat} {e : TypeId} {o : Obj} {v : Value} {xs : List Value} (h : w.heap[g]? = some o) (ho : w.ownsRow base e size v n xs) (hg : w.grownBy w' v.ownBlock) (hb : g < base) : w'.heap[g]? = some o :=
  (hg.block g (blk_lt h) (fun e => by have := (ho.lt g e.symm).1; omega)).trans h
theorem cell_row {w w' : World} {b o base n size : Nat} {e : TypeId} {u v : Value} {xs : List Value} (h : w.cell? ⟨b, o, none⟩ = some u) (ho : w.ownsRow base e size v n xs) (hg : w.grownBy w' v.ownBlock) (hb : b < base) : w'.cell? ⟨b, o, none⟩ = some u := by
  have hl := World.block_lt_of_cell? _ _ h
  have e : w'.heap[b]? = w.heap[b]? := hg.block b hl (fun e => by have := (ho.lt b e.symm).1; omega)
  rw [← h]
  unfold World.cell?
  simp only [e]
/-- A call that hands back a new slice of strings. -/
def NewS (w : World) (ss : List ByteArray) (e : Ending) (w' : World) : Prop :=
  ∃ a c, e = .returned (.slice a ss.length c) ∧ OwnS w' w.heap.size (.slice a ss.length c) ss ∧ Below w.heap.size w w'
theorem newS_mk {w w' : World} {v : Value} {ss : List ByteArray} (h : OwnS w' w.heap.size v ss) (hb : Below w.heap.size w w') : NewS w ss (.returned v) w' := by
  obtain ⟨a, c, rfl⟩ := h.shape
  exact ⟨a, c, rfl, h, hb⟩
/-- An append to a slice of the call's own: its array is the elder one, or a new one. -/
theorem wpList_append_new {P : Program} (w : World) {ops : Array Oper} {rest : List Oper} {o : Oper} {a : Act} {Q : Exit → Act → World → Prop} (hgd : o.guard = none) (s x : Operand) (t : TypeId)
    (ho : o.op = .call { callee := .builtin .append, args := #[s, x], argTypes := #[t, t] })
    (base : Nat) (e : TypeId) (i : TypeInfo) (z : Value) (size bytes : Nat) (ht : P.underlying t = some (.slice e)) (hi : P.info? e = some i) (hz : i.zero = some z)
    (hsize : i.size = size) (hby : i.bytes = bytes) (hzs : z.cells.size = size) (hsz : 0 < size)
    (v : Value) (n : Nat) (xs : List Value) (hs : a.eval s = v) (hown : w.ownsRow base e size v n xs)
    (ad : Addr) (m c : Nat) (news : List Value) (hx : a.eval x = .slice (some ad) m c) (hl : news.length = m * size) (hnews : ∀ j u, news[j]? = some u → w.cell? (ad.add j) = some u) (h1 : ∀ u ∈ news, u.oneCell' = true)
    (h63 : n + m ≤ maxLen) (hbytes : (n + m) * bytes ≤ 140737488355328) (hbase : base ≤ w.heap.size) (hm : 0 < m)
    (h : ∀ v' w', w'.ownsRow base e size v' (n + m) (xs ++ news) → w.grownBy w' v.ownBlock → (∀ g, v'.ownBlock = some g → v.ownBlock = some g ∨ w.heap.size ≤ g) → wpList P ops Q rest (a.put o.dst v') w') :
    wpList P ops Q (o :: rest) a w := by
  have grow : ∀ v' w', w'.ownsRow w.heap.size e size v' (n + m) (xs ++ news) → w.grownBy w' none → wpList P ops Q rest (a.put o.dst v') w' := by
    intro v' w' r1 r2
    have r0 := r1
    obtain ⟨k1, k2⟩ := r1
    refine h v' w' ⟨k1, ?_⟩ ⟨r2.os, r2.tape, r2.output, r2.size, fun k hk _ => r2.block k hk (by simp)⟩ (fun g hg => .inr (r0.lt g hg).1)
    rcases k2 with k2 | ⟨g, cap, cur, k3, k4, k5⟩
    · exact .inl k2
    · exact .inr ⟨g, cap, cur, k3, Nat.le_trans hbase k4, k5⟩
  have hown0 := hown
  rcases hown.2 with ⟨hv, rfl⟩ | ⟨g, cap, cur, hv, hbg, hg, hnc, hcm, hcs, htake⟩
  · have hx0 : xs = [] := List.eq_nil_of_length_eq_zero (by simpa using hown.1)
    subst hx0
    exact wpList_append_grows w hgd s x t ho e i z size bytes ht hi hz hsize hby hzs hsz none 0 0 [] (hs.trans hv) (fun _ => ⟨rfl, rfl⟩) (by simp) (fun b hb => by cases hb) ad m c news hx hl hnews h1 (by omega) h63 hbytes grow
  · by_cases hroom : n + m ≤ cap
    · refine wpList_append_fits w hgd s x t ho base e i size ht hi hsize g n cap xs (hs.trans hv) (hv ▸ hown) ad m c news hx hl hnews h1 hroom fun w' r1 r2 => ?_
      refine h _ w' r1 (by rw [hv]; exact r2) (fun g' hg' => .inl ?_)
      rw [hv]; exact hg'
    · exact wpList_append_grows w hgd s x t ho e i z size bytes ht hi hz hsize hby hzs hsz (some ⟨g, 0, none⟩) n cap xs (hs.trans hv) (fun hb => by cases hb) hown.1 (fun b hb => by
        injection hb with hb; subst hb
        exact hown0.cells (g := g) (by rw [hv]; rfl)) ad m c news hx hl hnews h1 (by omega) h63 hbytes grow
end Go.Proofs.Ytlkdkidpbjpkhaa
