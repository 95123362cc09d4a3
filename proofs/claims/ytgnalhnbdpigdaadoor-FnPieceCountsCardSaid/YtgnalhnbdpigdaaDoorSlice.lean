/- Contracts of the laws' own functions on slices of int64 (toInt64S, eqInt64S, markInt64S, heldInt64S): what each call returns and which memory turns; conditions: the slices can be read, and are no longer than 2^20 where one is made. -/
import Derived.Test.YtgnalhnbdpigdaaDoorBase
namespace Go.Proofs.YtgnalhnbdpigdaaDoor
open Go.RowKit

/-- Integers as a row of cells. -/
def ints (zs : List Int) : Array Value := (zs.map (Value.int .i64)).toArray
theorem ints_get (zs : List Int) (i : Nat) : (ints zs)[i]? = zs[i]?.map (Value.int .i64) := by simp [ints]
theorem ints_size (zs : List Int) : (ints zs).size = zs.length := by simp [ints]
theorem ints_set (zs : List Int) (i : Nat) (n : Int) : (ints zs).setIfInBounds i (.int .i64 n) = ints (zs.set i n) := by
  simp [ints, List.map_set]
theorem made_ints (n : Nat) : madeCells (Value.int .i64 0).cells n = ints (List.replicate n 0) := by
  apply Array.ext
  · simp [madeCells, ints]
  · intro i h1 h2
    simp [madeCells, ints, Value.cells, Nat.mod_one]
/-- A slice of integers of the call's own. -/
def OwnI (w : World) (base : Nat) (v : Value) (zs : List Int) : Prop := w.ownsRow base 2 1 v zs.length (zs.map (Value.int .i64))
theorem OwnI.row {w : World} {base : Nat} {a : Option Addr} {n c : Nat} {zs : List Int} (h : OwnI w base (.slice a n c) zs) : IsRow .i64 w a n c zs := by
  obtain ⟨_, h⟩ := h
  rcases h with ⟨hv, hn⟩ | ⟨g, cap, cur, hv, hb, hh, hnc, hm, hs, ht⟩
  · injection hv with h1 h2 h3
    subst h1 h2 h3
    have : zs = [] := by simpa using hn
    subst this
    exact isRow_nil
  · injection hv with h1 h2 h3
    subst h1 h2 h3
    refine ⟨rfl, hnc, hm, (fun hk => by cases hk), fun _ => ⟨g, 0, rfl, blk_lt hh, fun i n hi => ?_⟩⟩
    rw [Nat.zero_add, cellOf hh]
    have e : (cur.toList.take (zs.length * 1))[i]? = some (Value.int .i64 n) := by rw [ht]; simp [hi]
    rw [List.getElem?_take] at e
    split at e
    · simpa using e
    · cases e
theorem ownI_made {w : World} {base g : Nat} {zs : List Int} (h : w.heap[g]? = some (.cells (ints zs) 2 (0, 0))) (hb : base ≤ g) (hm : zs.length ≤ maxLen) : OwnI w base (.slice (some ⟨g, 0, none⟩) zs.length zs.length) zs :=
  ⟨by simp, .inr ⟨g, _, _, rfl, hb, h, Nat.le_refl _, hm, by simp [ints], by simp only [ints, Nat.mul_one]; exact List.take_of_length_le (by simp)⟩⟩

theorem info_i64 : (Tryd.prog.info? 2).map (fun i => (i.zero, i.size, i.bytes)) = some (some (.int .i64 0), 1, 8) := by kernel_rfl
theorem make_i64 (n : Nat) (hn : n ≤ 1048576) (W : World) : (Instr.makeSlice 42 (.int .i64 (n : Int)) (.int .i64 (n : Int))).run Tryd.prog W = .ok (.slice (some ⟨W.heap.size, 0, none⟩) n n) (W.alloc (.cells (ints (List.replicate n 0)) 2)) := by
  obtain ⟨i, hi, hz, hs, hb⟩ := info_parts info_i64
  have hr := run_make (P := Tryd.prog) W 42 2 i (.int .i64 0) Tryd.underlying42 hi hz .i64 .i64 n n (by omega) (Int.le_refl _) (by rw [hb]; omega) (by omega)
  rw [hs] at hr
  simp only [Int.toNat_natCast, Nat.mul_one, made_ints] at hr
  exact hr
/-- The marks k0, k0 + 1, .. -/
def marks (k0 : Int) (n : Nat) : List Int := (List.range n).map fun i => k0 + (i : Nat)
theorem marks_len (k0 : Int) (n : Nat) : (marks k0 n).length = n := by simp [marks]
theorem marks_get (k0 : Int) (n i : Nat) (h : i < n) : (marks k0 n).getD i 0 = k0 + i := by simp [marks, List.getD_eq_getElem?_getD, h]
theorem marks_step (k0 : Int) (zs : List Int) (k : Nat) (h : k < zs.length) : (marks k0 k ++ zs.drop k).set k (k0 + k) = marks k0 (k + 1) ++ zs.drop (k + 1) := by
  rw [List.set_append_right _ _ (by rw [marks_len]; omega), marks_len, Nat.sub_self, List.drop_eq_getElem_cons h, List.set_cons_zero]
  simp [marks, List.range_succ]
theorem OwnI.grown {w w' : World} {base g : Nat} {v : Value} {zs : List Int} (h : OwnI w base v zs) (hg : w.grownBy w' (some g)) (hne : v.ownBlock ≠ some g) : OwnI w' base v zs := h.kept hg (.inr hne)
theorem OwnI.below {w w' : World} {base : Nat} {v : Value} {zs : List Int} (h : OwnI w base v zs) (hb : Below w.heap.size w w') : OwnI w' base v zs := by
  refine World.ownsRow.kept (row := none) h ⟨hb.os, hb.tape, hb.output, hb.size, fun k hk _ => hb.block k hk⟩ ?_
  rcases h.2 with ⟨rfl, _⟩ | ⟨g, _, _, rfl, _⟩
  · exact .inl rfl
  · exact .inr (by simp [Value.ownBlock])

/-! ### Slices that a call makes by append -/
theorem ownI_empty (w : World) (base : Nat) (h : base ≤ w.heap.size) : OwnI (w.alloc (.cells #[] 2)) base (.slice (some ⟨w.heap.size, 0, none⟩) 0 0) [] :=
  World.ownsRow_made w #[] 0 h (Nat.zero_le _) rfl
theorem ownI_nil (w : World) (base : Nat) : OwnI w base (.slice none 0 0) [] := World.ownsRow_nil _ _ _ _
theorem OwnI.alloc {w : World} {base : Nat} {v : Value} {zs : List Int} (h : OwnI w base v zs) (o : Obj) : OwnI (w.alloc o) base v zs := World.ownsRow.alloc h o
theorem OwnI.snoc {w : World} {base n : Nat} {v : Value} {zs : List Int} {x : Int} (h : w.ownsRow base 2 1 v n (zs.map (Value.int .i64) ++ [.int .i64 x])) (hn : n = zs.length + 1) : OwnI w base v (zs ++ [x]) := by
  unfold OwnI; subst hn; simpa using h
theorem OwnI.shape {w : World} {base : Nat} {v : Value} {zs : List Int} (h : OwnI w base v zs) : ∃ a c, v = .slice a zs.length c := by
  rcases h.2 with ⟨rfl, h0⟩ | ⟨g, cap, _, rfl, _⟩
  · exact ⟨none, 0, by rw [h0]⟩
  · exact ⟨_, _, rfl⟩
theorem below_append {a w w' : World} {v : Value} {zs : List Int} (h : Below a.heap.size a w) (ho : OwnI w a.heap.size v zs) (hg : w.grownBy w' v.ownBlock) : Below a.heap.size a w' :=
  h.grown hg h.size (fun k e => (ho.lt k e).1)
/-- A call that hands back a new slice of integers and a code. -/
def NewI (w : World) (zs : List Int) (code : Int) (e : Ending) (w' : World) : Prop :=
  ∃ a c, e = .returned (.tuple #[.slice a zs.length c, .int .i64 code]) ∧ OwnI w' w.heap.size (.slice a zs.length c) zs ∧ Below w.heap.size w w'
theorem newI_mk {w w' : World} {v : Value} {zs : List Int} {code : Int} (h : OwnI w' w.heap.size v zs) (hb : Below w.heap.size w w') : NewI w zs code (.returned (.tuple #[v, .int .i64 code])) w' := by
  obtain ⟨a, c, rfl⟩ := h.shape
  exact ⟨a, c, rfl, h, hb⟩
/-! ### What the walks of the laws on slices go by -/
/-- As NewI, the length told. -/
def NewN (n : Nat) (zs : List Int) (code : Int) (w : World) (e : Ending) (w' : World) : Prop :=
  ∃ a c, e = .returned (.tuple #[.slice a n c, .int .i64 code]) ∧ OwnI w' w.heap.size (.slice a n c) zs ∧ Below w.heap.size w w'
theorem NewI.told {w w' : World} {zs : List Int} {code : Int} {e : Ending} {n : Nat} (h : NewI w zs code e w') (hn : zs.length = n) : NewN n zs code w e w' := by
  subst hn; exact h
/-- Two slices of different calls have different arrays. -/
theorem OwnI.apart {w w' : World} {base base' : Nat} {v v' : Value} {zs zs' : List Int} (h : OwnI w base v zs) (h' : OwnI w' base' v' zs') (hb : w.heap.size ≤ base') :
    (v.ownBlock = none ∨ v.ownBlock ≠ v'.ownBlock) ∧ (v'.ownBlock = none ∨ v'.ownBlock ≠ v.ownBlock) := by
  rcases ho : v.ownBlock with _ | g
  · exact ⟨.inl rfl, by rcases hp : v'.ownBlock with _ | g' <;> simp⟩
  · rcases hp : v'.ownBlock with _ | g'
    · exact ⟨.inr (by simp), .inl rfl⟩
    · have h1 := (h.lt g ho).2
      have h2 := (h'.lt g' hp).1
      have : g ≠ g' := by omega
      exact ⟨.inr (by simpa using this), .inr (by simpa using fun e => this e.symm)⟩
theorem keepM {w w' : World} {base b o : Nat} {v x : Value} {zs : List Int} (hO : OwnI w base v zs) (hG : w.grownBy w' v.ownBlock) (hb : b < base) (hc : w.cell? ⟨b, o, none⟩ = some x) : w'.cell? ⟨b, o, none⟩ = some x := by
  have hl := World.block_lt_of_cell? _ _ hc
  have e : w'.heap[b]? = w.heap[b]? := hG.block b hl (fun e => by have := (hO.lt b e.symm).1; omega)
  rw [← hc]
  unfold World.cell?
  simp only [e]
theorem below_mark {a w w' : World} {base : Nat} {v : Value} {zs : List Int} (h : Below a.heap.size a w) (hb : a.heap.size ≤ base) (ho : OwnI w base v zs) (hg : w.grownBy w' v.ownBlock) : Below a.heap.size a w' :=
  h.grown hg h.size (fun k e => Nat.le_trans hb (ho.lt k e).1)
theorem OwnI.keptM {w w' : World} {base : Nat} {v v' : Value} {zs : List Int} (h : OwnI w base v zs) (hg : w.grownBy w' v'.ownBlock) (hne : v.ownBlock = none ∨ v.ownBlock ≠ v'.ownBlock) : OwnI w' base v zs := World.ownsRow.kept h hg hne
/-- A call that hands back a new slice of integers. -/
def NewL (w : World) (zs : List Int) (e : Ending) (w' : World) : Prop :=
  ∃ a c, e = .returned (.slice a zs.length c) ∧ OwnI w' w.heap.size (.slice a zs.length c) zs ∧ Below w.heap.size w w'
theorem newL_mk {w w' : World} {v : Value} {zs : List Int} (h : OwnI w' w.heap.size v zs) (hb : Below w.heap.size w w') : NewL w zs (.returned v) w' := by
  obtain ⟨a, c, rfl⟩ := h.shape
  exact ⟨a, c, rfl, h, hb⟩
theorem map_take_next {f : Int → Int} {zs : List Int} {k : Nat} (h : k < zs.length) : (zs.take (k + 1)).map f = (zs.take k).map f ++ [f (zs.getD k 0)] := by
  rw [List.take_succ_eq_append_getElem h, List.map_append, List.getD_eq_getElem?_getD, List.getElem?_eq_getElem h]; rfl
theorem map_take_len {f : Int → Int} {zs : List Int} {k : Nat} (h : k ≤ zs.length) : ((zs.take k).map f).length = k := by simp; omega
/-- An owned slice, seen from a later base. -/
theorem OwnI.base {w : World} {b b' : Nat} {v : Value} {zs : List Int} (h : OwnI w b v zs) (hb : b' ≤ b) : OwnI w b' v zs := by
  obtain ⟨h1, h2⟩ := h
  refine ⟨h1, ?_⟩
  rcases h2 with h2 | ⟨g, cap, cur, h3, h4, h5⟩
  · exact .inl h2
  · exact .inr ⟨g, cap, cur, h3, Nat.le_trans hb h4, h5⟩
/-- An append to a slice of the call's own: its array is the elder one, or a new one. -/
theorem wpList_append_new {P : Program} (w : World) {ops : Array Oper} {rest : List Oper} {o : Oper} {a : Act} {Q : Exit → Act → World → Prop} (hgd : o.guard = none) (s x : Operand) (t : TypeId)
    (ho : o.op = .call { callee := .builtin .append, args := #[s, x], argTypes := #[t, t] })
    (base : Nat) (e : TypeId) (i : TypeInfo) (z : Value) (size bytes : Nat) (ht : P.underlying t = some (.slice e)) (hi : P.info? e = some i) (hz : i.zero = some z)
    (hsize : i.size = size) (hby : i.bytes = bytes) (hzs : z.cells.size = size) (hsz : 0 < size)
    (v : Value) (n : Nat) (xs : List Value) (hs : a.eval s = v) (hown : w.ownsRow base e size v n xs)
    (ad : Addr) (m c : Nat) (news : List Value) (hx : a.eval x = .slice (some ad) m c) (hl : news.length = m * size) (hnews : ∀ j u, news[j]? = some u → w.cell? (ad.add j) = some u) (h1 : ∀ u ∈ news, u.oneCell' = true)
    (h63 : n + m ≤ maxLen) (hbytes : (n + m) * bytes ≤ 140737488355328) (hbase : base ≤ w.heap.size) (hm : 0 < m)
    (h : ∀ v' w', w'.ownsRow base e size v' (n + m) (xs ++ news) → w.grownBy w' v.ownBlock → (∀ g, v'.ownBlock = some g → v.ownBlock = some g ∨ w.heap.size ≤ g) → wpList P ops Q rest (a.put o.dst v') w') :
    wpList P ops Q (o :: rest) a w := by
  have grow : ∀ v' w', w'.ownsRow w.heap.size e size v' (n + m) (xs ++ news) → w.grownBy w' none → wpList P ops Q rest (a.put o.dst v') w' := by
    intro v' w' r1 r2
    have r0 := r1
    obtain ⟨k1, k2⟩ := r1
    refine h v' w' ⟨k1, ?_⟩ ⟨r2.os, r2.tape, r2.output, r2.size, fun k hk _ => r2.block k hk (by simp)⟩ (fun g hg => .inr (r0.lt g hg).1)
    rcases k2 with k2 | ⟨g, cap, cur, k3, k4, k5⟩
    · exact .inl k2
    · exact .inr ⟨g, cap, cur, k3, Nat.le_trans hbase k4, k5⟩
  have hown0 := hown
  rcases hown.2 with ⟨hv, rfl⟩ | ⟨g, cap, cur, hv, hbg, hg, hnc, hcm, hcs, htake⟩
  · have hx0 : xs = [] := List.eq_nil_of_length_eq_zero (by simpa using hown.1)
    subst hx0
    exact wpList_append_grows w hgd s x t ho e i z size bytes ht hi hz hsize hby hzs hsz none 0 0 [] (hs.trans hv) (fun _ => ⟨rfl, rfl⟩) (by simp) (fun b hb => by cases hb) ad m c news hx hl hnews h1 (by omega) h63 hbytes grow
  · by_cases hroom : n + m ≤ cap
    · refine wpList_append_fits w hgd s x t ho base e i size ht hi hsize g n cap xs (hs.trans hv) (hv ▸ hown) ad m c news hx hl hnews h1 hroom fun w' r1 r2 => ?_
      refine h _ w' r1 (by rw [hv]; exact r2) (fun g' hg' => .inl ?_)
      rw [hv]; exact hg'
    · exact wpList_append_grows w hgd s x t ho e i z size bytes ht hi hz hsize hby hzs hsz (some ⟨g, 0, none⟩) n cap xs (hs.trans hv) (fun hb => by cases hb) hown.1 (fun b hb => by
        injection hb with hb; subst hb
        exact hown0.cells (g := g) (by rw [hv]; rfl)) ad m c news hx hl hnews h1 (by omega) h63 hbytes grow
/-- Two slices have different arrays. -/
def Apart (v v' : Value) : Prop := ∀ g, v.ownBlock = some g → v'.ownBlock ≠ some g
theorem Apart.ne {v v' : Value} (h : Apart v v') : v.ownBlock = none ∨ v.ownBlock ≠ v'.ownBlock := by
  rcases ho : v.ownBlock with _ | g
  · exact .inl rfl
  · exact .inr fun e => h g ho e.symm
theorem Apart.symm {v v' : Value} (h : Apart v v') : Apart v' v := fun g hg e => h g e hg
theorem Apart.next {w : World} {base N : Nat} {u v v' : Value} {zs : List Int} (h : Apart v u) (hu : OwnI w base u zs) (hn : ∀ g, v'.ownBlock = some g → v.ownBlock = some g ∨ N ≤ g) (hN : w.heap.size ≤ N) : Apart v' u := by
  intro g hg e
  rcases hn g hg with h1 | h1
  · exact h g h1 e
  · have := (hu.lt g e).2; omega
theorem apart_new {w w' : World} {base base' : Nat} {v v' : Value} {zs zs' : List Int} (h : OwnI w base v zs) (h' : OwnI w' base' v' zs') (hb : w.heap.size ≤ base') : Apart v v' := by
  intro g hg e
  have h1 := (h.lt g hg).2
  have h2 := (h'.lt g e).1
  omega
theorem blk_own {w w' : World} {g base : Nat} {o : Obj} {v : Value} {zs : List Int} (h : w.heap[g]? = some o) (ho : OwnI w base v zs) (hg : w.grownBy w' v.ownBlock) (hb : g < base) : w'.heap[g]? = some o :=
  (hg.block g (blk_lt h) (fun e => by have := (ho.lt g e.symm).1; omega)).trans h
end Go.Proofs.YtgnalhnbdpigdaaDoor
