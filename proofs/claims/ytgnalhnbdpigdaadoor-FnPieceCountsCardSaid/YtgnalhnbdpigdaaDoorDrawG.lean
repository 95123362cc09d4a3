/- Contracts of the reference's small source beside numbers (one, among), and what stays behind a draw: own slices, rows; condition: the bytes can be read. -/
import Derived.Test.YtgnalhnbdpigdaaDoorDraw
import Derived.Test.YtgnalhnbdpigdaaDoorSlice
namespace Go.Proofs.YtgnalhnbdpigdaaDoor
set_option linter.unusedVariables false
open Go.RowKit

theorem Src.mono {w : World} {b : Nat} {a : Option Addr} {len cap : Nat} {zs : List Int} {N M : Int} (h : Src w b a len cap zs N) (hM : N ≤ M) : Src w b a len cap zs M := by
  obtain ⟨hr, hne, i, sd, h0, h1, hbk⟩ := h
  exact ⟨hr, hne, i, sd, h0, by omega, hbk⟩
/-- The source stays behind a change to a block of the call's own. -/
theorem Src.own {w w' : World} {b B : Nat} {a : Option Addr} {len cap : Nat} {zs : List Int} {N : Int} {v : Value} (h : Src w b a len cap zs N) (hg : w.grownBy w' v.ownBlock) (hv : ∀ k, v.ownBlock = some k → B ≤ k) (hb : b < B) (ha : 0 < len → ∀ x, a = some x → x.block < B) : Src w' b a len cap zs N := by
  obtain ⟨hr, hne, i, sd, h0, h1, hbk⟩ := h
  refine ⟨?_, hne, i, sd, h0, h1, (hg.block b (blk_lt hbk) (fun e => by have := hv b e.symm; omega)).trans hbk⟩
  obtain ⟨g1, g2, g3, g4, g5⟩ := hr
  refine ⟨g1, g2, g3, g4, fun hl => ?_⟩
  obtain ⟨rb, o, hx, hlt, hc⟩ := g5 hl
  have hrb := ha hl _ hx
  simp at hrb
  refine ⟨rb, o, hx, Nat.lt_of_lt_of_le hlt hg.size, fun i n hi => ?_⟩
  have e : w'.heap[rb]? = w.heap[rb]? := hg.block rb hlt (fun e => by have := hv rb e.symm; omega)
  rw [← hc i n hi]
  unfold World.cell?
  simp only [e]
theorem Src.below {w w' : World} {b : Nat} {a : Option Addr} {len cap : Nat} {zs : List Int} {N : Int} (h : Src w b a len cap zs N) (hb : Below w.heap.size w w') : Src w' b a len cap zs N := by
  obtain ⟨hr, hne, i, sd, h0, h1, hbk⟩ := h
  exact ⟨hr.below hb, hne, i, sd, h0, h1, blk_call hbk hb⟩
theorem Src.drew {w : World} {b : Nat} {a : Option Addr} {len cap : Nat} {zs : List Int} {N : Int} (h : Src w b a len cap zs N) : Src w.drew b a len cap zs N := h.below (Below.refl _ _).drew
theorem grown_own {a w w' : World} {r : Option Nat} {v : Value} (h : a.grownBy w r) (hg : w.grownBy w' v.ownBlock) (hv : ∀ k, v.ownBlock = some k → a.heap.size ≤ k) : a.grownBy w' r :=
  ⟨hg.os.trans h.os, hg.tape.trans h.tape, hg.output.trans h.output, Nat.le_trans h.size hg.size, fun i hi hne => (hg.block i (Nat.lt_of_lt_of_le hi h.size) (fun e => by have := hv i e.symm; omega)).trans (h.block i hi hne)⟩
theorem grown_below {a w w' : World} {r : Option Nat} (h : a.grownBy w r) (hb : Below w.heap.size w w') : a.grownBy w' r :=
  ⟨hb.os.trans h.os, hb.tape.trans h.tape, hb.output.trans h.output, Nat.le_trans h.size hb.size, fun i hi hne => (hb.block i (Nat.lt_of_lt_of_le hi h.size)).trans (h.block i hi hne)⟩
theorem own_src {w w' : World} {base size n : Nat} {e : TypeId} {v : Value} {xs : List Value} {b : Nat} (h : w.ownsRow base e size v n xs) (hg : w.grownBy w' (some b)) (hb : b < base) : w'.ownsRow base e size v n xs :=
  World.ownsRow.kept h hg (by
    rcases ho : v.ownBlock with _ | k
    · exact .inl rfl
    · exact .inr (by have := (World.ownsRow.lt h k ho).1; simp; omega))
theorem OwnI.src {w w' : World} {base b : Nat} {v : Value} {zs : List Int} (h : OwnI w base v zs) (hg : w.grownBy w' (some b)) (hb : b < base) : OwnI w' base v zs := own_src h hg hb
/-- A slice that can be read, and does not lie in the source's block. -/
def RowF (w : World) (b : Nat) (v : Value) : Prop := ∃ a n c S, v = .slice a n c ∧ IsRow .i64 w a n c S ∧ ∀ x, a = some x → x.block ≠ b
theorem RowF.grown {w w' : World} {b : Nat} {v : Value} (h : RowF w b v) (hg : w.grownBy w' (some b)) : RowF w' b v := by
  obtain ⟨a, n, c, S, hv, hr, hb⟩ := h
  exact ⟨a, n, c, S, hv, hr.grown (fun _ => hb) hg, hb⟩
theorem RowF.below {w w' : World} {b : Nat} {v : Value} (h : RowF w b v) (hb' : Below w.heap.size w w') : RowF w' b v := by
  obtain ⟨a, n, c, S, hv, hr, hb⟩ := h
  exact ⟨a, n, c, S, hv, hr.below hb', hb⟩
theorem OwnI.rowF {w : World} {base b : Nat} {v : Value} {zs : List Int} (h : OwnI w base v zs) (hb : b < base) : RowF w b v := by
  obtain ⟨a, c, rfl⟩ := h.shape
  refine ⟨a, _, c, zs, rfl, h.row, fun x hx => ?_⟩
  have h0 := h
  obtain ⟨_, h⟩ := h
  rcases h with ⟨hv, hn⟩ | ⟨g, cap, cur, hv, hbb, _⟩
  · injection hv with h1; rw [h1] at hx; cases hx
  · injection hv with h1
    rw [h1] at hx
    injection hx with hx
    subst hx
    show g ≠ b
    omega
/-- A slice literal. -/
theorem isRow_lit {w : World} (ys : List Int) (hy : ys.length ≤ maxLen) : IsRow .i64 (w.alloc (.cells (ints ys) 2)) (some ⟨w.heap.size, 0, none⟩) ys.length ys.length ys := by
  refine ⟨rfl, Nat.le_refl _, hy, (fun e => by cases e), fun _ => ⟨w.heap.size, 0, rfl, by simp, fun i n hi => ?_⟩⟩
  rw [cellOf (blk_new w _), ints_get, Nat.zero_add, hi]
  rfl
theorem rowF_lit {w : World} {b : Nat} (hb : b < w.heap.size) (ys : List Int) (n : Nat) (hn : ys.length = n) (hy : n ≤ maxLen) : RowF (w.alloc (.cells (ints ys) 2)) b (.slice (some ⟨w.heap.size, 0, none⟩) n n) := by
  subst hn
  exact ⟨_, _, _, ys, rfl, isRow_lit ys hy, fun x hx => by injection hx with hx; subst hx; show w.heap.size ≠ b; omega⟩
theorem rowF_cut {w : World} {b : Nat} {a : Option Addr} {n c m : Nat} (h : RowF w b (.slice a n c)) (hm : m ≤ n) : RowF w b (.slice a m c) := by
  obtain ⟨a', n', c', S, hv, hr, hb⟩ := h
  injection hv with h1 h2 h3
  subst h1 h2 h3
  refine ⟨a, m, c, S.take m, rfl, ?_, hb⟩
  obtain ⟨g1, g2, g3, g4, g5⟩ := hr
  refine ⟨by simp; omega, by omega, g3, (fun e => by cases e), fun h0 => ?_⟩
  obtain ⟨rb, o, hx, hlt, hc⟩ := g5 (by omega)
  refine ⟨rb, o, hx, hlt, fun i n hi => hc i n ?_⟩
  rw [List.getElem?_take] at hi
  split at hi
  · exact hi
  · cases hi
set_option maxHeartbeats 1000000 in
theorem one_any (b : Nat) (a : Option Addr) (len cap : Nat) (zs : List Int) (N n : Int) (w : World) (h : Src w b a len cap zs N) (hN : N ≤ 1000000) (hn : 1 ≤ n) (hn' : n ≤ 1000000000) :
    Calls Tryd.prog 50 #[.pointer (some ⟨b, 0, none⟩), .int .i64 n] w fun e w' => ∃ r : Bool, e = .returned (.bool r) ∧ Src w' b a len cap zs (N + 2) ∧ w.grownBy w' (some b) := by
  have H := Lib.hid (pick_any b a len cap zs N n w h hN hn hn')
  clear h
  go_enter Tryd.func50, Tryd.ntmps50
  go_wp2_with fail
  refine H.out.mono ?_
  rintro e1 w1 ⟨r, rfl, h0, h1, hs, hg⟩
  go_wp2
  go_ret
  exact ⟨_, rfl, hs, hg⟩
set_option maxHeartbeats 1000000 in
theorem among_any (b : Nat) (a : Option Addr) (len cap : Nat) (zs : List Int) (N : Int) (a2 : Option Addr) (n c : Nat) (w : World) (h : Src w b a len cap zs N) (hN : N ≤ 1000000) (hr : RowF w b (.slice a2 n c)) (h1 : 1 ≤ n) (h2 : n ≤ 1000) :
    Calls Tryd.prog 51 #[.pointer (some ⟨b, 0, none⟩), .slice a2 n c] w fun e w' => ∃ r : Int, e = .returned (.int .i64 r) ∧ Src w' b a len cap zs (N + 2) ∧ w.grownBy w' (some b) := by
  have H := Lib.hid (pick_any b a len cap zs N (n : Int) w h hN (by omega) (by omega))
  have HR := Lib.hid hr
  clear h hr
  go_enter Tryd.func51, Tryd.ntmps51
  go_wp2_with fail
  refine H.out.mono ?_
  rintro e1 w1 ⟨r, rfl, h0, h1', hs, hg⟩
  obtain ⟨a', n', c', S, hv, hr, hb⟩ := HR.out.grown hg
  injection hv with e1 e2 e3
  subst e1 e2 e3
  obtain ⟨q, rfl⟩ := Int.eq_ofNat_of_zero_le h0
  obtain ⟨rb, o, rfl, hlt, hc⟩ := hr.cell (i := q) (by omega)
  have hS := Lib.hid hs
  have hG := Lib.hid hg
  clear hr hb hs hg HR H
  generalize S.getD q 0 = x at *
  go_wp2
  go_ret
  exact ⟨_, rfl, hS.out, hG.out⟩
/-- One of the numbers of a literal. -/
theorem among_lit (b : Nat) (a : Option Addr) (len cap : Nat) (zs : List Int) (N : Int) (ys : List Int) (n : Nat) (w : World) (h : Src w b a len cap zs N) (hN : N ≤ 1000000) (hn : ys.length = n) (h1 : 1 ≤ n) (h2 : n ≤ 1000) :
    Calls Tryd.prog 51 #[.pointer (some ⟨b, 0, none⟩), .slice (some ⟨w.heap.size, 0, none⟩) n n] (w.alloc (.cells (ints ys) 2)) fun e w' => ∃ r : Int, e = .returned (.int .i64 r) ∧ Src w' b a len cap zs (N + 2) ∧ w.grownBy w' (some b) :=
  (among_any b a len cap zs N _ n n _ (h.alloc _) hN (rowF_lit h.lt ys n hn (by unfold maxLen; omega)) h1 h2).mono fun e w' ⟨r, he, hs, hg⟩ => ⟨r, he, hs, grown_trans (grown_alloc (World.grownBy.refl _ _) _) hg⟩
/-- What a drawn number leaves. -/
def DrewI (w : World) (b : Nat) (a : Option Addr) (len cap : Nat) (zs : List Int) (M : Int) (e : Ending) (w' : World) : Prop := ∃ r : Int, e = .returned (.int .i64 r) ∧ Src w' b a len cap zs M ∧ w.grownBy w' (some b)
theorem src_row {w : World} {b : Nat} {a : Option Addr} {len cap : Nat} {zs : List Int} {N : Int} (h : Src w b a len cap zs N) : 0 < len → ∀ x, a = some x → x.block < w.heap.size := fun h0 x hx => (h.row_ne h0 x hx).2
/-- A source that is begun. -/
theorem from_any (a : Option Addr) (len cap : Nat) (zs : List Int) (w : World) (h : IsRow .u8 w a len cap zs) :
    Calls Tryd.prog 37 #[.slice a len cap] w fun e w' => e = .returned (.pointer (some ⟨w.heap.size, 0, none⟩)) ∧ Src w' w.heap.size a len cap zs 0 ∧ Below w.heap.size w w' ∧ w'.heap.size = w.heap.size + 1 :=
  (l00From_any a len cap w).mono fun e w' ⟨he, hw⟩ => by
    subst hw
    exact ⟨he, src_new h, (Below.refl _ _).alloc (Nat.le_refl _) _, by simp⟩

theorem among_litD (b : Nat) (a : Option Addr) (len cap : Nat) (zs : List Int) (N : Int) (ys : List Int) (n : Nat) (cs : Array Value) (w : World) (h : Src w b a len cap zs N) (hN : N ≤ 1000000) (hn : ys.length = n) (hc : ints ys = cs) (h1 : 1 ≤ n) (h2 : n ≤ 1000) :
    Calls Tryd.prog 51 #[.pointer (some ⟨b, 0, none⟩), .slice (some ⟨w.heap.size, 0, none⟩) n n] (w.alloc (.cells cs 2)).drew fun e w' => ∃ r : Int, e = .returned (.int .i64 r) ∧ Src w' b a len cap zs (N + 2) ∧ w.grownBy w' (some b) :=
  hc ▸ (among_any b a len cap zs N _ n n _ (h.alloc _).drew hN ((rowF_lit h.lt ys n hn (by unfold maxLen; omega)).below (Below.refl _ _).drew) h1 h2).mono fun e w' ⟨r, he, hs, hg⟩ => ⟨r, he, hs, grown_trans (grown_drew (grown_alloc (World.grownBy.refl _ _) _)) hg⟩
theorem keepAD {W : World} {a : Addr} {v : Value} {o : Obj} (h : W.cell? a = some v) : (W.alloc o).drew.cell? a = some v := keepA h
theorem blkW {w : World} {g : Nat} {o : Obj} (h : w.heap[g]? = some o) : w.drew.heap[g]? = some o := h
end Go.Proofs.YtgnalhnbdpigdaaDoor
