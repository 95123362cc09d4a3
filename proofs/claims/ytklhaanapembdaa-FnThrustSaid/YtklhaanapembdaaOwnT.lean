/- Slices of integers of a call's own, with the stretch of block numbers in which they lie; writes to one stretch leave the others as they were; no function of the program is named but the laws' marking. -/
import Derived.Test.YtklhaanapembdaaSlice
namespace Go.Proofs.Ytklhaanapembdaa
open Go.RowKit

/-- Blocks outside [b, t) are as before. -/
def Outs (w w' : World) (b t : Nat) : Prop := w'.os = w.os ∧ w'.tape = w.tape ∧ w'.output = w.output ∧ w.heap.size ≤ w'.heap.size ∧ ∀ k, k < w.heap.size → (k < b ∨ t ≤ k) → w'.heap[k]? = w.heap[k]?
theorem Outs.size {w w' : World} {b t : Nat} (h : Outs w w' b t) : w.heap.size ≤ w'.heap.size := h.2.2.2.1
theorem Outs.trans {w w1 w2 : World} {b t : Nat} (h : Outs w w1 b t) (k : Outs w1 w2 b t) : Outs w w2 b t :=
  ⟨k.1.trans h.1, k.2.1.trans h.2.1, k.2.2.1.trans h.2.2.1, Nat.le_trans h.size k.size, fun i hi hd => (k.2.2.2.2 i (Nat.lt_of_lt_of_le hi h.size) hd).trans (h.2.2.2.2 i hi hd)⟩
theorem below_outs {a w w' : World} {b t : Nat} (h : Below a.heap.size a w) (hb : a.heap.size ≤ b) (hO : Outs w w' b t) : Below a.heap.size a w' :=
  ⟨hO.1.trans h.os, hO.2.1.trans h.tape, hO.2.2.1.trans h.output, Nat.le_trans h.size hO.size, fun k hk => (hO.2.2.2.2 k (Nat.lt_of_lt_of_le hk h.size) (.inl (Nat.lt_of_lt_of_le hk hb))).trans (h.block k hk)⟩
theorem blk_outs {w w' : World} {g b t : Nat} {o : Obj} (h : w.heap[g]? = some o) (hO : Outs w w' b t) (hd : g < b ∨ t ≤ g) : w'.heap[g]? = some o := (hO.2.2.2.2 g (blk_lt h) hd).trans h
/-- A slice of the call's own that lies in [b, t). -/
def OwnT (w : World) (b t : Nat) (v : Value) (zs : List Int) : Prop := OwnI w b v zs ∧ ∀ g, v.ownBlock = some g → g < t
theorem OwnI.toT {w : World} {b : Nat} {v : Value} {zs : List Int} (h : OwnI w b v zs) : OwnT w b w.heap.size v zs := ⟨h, fun g e => (h.lt g e).2⟩
theorem OwnT.below {w w' : World} {b t : Nat} {v : Value} {zs : List Int} (h : OwnT w b t v zs) (hb : Below w.heap.size w w') : OwnT w' b t v zs := ⟨h.1.below hb, h.2⟩
theorem OwnT.alloc {w : World} {b t : Nat} {v : Value} {zs : List Int} (h : OwnT w b t v zs) (o : Obj) : OwnT (w.alloc o) b t v zs := ⟨h.1.alloc o, h.2⟩
theorem OwnT.row {w : World} {b t : Nat} {a : Option Addr} {n c : Nat} {zs : List Int} (h : OwnT w b t (.slice a n c) zs) : IsRow .i64 w a n c zs := h.1.row
theorem OwnT.top {w : World} {b t t' : Nat} {v : Value} {zs : List Int} (h : OwnT w b t v zs) (ht : t ≤ t') : OwnT w b t' v zs := ⟨h.1, fun g e => Nat.lt_of_lt_of_le (h.2 g e) ht⟩
theorem OwnT.base {w : World} {b b' t : Nat} {v : Value} {zs : List Int} (h : OwnT w b t v zs) (hb : b' ≤ b) : OwnT w b' t v zs := ⟨h.1.base hb, h.2⟩
theorem OwnT.outs {w w' : World} {b t b' t' : Nat} {v : Value} {zs : List Int} (h : OwnT w b t v zs) (hO : Outs w w' b' t') (hd : t ≤ b' ∨ t' ≤ b) : OwnT w' b t v zs := by
  obtain ⟨⟨h1, h2⟩, h3⟩ := h
  refine ⟨⟨h1, ?_⟩, h3⟩
  rcases h2 with h2 | ⟨g, cap, cur, rfl, hb, hg, hr⟩
  · exact .inl h2
  · have := h3 g rfl
    exact .inr ⟨g, cap, cur, rfl, hb, blk_outs hg hO (by omega), hr⟩
theorem OwnT.marked {w w' : World} {b t : Nat} {v : Value} {zs : List Int} (h : OwnT w b t v zs) (hG : w.grownBy w' v.ownBlock) : Outs w w' b t :=
  ⟨hG.os, hG.tape, hG.output, hG.size, fun k hk hd => hG.block k hk (fun e => by
    have h1 := (h.1.lt k e.symm).1
    have h2 := h.2 k e.symm
    omega)⟩
theorem alloc_outs {w : World} {o : Obj} {b t : Nat} : Outs w (w.alloc o) b t := ⟨rfl, rfl, rfl, by simp, fun k hk _ => Below.heap_alloc w o k hk⟩
theorem set_outs (w : World) (p : Addr) (u : Value) : Outs w (w.setCell p u) p.block (p.block + 1) :=
  ⟨rfl, rfl, rfl, by simp [World.setCell], fun k _ hd => Below.heap_setCell w p u k (by omega)⟩
theorem OwnT.setCell {w : World} {b t : Nat} {v : Value} {zs : List Int} (h : OwnT w b t v zs) {p : Addr} (hp : p.block < b) (u : Value) : OwnT (w.setCell p u) b t v zs := h.outs (set_outs w p u) (.inr (by omega))
/-- What a marking call leaves. -/
theorem markT (b t : Nat) (a : Option Addr) (n c : Nat) (zs : List Int) (k0 : Int) (w : World) (h : OwnT w b t (.slice a n c) zs) (hk0 : 0 ≤ k0) (hk1 : k0 ≤ 1000000000) (hn : n ≤ 1000000000) :
    Calls Try.prog 49 #[.slice a n c, .int .i64 k0] w fun e w' => e = .returned (.int .i64 (k0 + n)) ∧ OwnT w' b t (.slice a n c) (marks k0 n) ∧ Outs w w' b t := by
  refine (markInt64S_any b a n c zs k0 w h.1 hk0 hk1 hn).mono ?_
  rintro e w' ⟨rfl, hO, hG⟩
  exact ⟨rfl, ⟨hO, h.2⟩, h.marked hG⟩
theorem toT (a : Option Addr) (len cap : Nat) (zs : List Int) (w : World) (h : IsRow .i64 w a len cap zs) (hlen : len ≤ 1048576) :
    Calls Try.prog 51 #[.slice a len cap] w fun e w' => ∃ x c, e = .returned (.slice x len c) ∧ OwnT w' w.heap.size w'.heap.size (.slice x len c) zs ∧ Below w.heap.size w w' := by
  refine (toInt64S_own a len cap zs w h hlen).mono ?_
  rintro e w' ⟨rfl, hO, hB⟩
  exact ⟨_, _, rfl, hO.toT, hB⟩
end Go.Proofs.Ytklhaanapembdaa
