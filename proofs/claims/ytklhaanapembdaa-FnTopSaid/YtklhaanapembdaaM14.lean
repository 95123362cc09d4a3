/- The plain law of ProvesFall: four joints of a condition, and what two conditions prove; no function of the program is named. -/
import Derived.Test.YtklhaanapembdaaM10
import Derived.Test.YtklhaanapembdaaM02

namespace Go.Proofs.Ytklhaanapembdaa

/-- Four joints of a condition, from 0 to n. -/
def fourB (z : List Int) (n : Int) : Bool := decide (z.length = 4) && (insB z 0 n && (decide (z.getD 1 0 < z.getD 0 0) && decide (z.getD 2 0 < z.getD 3 0)))
theorem fourB_t {z : List Int} {n : Int} (h : fourB z n = true) : z.length = 4 ∧ insB z 0 n = true ∧ z.getD 1 0 < z.getD 0 0 ∧ z.getD 2 0 < z.getD 3 0 := by
  simpa [fourB, and_assoc] using h
/-- The condition of four joints of a list. -/
def cndZ (ls lo hi z : List Int) : Cnd := cnd ls lo hi (z.getD 0 0).toNat (z.getD 1 0).toNat (z.getD 2 0).toNat (z.getD 3 0).toNat
theorem four_rng {ls lo hi z : List Int} (h : fourB z ((lo.length : Int) - 1) = true) :
    ∃ j k p q : Nat, z = [(j : Int), (k : Int), (p : Int), (q : Int)] ∧ k < j ∧ j < lo.length ∧ p < q ∧ q < lo.length ∧ cndZ ls lo hi z = cnd ls lo hi j k p q := by
  obtain ⟨h1, h2, h3, h4⟩ := fourB_t h
  have b := fun i hi => insB_t h2 i hi
  have b0 := b 0 (by omega)
  have b1 := b 1 (by omega)
  have b2 := b 2 (by omega)
  have b3 := b 3 (by omega)
  match z, h1 with
  | [x0, x1, x2, x3], _ =>
    simp only [List.getD_cons_zero, List.getD_cons_succ] at *
    refine ⟨x0.toNat, x1.toNat, x2.toNat, x3.toNat, ?_, by omega, by omega, by omega, by omega, ?_⟩
    · rw [show ((x0.toNat : Nat) : Int) = x0 by omega, show ((x1.toNat : Nat) : Int) = x1 by omega, show ((x2.toNat : Nat) : Int) = x2 by omega, show ((x3.toNat : Nat) : Int) = x3 by omega]
    · simp [cndZ]
/-- The code of ProvesFall. -/
def pfOk (ls lo hi zl zh : List Int) : Bool := blkB ls lo hi && ((decide (zl.length = 0) || fourB zl ((lo.length : Int) - 1)) && fourB zh ((lo.length : Int) - 1))
def pfC (ls lo hi zl zh : List Int) : Int := if blkB ls lo hi = true then (if pfOk ls lo hi zl zh = true then 0 else 2) else 1
/-- Whether y alone, or x with y, forbid every line. -/
def pfY (zl : List Int) (x y : Cnd) : Bool :=
  if 0 < y.b then false else if y.b = 0 then decide (0 < y.a) else if 0 ≤ y.a then true else if zl.length = 0 then false else decide (0 < x.b) && lessC y.a y.b x.a x.b
def pfV (ls lo hi zl zh : List Int) : Bool := pfOk ls lo hi zl zh && pfY zl (cndZ ls lo hi zl) (cndZ ls lo hi zh)
theorem pf_bad {ls lo hi zl zh : List Int} (h : blkB ls lo hi = false) : pfC ls lo hi zl zh = 1 ∧ pfV ls lo hi zl zh = false := by simp [pfC, pfV, pfOk, h]
theorem pf_low {ls lo hi zl zh : List Int} (h : blkB ls lo hi = true) (h1 : zl.length ≠ 0) (h2 : fourB zl ((lo.length : Int) - 1) = false) : pfC ls lo hi zl zh = 2 ∧ pfV ls lo hi zl zh = false := by simp [pfC, pfV, pfOk, h, h1, h2]
theorem pf_high {ls lo hi zl zh : List Int} (h : blkB ls lo hi = true) (h2 : fourB zh ((lo.length : Int) - 1) = false) : pfC ls lo hi zl zh = 2 ∧ pfV ls lo hi zl zh = false := by simp [pfC, pfV, pfOk, h, h2]
theorem pf_ok {ls lo hi zl zh : List Int} (h : blkB ls lo hi = true) (h1 : zl.length = 0 ∨ fourB zl ((lo.length : Int) - 1) = true) (h2 : fourB zh ((lo.length : Int) - 1) = true) : pfC ls lo hi zl zh = 0 ∧ pfV ls lo hi zl zh = pfY zl (cndZ ls lo hi zl) (cndZ ls lo hi zh) := by
  have : pfOk ls lo hi zl zh = true := by rcases h1 with h1 | h1 <;> simp [pfOk, h, h1, h2]
  simp [pfC, pfV, h, this]
end Go.Proofs.Ytklhaanapembdaa
/- Slices of integers of a call's own, with the stretch of block numbers in which they lie; writes to one stretch leave the others as they were; no function of the program is named but the laws' marking. -/
namespace Go.Proofs.Ytklhaanapembdaa
open Go.RowKit

/-- Blocks outside [b, t) are as before. -/
def Outs (w w' : World) (b t : Nat) : Prop := w'.os = w.os ∧ w'.tape = w.tape ∧ w'.output = w.output ∧ w.heap.size ≤ w'.heap.size ∧ ∀ k, k < w.heap.size → (k < b ∨ t ≤ k) → w'.heap[k]? = w.heap[k]?
theorem Outs.size {w w' : World} {b t : Nat} (h : Outs w w' b t) : w.heap.size ≤ w'.heap.size := h.2.2.2.1
theorem Outs.trans {w w1 w2 : World} {b t : Nat} (h : Outs w w1 b t) (k : Outs w1 w2 b t) : Outs w w2 b t :=
  ⟨k.1.trans h.1, k.2.1.trans h.2.1, k.2.2.1.trans h.2.2.1, Nat.le_trans h.size k.size, fun i hi hd => (k.2.2.2.2 i (Nat.lt_of_lt_of_le hi h.size) hd).trans (h.2.2.2.2 i hi hd)⟩
theorem below_outs {a w w' : World} {b t : Nat} (h : Below a.heap.size a w) (hb : a.heap.size ≤ b) (hO : Outs w w' b t) : Below a.heap.size a w' :=
  ⟨hO.1.trans h.os, hO.2.1.trans h.tape, hO.2.2.1.trans h.output, Nat.le_trans h.size hO.size, fun k hk => (hO.2.2.2.2 k (Nat.lt_of_lt_of_le hk h.size) (.inl (Nat.lt_of_lt_of_le hk hb))).trans (h.block k hk)⟩
theorem blk_outs {w w' : World} {g b t : Nat} {o : Obj} (h : w.heap[g]? = some o) (hO : Outs w w' b t) (hd : g < b ∨ t ≤ g) : w'.heap[g]? = some o := (hO.2.2.2.2 g (blk_lt h) hd).trans h
/-- A slice of the call's own that lies in [b, t). -/
def OwnT (w : World) (b t : Nat) (v : Value) (zs : List Int) : Prop := OwnI w b v zs ∧ ∀ g, v.ownBlock = some g → g < t
theorem OwnI.toT {w : World} {b : Nat} {v : Value} {zs : List Int} (h : OwnI w b v zs) : OwnT w b w.heap.size v zs := ⟨h, fun g e => (h.lt g e).2⟩
theorem OwnT.below {w w' : World} {b t : Nat} {v : Value} {zs : List Int} (h : OwnT w b t v zs) (hb : Below w.heap.size w w') : OwnT w' b t v zs := ⟨h.1.below hb, h.2⟩
theorem OwnT.alloc {w : World} {b t : Nat} {v : Value} {zs : List Int} (h : OwnT w b t v zs) (o : Obj) : OwnT (w.alloc o) b t v zs := ⟨h.1.alloc o, h.2⟩
theorem OwnT.row {w : World} {b t : Nat} {a : Option Addr} {n c : Nat} {zs : List Int} (h : OwnT w b t (.slice a n c) zs) : IsRow .i64 w a n c zs := h.1.row
theorem OwnT.top {w : World} {b t t' : Nat} {v : Value} {zs : List Int} (h : OwnT w b t v zs) (ht : t ≤ t') : OwnT w b t' v zs := ⟨h.1, fun g e => Nat.lt_of_lt_of_le (h.2 g e) ht⟩
theorem OwnT.base {w : World} {b b' t : Nat} {v : Value} {zs : List Int} (h : OwnT w b t v zs) (hb : b' ≤ b) : OwnT w b' t v zs := ⟨h.1.base hb, h.2⟩
theorem OwnT.outs {w w' : World} {b t b' t' : Nat} {v : Value} {zs : List Int} (h : OwnT w b t v zs) (hO : Outs w w' b' t') (hd : t ≤ b' ∨ t' ≤ b) : OwnT w' b t v zs := by
  obtain ⟨⟨h1, h2⟩, h3⟩ := h
  refine ⟨⟨h1, ?_⟩, h3⟩
  rcases h2 with h2 | ⟨g, cap, cur, rfl, hb, hg, hr⟩
  · exact .inl h2
  · have := h3 g rfl
    exact .inr ⟨g, cap, cur, rfl, hb, blk_outs hg hO (by omega), hr⟩
theorem OwnT.marked {w w' : World} {b t : Nat} {v : Value} {zs : List Int} (h : OwnT w b t v zs) (hG : w.grownBy w' v.ownBlock) : Outs w w' b t :=
  ⟨hG.os, hG.tape, hG.output, hG.size, fun k hk hd => hG.block k hk (fun e => by
    have h1 := (h.1.lt k e.symm).1
    have h2 := h.2 k e.symm
    omega)⟩
theorem alloc_outs {w : World} {o : Obj} {b t : Nat} : Outs w (w.alloc o) b t := ⟨rfl, rfl, rfl, by simp, fun k hk _ => Below.heap_alloc w o k hk⟩
theorem set_outs (w : World) (p : Addr) (u : Value) : Outs w (w.setCell p u) p.block (p.block + 1) :=
  ⟨rfl, rfl, rfl, by simp [World.setCell], fun k _ hd => Below.heap_setCell w p u k (by omega)⟩
theorem OwnT.setCell {w : World} {b t : Nat} {v : Value} {zs : List Int} (h : OwnT w b t v zs) {p : Addr} (hp : p.block < b) (u : Value) : OwnT (w.setCell p u) b t v zs := h.outs (set_outs w p u) (.inr (by omega))
/-- What a marking call leaves. -/
theorem markT (b t : Nat) (a : Option Addr) (n c : Nat) (zs : List Int) (k0 : Int) (w : World) (h : OwnT w b t (.slice a n c) zs) (hk0 : 0 ≤ k0) (hk1 : k0 ≤ 1000000000) (hn : n ≤ 1000000000) :
    Calls Try.prog 49 #[.slice a n c, .int .i64 k0] w fun e w' => e = .returned (.int .i64 (k0 + n)) ∧ OwnT w' b t (.slice a n c) (marks k0 n) ∧ Outs w w' b t := by
  refine (markInt64S_any b a n c zs k0 w h.1 hk0 hk1 hn).mono ?_
  rintro e w' ⟨rfl, hO, hG⟩
  exact ⟨rfl, ⟨hO, h.2⟩, h.marked hG⟩
theorem toT (a : Option Addr) (len cap : Nat) (zs : List Int) (w : World) (h : IsRow .i64 w a len cap zs) (hlen : len ≤ 1048576) :
    Calls Try.prog 51 #[.slice a len cap] w fun e w' => ∃ x c, e = .returned (.slice x len c) ∧ OwnT w' w.heap.size w'.heap.size (.slice x len c) zs ∧ Below w.heap.size w w' := by
  refine (toInt64S_own a len cap zs w h hlen).mono ?_
  rintro e w' ⟨rfl, hO, hB⟩
  exact ⟨_, _, rfl, hO.toT, hB⟩
end Go.Proofs.Ytklhaanapembdaa
