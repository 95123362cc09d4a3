/- Contract of the program's MirrorBlocks: new blocks in the opposite order; no old memory turns; condition: the slices can be read. -/
import Derived.Test.YtklhaanapembdaaMirS
import Derived.Test.YtklhaanapembdaaClone
import Derived.Test.YtklhaanapembdaaRev
import Derived.Test.YtklhaanapembdaaCond
namespace Go.Proofs.Ytklhaanapembdaa
open Go.RowKit

/-- A slice of the call's own, and a block that is not its array. -/
def OwnF (W : World) (b g : Nat) (v : Value) (zs : List Int) : Prop := OwnI W b v zs ∧ v.ownBlock ≠ some g
/-- The struct at block g, its three slices, and the result's block. -/
structure Mir (W : World) (b g : Nat) (v0 v1 v2 : Value) (z0 z1 z2 : List Int) : Prop where
  blk : W.heap[g]? = some (.cells #[v0, v1, v2] 26 (0, 0))
  o0 : OwnF W b g v0 z0
  o1 : OwnF W b g v1 z1
  o2 : OwnF W b g v2 z2
  a01 : Apart v0 v1
  a02 : Apart v0 v2
  a12 : Apart v1 v2
theorem Mir.call {W W' : World} {b g : Nat} {v0 v1 v2 : Value} {z0 z1 z2 : List Int} (h : Mir W b g v0 v1 v2 z0 z1 z2) (hb : Below W.heap.size W W') : Mir W' b g v0 v1 v2 z0 z1 z2 :=
  ⟨blk_call h.blk hb, ⟨h.o0.1.below hb, h.o0.2⟩, ⟨h.o1.1.below hb, h.o1.2⟩, ⟨h.o2.1.below hb, h.o2.2⟩, h.a01, h.a02, h.a12⟩
theorem Mir.cells {W : World} {b g : Nat} {v0 v1 v2 : Value} {z0 z1 z2 : List Int} (h : Mir W b g v0 v1 v2 z0 z1 z2) : W.cell? ⟨g, 0, none⟩ = some v0 ∧ W.cell? ⟨g, 1, none⟩ = some v1 ∧ W.cell? ⟨g, 2, none⟩ = some v2 := by
  refine ⟨?_, ?_, ?_⟩ <;> (rw [cellOf h.blk]; rfl)
theorem grown_blk {W W' : World} {g : Nat} {o : Obj} {v : Value} (h : W.heap[g]? = some o) (hg : W.grownBy W' v.ownBlock) (hne : v.ownBlock ≠ some g) : W'.heap[g]? = some o := (hg.block g (blk_lt h) (fun e => hne e.symm)).trans h
theorem Mir.rev0 {W W' : World} {b g : Nat} {v0 v1 v2 : Value} {z0 z1 z2 y : List Int} (h : Mir W b g v0 v1 v2 z0 z1 z2) (ho : OwnI W' b v0 y) (hg : W.grownBy W' v0.ownBlock) : Mir W' b g v0 v1 v2 y z1 z2 :=
  ⟨grown_blk h.blk hg h.o0.2, ⟨ho, h.o0.2⟩, ⟨h.o1.1.keptM hg (Apart.ne h.a01.symm), h.o1.2⟩, ⟨h.o2.1.keptM hg (Apart.ne h.a02.symm), h.o2.2⟩, h.a01, h.a02, h.a12⟩
theorem Mir.rev1 {W W' : World} {b g : Nat} {v0 v1 v2 : Value} {z0 z1 z2 y : List Int} (h : Mir W b g v0 v1 v2 z0 z1 z2) (ho : OwnI W' b v1 y) (hg : W.grownBy W' v1.ownBlock) : Mir W' b g v0 v1 v2 z0 y z2 :=
  ⟨grown_blk h.blk hg h.o1.2, ⟨h.o0.1.keptM hg (Apart.ne h.a01), h.o0.2⟩, ⟨ho, h.o1.2⟩, ⟨h.o2.1.keptM hg (Apart.ne h.a12.symm), h.o2.2⟩, h.a01, h.a02, h.a12⟩
theorem Mir.rev2 {W W' : World} {b g : Nat} {v0 v1 v2 : Value} {z0 z1 z2 y : List Int} (h : Mir W b g v0 v1 v2 z0 z1 z2) (ho : OwnI W' b v2 y) (hg : W.grownBy W' v2.ownBlock) : Mir W' b g v0 v1 v2 z0 z1 y :=
  ⟨grown_blk h.blk hg h.o2.2, ⟨h.o0.1.keptM hg (Apart.ne h.a02), h.o0.2⟩, ⟨h.o1.1.keptM hg (Apart.ne h.a12), h.o1.2⟩, ⟨ho, h.o2.2⟩, h.a01, h.a02, h.a12⟩
theorem OwnI.setNe {w : World} {base g : Nat} {v : Value} {zs : List Int} (h : OwnI w base v zs) (hg : v.ownBlock ≠ some g) (i : Nat) (u : Value) : OwnI (w.setCell ⟨g, i, none⟩ u) base v zs := h.grown (grown_set w g i u) hg
theorem Mir.setFar {W : World} {b g k : Nat} {v0 v1 v2 : Value} {z0 z1 z2 : List Int} (h : Mir W b g v0 v1 v2 z0 z1 z2) (hk : k < b) (hkg : k ≠ g) (i : Nat) (u : Value) : Mir (W.setCell ⟨k, i, none⟩ u) b g v0 v1 v2 z0 z1 z2 :=
  ⟨blk_far h.blk (p := ⟨k, i, none⟩) (show g ≠ k from fun e => hkg e.symm) u, ⟨h.o0.1.setFar hk i u, h.o0.2⟩, ⟨h.o1.1.setFar hk i u, h.o1.2⟩, ⟨h.o2.1.setFar hk i u, h.o2.2⟩, h.a01, h.a02, h.a12⟩
theorem mir_store {W : World} {b g : Nat} {u0 u1 u2 v0 v1 v2 : Value} {z0 z1 z2 : List Int} (hg : W.heap[g]? = some (.cells #[u0, u1, u2] 26 (0, 0))) (h0 : OwnF W b g v0 z0) (h1 : OwnF W b g v1 z1) (h2 : OwnF W b g v2 z2) (a01 : Apart v0 v1) (a02 : Apart v0 v2) (a12 : Apart v1 v2) :
    Mir (((W.setCell ⟨g, 0, none⟩ v0).setCell ⟨g, 1, none⟩ v1).setCell ⟨g, 2, none⟩ v2) b g v0 v1 v2 z0 z1 z2 :=
  ⟨blk_set (blk_set (blk_set hg 0 _) 1 _) 2 _, ⟨((h0.1.setNe h0.2 0 _).setNe h0.2 1 _).setNe h0.2 2 _, h0.2⟩, ⟨((h1.1.setNe h1.2 0 _).setNe h1.2 1 _).setNe h1.2 2 _, h1.2⟩, ⟨((h2.1.setNe h2.2 0 _).setNe h2.2 1 _).setNe h2.2 2 _, h2.2⟩, a01, a02, a12⟩
theorem mir_alloc {W : World} {b : Nat} {v0 v1 v2 : Value} {z0 z1 z2 : List Int} (h0 : OwnI W b v0 z0) (h1 : OwnI W b v1 z1) (h2 : OwnI W b v2 z2) (a01 : Apart v0 v1) (a02 : Apart v0 v2) (a12 : Apart v1 v2) :
    Mir (W.alloc (.cells #[v0, v1, v2] 26)) b W.heap.size v0 v1 v2 z0 z1 z2 :=
  ⟨blk_new _ _, ⟨h0.alloc _, fun e => by have := (h0.lt _ e).2; omega⟩, ⟨h1.alloc _, fun e => by have := (h1.lt _ e).2; omega⟩, ⟨h2.alloc _, fun e => by have := (h2.lt _ e).2; omega⟩, a01, a02, a12⟩
theorem ownF_far {W : World} {b g : Nat} {v : Value} {zs : List Int} (h : OwnI W b v zs) (hg : g < b ∨ W.heap.size ≤ g) : OwnF W b g v zs := ⟨h, fun e => by have := h.lt _ e; omega⟩
theorem OwnF.below {W W' : World} {b g : Nat} {v : Value} {zs : List Int} (h : OwnF W b g v zs) (hb : Below W.heap.size W W') : OwnF W' b g v zs := ⟨h.1.below hb, h.2⟩
theorem OwnF.low {W : World} {b b' g : Nat} {v : Value} {zs : List Int} (h : OwnF W b g v zs) (hb : b' ≤ b) : OwnF W b' g v zs := ⟨h.1.base hb, h.2⟩
theorem three_far {W : World} {g k : Nat} {o : Obj} {v0 v1 v2 : Value} (h : W.heap[k]? = some o) (hne : k ≠ g) : (((W.setCell ⟨g, 0, none⟩ v0).setCell ⟨g, 1, none⟩ v1).setCell ⟨g, 2, none⟩ v2).heap[k]? = some o :=
  blk_far (blk_far (blk_far h (p := ⟨g, 0, none⟩) hne v0) (p := ⟨g, 1, none⟩) hne v1) (p := ⟨g, 2, none⟩) hne v2
theorem three_belo {a W : World} {B g : Nat} {v0 v1 v2 : Value} (h : Below B a W) (hne : B ≤ g) : Below B a (((W.setCell ⟨g, 0, none⟩ v0).setCell ⟨g, 1, none⟩ v1).setCell ⟨g, 2, none⟩ v2) :=
  ((h.setCell (p := ⟨g, 0, none⟩) hne v0).setCell (p := ⟨g, 1, none⟩) hne v1).setCell (p := ⟨g, 2, none⟩) hne v2
set_option maxRecDepth 100000 in
set_option maxHeartbeats 8000000 in
theorem mirrorBlocks_any (a0 a1 a2 : Option Addr) (n0 c0 n1 c1 n2 c2 : Nat) (ls lo hi : List Int) (w : World) (h : IsB a0 a1 a2 n0 c0 n1 c1 n2 c2 ls lo hi w) :
    Calls Try.prog 53 #[.agg #[.slice a0 n0 c0, .slice a1 n1 c1, .slice a2 n2 c2]] w (NewM w (mbA ls lo hi) (mbB ls lo hi) (mbC ls lo hi) (momC ls lo hi)) := by
  have H := Lib.hid h
  cases g : blkB ls lo hi
  · have e1 : mbA ls lo hi = [] := by simp [mbA, mbO, g]
    have e2 : mbB ls lo hi = [] := by simp [mbB, mbO, g]
    have e3 : mbC ls lo hi = [] := by simp [mbC, mbO, g]
    have e4 : momC ls lo hi = 1 := by simp [momC, g]
    rw [e1, e2, e3, e4]
    have G := Lib.hid g
    clear h g e1 e2 e3 e4
    go_enter Try.func53, Try.ntmps53
    go_wp2_with fail
    refine (validBlocks_any _ _ _ _ _ _ _ _ _ _ _ _ _ (H.out.below (by repeat (first | exact Below.refl _ _ | assumption | refine Below.drew ?_ | refine below_drewN ?_ _ | refine Below.alloc ?_ (by first | omega | (simp; done) | (simp; omega)) _ | refine Below.setCell ?_ (by first | omega | (simp; done) | (simp; omega)) _)))).mono ?_
    rintro e w1 ⟨rfl, hb1⟩
    have hz1 := hb1.size
    simp at hz1
    have ha1 : Below w.heap.size w w1 := below_call (by repeat (first | exact Below.refl _ _ | assumption | refine Below.drew ?_ | refine below_drewN ?_ _ | refine Below.alloc ?_ (by first | omega | (simp; done) | (simp; omega)) _ | refine Below.setCell ?_ (by first | omega | (simp; done) | (simp; omega)) _)) hb1
    have hR1 : w1.heap[w.heap.size + 1]? = some (.cells #[.slice none 0 0, .slice none 0 0, .slice none 0 0] 26 (0, 0)) := blk_call (blk_new' _ _ (by simp)) hb1
    have r0 := cellOf hR1 0
    have r1 := cellOf hR1 1
    have r2 := cellOf hR1 2
    have rf := frozenOf hR1
    simp at r0 r1 r2
    clear hR1 hb1
    rw [G.out]
    go_wp2
    (try simp only [Exit.inBlock, Exit.then])
    refine bodyPost_ret (v := .tuple #[.agg #[.slice none 0 0, .slice none 0 0, .slice none 0 0], .int .i64 1]) (by simp [results, Try.results53, go_sem, *]) rfl ?_
    exact ⟨none, none, none, 0, 0, 0, rfl, ⟨ownT_nil _ _ _, ownT_nil _ _ _, ownT_nil _ _ _, apart_nil _ _, apart_nil _ _, apart_nil _ _⟩, (by repeat (first | exact Below.refl _ _ | assumption | refine Below.drew ?_ | refine below_drewN ?_ _ | refine Below.alloc ?_ (by first | omega | (simp; done) | (simp; omega)) _ | refine Below.setCell ?_ (by first | omega | (simp; done) | (simp; omega)) _))⟩
  · have e1 : mbA ls lo hi = ls.reverse := by simp [mbA, mbO, g]
    have e2 : mbB ls lo hi = lo.reverse := by simp [mbB, mbO, g]
    have e3 : mbC ls lo hi = hi.reverse := by simp [mbC, mbO, g]
    have e4 : momC ls lo hi = 0 := by simp [momC, g]
    rw [e1, e2, e3, e4]
    obtain ⟨v1, v2, v3, v4, v5, _⟩ := blkB_t g
    have HVB := Lib.hid (fun W hW => validBlocks_any a0 a1 a2 n0 c0 n1 c1 n2 c2 ls lo hi W hW)
    rw [g] at HVB
    obtain rfl := h.1.1
    obtain rfl := h.2.1.1
    obtain rfl := h.2.2.1
    obtain ⟨p0, o0, rfl, t0, _⟩ := IsRow.cell (i := 0) h.1 (by omega)
    obtain ⟨p1, o1, rfl, t1, _⟩ := IsRow.cell (i := 0) h.2.1 (by omega)
    obtain ⟨p2, o2, rfl, t2, _⟩ := IsRow.cell (i := 0) h.2.2 (by omega)
    have HI0 := Lib.hid h.1
    have HI1 := Lib.hid h.2.1
    have HI2 := Lib.hid h.2.2
    have y0 : ls.length ≤ 11 := by omega
    have y1 : lo.length ≤ 11 := by omega
    have y2 : hi.length ≤ 11 := by omega
    clear h g e1 e2 e3 e4 v1 v2 v3 v4 v5
    go_enter Try.func53, Try.ntmps53
    go_wp2_with fail
    refine (HVB.out _ (H.out.below (by repeat (first | exact Below.refl _ _ | assumption | refine Below.drew ?_ | refine below_drewN ?_ _ | refine Below.alloc ?_ (by first | omega | (simp; done) | (simp; omega)) _ | refine Below.setCell ?_ (by first | omega | (simp; done) | (simp; omega)) _)))).mono ?_
    rintro e w1 ⟨rfl, hb1⟩
    have hz1 := hb1.size
    simp at hz1
    have ha1 : Below w.heap.size w w1 := below_call (by repeat (first | exact Below.refl _ _ | assumption | refine Below.drew ?_ | refine below_drewN ?_ _ | refine Below.alloc ?_ (by first | omega | (simp; done) | (simp; omega)) _ | refine Below.setCell ?_ (by first | omega | (simp; done) | (simp; omega)) _)) hb1
    have HF1 : Hid (w1.heap[w.heap.size]? = some (.cells #[.slice (some ⟨p0, o0, none⟩) ls.length c0, .slice (some ⟨p1, o1, none⟩) lo.length c1, .slice (some ⟨p2, o2, none⟩) hi.length c2] 26 (0, 0))) := Lib.hid (blk_call (blk_alloc (blk_new w _)) hb1)
    have HR1 : Hid (w1.heap[w.heap.size + 1]? = some (.cells #[.slice none 0 0, .slice none 0 0, .slice none 0 0] 26 (0, 0))) := Lib.hid (blk_call (blk_new' _ _ (by simp)) hb1)
    have f0 := cellOf HF1.out 0
    have f1 := cellOf HF1.out 1
    have f2 := cellOf HF1.out 2
    simp at f0 f1 f2
    clear hb1
    go_wp2_with fail
    go_cut [4] (fun s4 wx => ∃ (g4 : Nat) (x0 x1 x2 : Option Addr) (k0 k1 k2 : Nat), s4 = .pointer (some ⟨g4, 0, none⟩) ∧ Mir wx (w.heap.size + 2) g4 (.slice x0 ls.length k0) (.slice x1 lo.length k1) (.slice x2 hi.length k2) ls lo hi ∧ wx.heap[w.heap.size + 1]? = some (.cells #[.slice none 0 0, .slice none 0 0, .slice none 0 0] 26 (0, 0)) ∧ Below w.heap.size w wx ∧ w.heap.size + 1 < g4)
    case first =>
      have q9 : w1.drew.cell? ⟨w.heap.size, 0, none⟩ = some (Value.slice (some ⟨p0, o0, none⟩) ls.length c0) ∧ w1.drew.cell? ⟨w.heap.size, 1, none⟩ = some (Value.slice (some ⟨p1, o1, none⟩) lo.length c1) ∧ w1.drew.cell? ⟨w.heap.size, 2, none⟩ = some (Value.slice (some ⟨p2, o2, none⟩) hi.length c2) := ⟨f0, f1, f2⟩
      go_region_held3 (fun w' => w'.cell? ⟨w.heap.size, 0, none⟩ = some (Value.slice (some ⟨p0, o0, none⟩) ls.length c0) ∧ w'.cell? ⟨w.heap.size, 1, none⟩ = some (Value.slice (some ⟨p1, o1, none⟩) lo.length c1) ∧ w'.cell? ⟨w.heap.size, 2, none⟩ = some (Value.slice (some ⟨p2, o2, none⟩) hi.length c2)) (first | (with_reducible assumption) | (with_reducible exact q9) | (refine ⟨?_, ?_, ?_⟩ <;> (repeat (first | (with_reducible assumption) | (with_reducible refine keepD ?_) | (with_reducible refine keepA ?_) | (with_reducible refine keep1S ?_ (by first | (simp; done) | (simp; omega))))) <;> first | (with_reducible assumption) | (with_reducible exact hS.1) | (with_reducible exact hS.2.1) | (with_reducible exact hS.2.2)))
        (first | (go_at_call 70; (with_reducible refine (clone_any p0 o0 ls.length c0 ls _ (HI0.out.below (by repeat (first | exact Below.refl _ _ | assumption | refine Below.drew ?_ | refine below_drewN ?_ _ | refine Below.alloc ?_ (by first | omega | (simp; done) | (simp; omega)) _ | refine Below.setCell ?_ (by first | omega | (simp; done) | (simp; omega)) _))) (by omega)).mono ?_); rintro e u0 ⟨x0, k0, rfl, hO0, hb0⟩; have hS := keep3 hb0 (by first | (with_reducible assumption) | exact ⟨keepD f0, keepD f1, keepD f2⟩ | exact ⟨keepD (keepA f0), keepD (keepA f1), keepD (keepA f2)⟩); have hB0 : Below w.heap.size w u0 := below_callB (by repeat (first | exact Below.refl _ _ | assumption | refine Below.drew ?_ | refine below_drewN ?_ _ | refine Below.alloc ?_ (by first | omega | (simp; done) | (simp; omega)) _ | refine Below.setCell ?_ (by first | omega | (simp; done) | (simp; omega)) _)) (by first | omega | (simp; done) | (simp; omega)) hb0; have HO0 := Lib.hid hO0; clear hO0; have hz0 := hb0.size; (try simp at hz0); (try (have hN0 : u0.heap[w1.heap.size]? = some (.cells #[.slice none 0 0, .slice none 0 0, .slice none 0 0] 26 (0, 0)) := blk_call (blkD' (blk_new w1 _)) hb0))) | (go_at_call 70; (with_reducible refine (clone_any p1 o1 lo.length c1 lo _ (HI1.out.below (by repeat (first | exact Below.refl _ _ | assumption | refine Below.drew ?_ | refine below_drewN ?_ _ | refine Below.alloc ?_ (by first | omega | (simp; done) | (simp; omega)) _ | refine Below.setCell ?_ (by first | omega | (simp; done) | (simp; omega)) _))) (by omega)).mono ?_); rintro e u1 ⟨x1, k1, rfl, hO1, hb1⟩; have hS := keep3 hb1 (by first | (with_reducible assumption) | exact ⟨keepA hS.1, keepA hS.2.1, keepA hS.2.2⟩); have hB1 : Below w.heap.size w u1 := below_callB (by repeat (first | exact Below.refl _ _ | assumption | refine Below.drew ?_ | refine below_drewN ?_ _ | refine Below.alloc ?_ (by first | omega | (simp; done) | (simp; omega)) _ | refine Below.setCell ?_ (by first | omega | (simp; done) | (simp; omega)) _)) (by first | omega | (simp; done) | (simp; omega)) hb1; have HO1 := Lib.hid hO1; clear hO1; have hz1' := hb1.size; (try simp at hz1'); (try (have hN1 := blk_call hN0 hb1)); (try (have hN1 : u1.heap[u0.heap.size]? = some (.cells #[.slice none 0 0, .slice none 0 0, .slice none 0 0] 26 (0, 0)) := blk_call (blk_new u0 _) hb1))) | (go_at_call 70; (with_reducible refine (clone_any p2 o2 hi.length c2 hi _ (HI2.out.below (by repeat (first | exact Below.refl _ _ | assumption | refine Below.drew ?_ | refine below_drewN ?_ _ | refine Below.alloc ?_ (by first | omega | (simp; done) | (simp; omega)) _ | refine Below.setCell ?_ (by first | omega | (simp; done) | (simp; omega)) _))) (by omega)).mono ?_); rintro e u2 ⟨x2, k2, rfl, hO2, hb2⟩; have hS := keep3 hb2 (by first | (with_reducible assumption) | exact ⟨keepA hS.1, keepA hS.2.1, keepA hS.2.2⟩); have hB2 : Below w.heap.size w u2 := below_callB (by repeat (first | exact Below.refl _ _ | assumption | refine Below.drew ?_ | refine below_drewN ?_ _ | refine Below.alloc ?_ (by first | omega | (simp; done) | (simp; omega)) _ | refine Below.setCell ?_ (by first | omega | (simp; done) | (simp; omega)) _)) (by first | omega | (simp; done) | (simp; omega)) hb2; have HO2 := Lib.hid hO2; clear hO2; have hz2' := hb2.size; (try simp at hz2'); (try (have hN2 := blk_call hN1 hb2; have nq0 := cellOf hN2 0; have nq1 := cellOf hN2 1; have nq2 := cellOf hN2 2; have nqf := frozenOf hN2; simp at nq0 nq1 nq2)); (try (have hN2 : u2.heap[u1.heap.size]? = some (.cells #[.slice none 0 0, .slice none 0 0, .slice none 0 0] 26 (0, 0)) := blk_call (blk_new u1 _) hb2; have nq0 := cellOf hN2 0; have nq1 := cellOf hN2 1; have nq2 := cellOf hN2 2; have nqf := frozenOf hN2; simp at nq0 nq1 nq2))))
      all_goals
        have O0a := (by first | exact HO0.out.below hb1 | exact (HO0.out.alloc _).below hb1 : OwnI u1 _ _ _)
        have O0b := (by first | exact O0a.below hb2 | exact (O0a.alloc _).below hb2 : OwnI u2 _ _ _)
        have O1b := (by first | exact HO1.out.below hb2 | exact (HO1.out.alloc _).below hb2 : OwnI u2 _ _ _)
        have RA := (by first | exact blk_call (blkD' HR1.out) hb0 | exact blk_call (blkD' (blk_alloc HR1.out)) hb0 : u0.heap[w.heap.size + 1]? = some (.cells #[.slice none 0 0, .slice none 0 0, .slice none 0 0] 26 (0, 0)))
        have RB := (by first | exact blk_call RA hb1 | exact blk_call (blk_alloc RA) hb1 : u1.heap[w.heap.size + 1]? = some (.cells #[.slice none 0 0, .slice none 0 0, .slice none 0 0] 26 (0, 0)))
        have RC := (by first | exact blk_call RB hb2 | exact blk_call (blk_alloc RB) hb2 : u2.heap[w.heap.size + 1]? = some (.cells #[.slice none 0 0, .slice none 0 0, .slice none 0 0] 26 (0, 0)))
        have A01 := apart_new HO0.out HO1.out (by first | omega | (simp; done) | (simp; omega))
        have A02 := apart_new HO0.out HO2.out (by first | omega | (simp; done) | (simp; omega))
        have A12 := apart_new HO1.out HO2.out (by first | omega | (simp; done) | (simp; omega))
        go_wp2_with fail
        go_meet
        first
        | exact ⟨_, _, _, _, _, _, _, rfl, mir_alloc (O0b.base (by first | omega | (simp; done) | (simp; omega))) (O1b.base (by first | omega | (simp; done) | (simp; omega))) (HO2.out.base (by first | omega | (simp; done) | (simp; omega))) A01 A02 A12, blk_alloc RC, hB2.alloc hB2.size _, (by first | omega | (simp; done) | (simp; omega))⟩
        | exact ⟨_, _, _, _, _, _, _, rfl, mir_store hN2 ⟨O0b.base (by first | omega | (simp; done) | (simp; omega)), fun e => by have := HO0.out.lt _ e; first | omega | (simp at this; omega)⟩ ⟨O1b.base (by first | omega | (simp; done) | (simp; omega)), fun e => by have := HO1.out.lt _ e; first | omega | (simp at this; omega)⟩ ⟨HO2.out.base (by first | omega | (simp; done) | (simp; omega)), fun e => by have := HO2.out.lt _ e; first | omega | (simp at this; omega)⟩ A01 A02 A12, three_far RC (by first | omega | (simp; done) | (simp; omega)), three_belo hB2 (by first | omega | (simp; done) | (simp; omega)), (by first | omega | (simp; done) | (simp; omega))⟩
    case rest =>
      obtain ⟨g4, x0, x1, x2, k0, k1, k2, rfl, hM, hR, hB, hlt4⟩ := hcut
      have HM := Lib.hid hM
      have HR := Lib.hid hR
      have HB := Lib.hid hB
      obtain ⟨s0, s1, s2⟩ := hM.cells
      clear hM hR hB HF1 HR1 f0 f1 f2
      go_wp2_with fail
      refine (reverse_any _ _ _ _ _ _ HM.out.o0.1 (by omega)).mono ?_
      rintro e w5 ⟨rfl, hO5, hG5⟩
      have HM5 := Lib.hid (HM.out.rev0 hO5 hG5)
      have HR5 := Lib.hid (grown_blk HR.out hG5 (fun e => by have := (HM.out.o0.1.lt _ e).1; omega))
      have HB5 := Lib.hid (below_mark HB.out (by omega) HM.out.o0.1 hG5)
      clear s0 s1 s2 hO5 hG5
      obtain ⟨s0, s1, s2⟩ := HM5.out.cells
      go_wp2_with fail
      refine (reverse_any _ _ _ _ _ _ HM5.out.o1.1 (by omega)).mono ?_
      rintro e w6 ⟨rfl, hO6, hG6⟩
      have HM6 := Lib.hid (HM5.out.rev1 hO6 hG6)
      have HR6 := Lib.hid (grown_blk HR5.out hG6 (fun e => by have := (HM5.out.o1.1.lt _ e).1; omega))
      have HB6 := Lib.hid (below_mark HB5.out (by omega) HM5.out.o1.1 hG6)
      clear s0 s1 s2 hO6 hG6
      obtain ⟨s0, s1, s2⟩ := HM6.out.cells
      go_wp2_with fail
      refine (reverse_any _ _ _ _ _ _ HM6.out.o2.1 (by omega)).mono ?_
      rintro e w7 ⟨rfl, hO7, hG7⟩
      have HM7 := Lib.hid (HM6.out.rev2 hO7 hG7)
      have HR7 := Lib.hid (grown_blk HR6.out hG7 (fun e => by have := (HM6.out.o2.1.lt _ e).1; omega))
      have HB7 := Lib.hid (below_mark HB6.out (by omega) HM6.out.o2.1 hG7)
      clear s0 s1 s2 hO7 hG7
      obtain ⟨s0, s1, s2⟩ := HM7.out.cells
      have r0 := cellOf HR7.out 0
      have r1 := cellOf HR7.out 1
      have r2 := cellOf HR7.out 2
      have rf := frozenOf HR7.out
      simp at r0 r1 r2
      have hMf := ((HM7.out.setFar (k := w.heap.size + 1) (by omega) (by omega) 0 (.slice x0 ls.length k0)).setFar (k := w.heap.size + 1) (by omega) (by omega) 1 (.slice x1 lo.length k1)).setFar (k := w.heap.size + 1) (by omega) (by omega) 2 (.slice x2 hi.length k2)
      have hBelow := ((HB7.out.setCell (p := ⟨w.heap.size + 1, 0, none⟩) (Nat.le_succ _) (.slice x0 ls.length k0)).setCell (p := ⟨w.heap.size + 1, 1, none⟩) (Nat.le_succ _) (.slice x1 lo.length k1)).setCell (p := ⟨w.heap.size + 1, 2, none⟩) (Nat.le_succ _) (.slice x2 hi.length k2)
      have HFin : Hid (NewM w ls.reverse lo.reverse hi.reverse 0 (.returned (.tuple #[.agg #[.slice x0 ls.length k0, .slice x1 lo.length k1, .slice x2 hi.length k2], .int .i64 0])) (((w7.setCell ⟨w.heap.size + 1, 0, none⟩ (.slice x0 ls.length k0)).setCell ⟨w.heap.size + 1, 1, none⟩ (.slice x1 lo.length k1)).setCell ⟨w.heap.size + 1, 2, none⟩ (.slice x2 hi.length k2))) := Lib.hid (by
        unfold NewM
        rw [List.length_reverse, List.length_reverse, List.length_reverse]
        exact ⟨_, _, _, _, _, _, rfl, ⟨hMf.o0.1.toT.base (by omega), hMf.o1.1.toT.base (by omega), hMf.o2.1.toT.base (by omega), hMf.a01, hMf.a02, hMf.a12⟩, hBelow⟩)
      clear hMf hBelow
      go_wp2
      (try simp only [Exit.inBlock, Exit.then])
      refine bodyPost_ret (v := .tuple #[.agg #[.slice x0 ls.length k0, .slice x1 lo.length k1, .slice x2 hi.length k2], .int .i64 0]) (by simp [results, Try.results53, go_sem, r0, r1, r2, rf]) rfl HFin.out
end Go.Proofs.Ytklhaanapembdaa
