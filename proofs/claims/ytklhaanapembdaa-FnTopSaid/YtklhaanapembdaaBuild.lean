/- Blocks under construction: a struct of three slices of integers of the call's own, to which is appended; no function of the program is named. -/
import Derived.Deep.AppendLies
import Derived.Test.YtklhaanapembdaaBlocksL

namespace Go.Proofs.Ytklhaanapembdaa
open Go.RowKit

/-- Three slices of the call's own, in the struct at block g, their arrays behind it. -/
structure Build (W : World) (g : Nat) (v0 v1 v2 : Value) (z0 z1 z2 : List Int) : Prop where
  blk : W.heap[g]? = some (.cells #[v0, v1, v2] 26 (0, 0))
  o0 : OwnI W (g + 1) v0 z0
  o1 : OwnI W (g + 1) v1 z1
  o2 : OwnI W (g + 1) v2 z2
  a01 : Apart v0 v1
  a02 : Apart v0 v2
  a12 : Apart v1 v2
theorem Build.call {W W' : World} {g : Nat} {v0 v1 v2 : Value} {z0 z1 z2 : List Int} (h : Build W g v0 v1 v2 z0 z1 z2) (hb : Below W.heap.size W W') : Build W' g v0 v1 v2 z0 z1 z2 :=
  ⟨blk_call h.blk hb, h.o0.below hb, h.o1.below hb, h.o2.below hb, h.a01, h.a02, h.a12⟩
theorem Build.alloc {W : World} {g : Nat} {v0 v1 v2 : Value} {z0 z1 z2 : List Int} (h : Build W g v0 v1 v2 z0 z1 z2) (o : Obj) : Build (W.alloc o) g v0 v1 v2 z0 z1 z2 := h.call (by repeat (first | exact Below.refl _ _ | assumption | refine Below.drew ?_ | refine below_drewN ?_ _ | refine Below.alloc ?_ (by first | omega | (simp; done) | (simp; omega)) _ | refine Below.setCell ?_ (by first | omega | (simp; done) | (simp; omega)) _))
theorem Build.drew {W : World} {g : Nat} {v0 v1 v2 : Value} {z0 z1 z2 : List Int} (h : Build W g v0 v1 v2 z0 z1 z2) : Build W.drew g v0 v1 v2 z0 z1 z2 := h.call (by repeat (first | exact Below.refl _ _ | assumption | refine Below.drew ?_ | refine below_drewN ?_ _ | refine Below.alloc ?_ (by first | omega | (simp; done) | (simp; omega)) _ | refine Below.setCell ?_ (by first | omega | (simp; done) | (simp; omega)) _))
theorem Build.drewN {W : World} {g : Nat} {v0 v1 v2 : Value} {z0 z1 z2 : List Int} (h : Build W g v0 v1 v2 z0 z1 z2) (n : Nat) : Build (W.drewN n) g v0 v1 v2 z0 z1 z2 := h.call (by repeat (first | exact Below.refl _ _ | assumption | refine Below.drew ?_ | refine below_drewN ?_ _ | refine Below.alloc ?_ (by first | omega | (simp; done) | (simp; omega)) _ | refine Below.setCell ?_ (by first | omega | (simp; done) | (simp; omega)) _))
theorem Build.cells {W : World} {g : Nat} {v0 v1 v2 : Value} {z0 z1 z2 : List Int} (h : Build W g v0 v1 v2 z0 z1 z2) : W.cell? ⟨g, 0, none⟩ = some v0 ∧ W.cell? ⟨g, 1, none⟩ = some v1 ∧ W.cell? ⟨g, 2, none⟩ = some v2 ∧ ∀ i, W.frozen? ⟨g, i, none⟩ = false := by
  refine ⟨?_, ?_, ?_, fun i => frozenOf h.blk i⟩
  · rw [cellOf h.blk]; rfl
  · rw [cellOf h.blk]; rfl
  · rw [cellOf h.blk]; rfl
theorem grown_set (w : World) (g i : Nat) (u : Value) : w.grownBy (w.setCell ⟨g, i, none⟩ u) (some g) :=
  ⟨rfl, rfl, rfl, by simp [World.setCell], fun k _ hne => Below.heap_setCell w ⟨g, i, none⟩ u k (fun e => hne (by rw [e]))⟩
theorem OwnI.setFar {w : World} {base g : Nat} {v : Value} {zs : List Int} (h : OwnI w base v zs) (hg : g < base) (i : Nat) (u : Value) : OwnI (w.setCell ⟨g, i, none⟩ u) base v zs :=
  h.grown (grown_set w g i u) (fun e => by have := (h.lt g e).1; omega)
theorem apart_nil (v : Value) (n : Nat) : Apart (.slice none n n) v := fun g e => by simp [Value.ownBlock] at e
theorem apart_nil' (v : Value) (n : Nat) : Apart v (.slice none n n) := fun g _ e => by simp [Value.ownBlock] at e
theorem ownT_nil (w : World) (b t : Nat) : OwnT w b t (.slice none 0 0) [] := ⟨ownI_nil _ _, fun g e => by simp [Value.ownBlock] at e⟩
/-- Nothing is in them yet. -/
theorem build_new (W : World) : Build (W.alloc (.cells #[.slice none 0 0, .slice none 0 0, .slice none 0 0] 26)) W.heap.size (.slice none 0 0) (.slice none 0 0) (.slice none 0 0) [] [] [] :=
  ⟨blk_new _ _, ownI_nil _ _, ownI_nil _ _, ownI_nil _ _, apart_nil _ _, apart_nil _ _, apart_nil _ _⟩
/-- An integer more in the first field. -/
theorem Build.app0 {W W' : World} {g g' n cap H : Nat} {v0 v1 v2 : Value} {z0 z1 z2 : List Int} {x : Int} (h : Build W g v0 v1 v2 z0 z1 z2) (hl : z0.length = n)
    (hown : W'.ownsRow (g + 1) 2 1 (.slice (some ⟨g', 0, none⟩) (n + 1) cap) (n + 1) (z0.map (Value.int .i64) ++ [.int .i64 x])) (hg : W.grownBy W' v0.ownBlock) (hat : v0.ownBlock = some g' ∨ g' = H) (hH : W.heap.size = H) :
    Build (W'.setCell ⟨g, 0, none⟩ (.slice (some ⟨g', 0, none⟩) (n + 1) cap)) g (.slice (some ⟨g', 0, none⟩) (n + 1) cap) v1 v2 (z0 ++ [x]) z1 z2 := by
  have hO := OwnI.snoc hown (by rw [hl])
  have hn : ∀ k, (Value.slice (some ⟨g', 0, none⟩) (n + 1) cap).ownBlock = some k → v0.ownBlock = some k ∨ W.heap.size ≤ k := fun k e => by
    simp [Value.ownBlock] at e
    subst e
    rcases hat with e | e
    · exact .inl e
    · exact .inr (by omega)
  exact ⟨blk_set (blk_own h.blk h.o0 hg (Nat.lt_succ_self _)) 0 _, hO.setFar (Nat.lt_succ_self _) 0 _, (h.o1.keptM hg (Apart.ne h.a01.symm)).setFar (Nat.lt_succ_self _) 0 _, (h.o2.keptM hg (Apart.ne h.a02.symm)).setFar (Nat.lt_succ_self _) 0 _,
    h.a01.next h.o1 hn (Nat.le_refl _), h.a02.next h.o2 hn (Nat.le_refl _), h.a12⟩
theorem Build.app1 {W W' : World} {g g' n cap H : Nat} {v0 v1 v2 : Value} {z0 z1 z2 : List Int} {x : Int} (h : Build W g v0 v1 v2 z0 z1 z2) (hl : z1.length = n)
    (hown : W'.ownsRow (g + 1) 2 1 (.slice (some ⟨g', 0, none⟩) (n + 1) cap) (n + 1) (z1.map (Value.int .i64) ++ [.int .i64 x])) (hg : W.grownBy W' v1.ownBlock) (hat : v1.ownBlock = some g' ∨ g' = H) (hH : W.heap.size = H) :
    Build (W'.setCell ⟨g, 1, none⟩ (.slice (some ⟨g', 0, none⟩) (n + 1) cap)) g v0 (.slice (some ⟨g', 0, none⟩) (n + 1) cap) v2 z0 (z1 ++ [x]) z2 := by
  have hO := OwnI.snoc hown (by rw [hl])
  have hn : ∀ k, (Value.slice (some ⟨g', 0, none⟩) (n + 1) cap).ownBlock = some k → v1.ownBlock = some k ∨ W.heap.size ≤ k := fun k e => by
    simp [Value.ownBlock] at e
    subst e
    rcases hat with e | e
    · exact .inl e
    · exact .inr (by omega)
  exact ⟨blk_set (blk_own h.blk h.o1 hg (Nat.lt_succ_self _)) 1 _, (h.o0.keptM hg (Apart.ne h.a01)).setFar (Nat.lt_succ_self _) 1 _, hO.setFar (Nat.lt_succ_self _) 1 _, (h.o2.keptM hg (Apart.ne h.a12.symm)).setFar (Nat.lt_succ_self _) 1 _,
    (h.a01.symm.next h.o0 hn (Nat.le_refl _)).symm, h.a02, h.a12.next h.o2 hn (Nat.le_refl _)⟩
theorem Build.app2 {W W' : World} {g g' n cap H : Nat} {v0 v1 v2 : Value} {z0 z1 z2 : List Int} {x : Int} (h : Build W g v0 v1 v2 z0 z1 z2) (hl : z2.length = n)
    (hown : W'.ownsRow (g + 1) 2 1 (.slice (some ⟨g', 0, none⟩) (n + 1) cap) (n + 1) (z2.map (Value.int .i64) ++ [.int .i64 x])) (hg : W.grownBy W' v2.ownBlock) (hat : v2.ownBlock = some g' ∨ g' = H) (hH : W.heap.size = H) :
    Build (W'.setCell ⟨g, 2, none⟩ (.slice (some ⟨g', 0, none⟩) (n + 1) cap)) g v0 v1 (.slice (some ⟨g', 0, none⟩) (n + 1) cap) z0 z1 (z2 ++ [x]) := by
  have hO := OwnI.snoc hown (by rw [hl])
  have hn : ∀ k, (Value.slice (some ⟨g', 0, none⟩) (n + 1) cap).ownBlock = some k → v2.ownBlock = some k ∨ W.heap.size ≤ k := fun k e => by
    simp [Value.ownBlock] at e
    subst e
    rcases hat with e | e
    · exact .inl e
    · exact .inr (by omega)
  exact ⟨blk_set (blk_own h.blk h.o2 hg (Nat.lt_succ_self _)) 2 _, (h.o0.keptM hg (Apart.ne h.a02)).setFar (Nat.lt_succ_self _) 2 _, (h.o1.keptM hg (Apart.ne h.a12)).setFar (Nat.lt_succ_self _) 2 _, hO.setFar (Nat.lt_succ_self _) 2 _,
    h.a01, (h.a02.symm.next h.o0 hn (Nat.le_refl _)).symm, (h.a12.symm.next h.o1 hn (Nat.le_refl _)).symm⟩
/-- What was there before the struct is as it was behind an append to a field. -/
theorem below_app {a W W' : World} {g i : Nat} {v u : Value} {zs : List Int} (h : Below a.heap.size a W) (hg : a.heap.size ≤ g) (ho : OwnI W (g + 1) v zs) (hw : W.grownBy W' v.ownBlock) : Below a.heap.size a (W'.setCell ⟨g, i, none⟩ u) :=
  (below_mark h (Nat.le_succ_of_le hg) ho hw).setCell (p := ⟨g, i, none⟩) hg u
theorem Build.setFar {W : World} {g k : Nat} {v0 v1 v2 : Value} {z0 z1 z2 : List Int} (h : Build W g v0 v1 v2 z0 z1 z2) (hk : k < g) (i : Nat) (u : Value) : Build (W.setCell ⟨k, i, none⟩ u) g v0 v1 v2 z0 z1 z2 :=
  ⟨blk_far h.blk (p := ⟨k, i, none⟩) (show g ≠ k by omega) u, h.o0.setFar (by omega) i u, h.o1.setFar (by omega) i u, h.o2.setFar (by omega) i u, h.a01, h.a02, h.a12⟩
/-- The blocks as the call's own. -/
theorem Build.ownB {W : World} {g n0 c0 n1 c1 n2 c2 : Nat} {a0 a1 a2 : Option Addr} {z0 z1 z2 : List Int} (h : Build W g (.slice a0 n0 c0) (.slice a1 n1 c1) (.slice a2 n2 c2) z0 z1 z2) {b : Nat} (hb : b ≤ g + 1) : OwnB b W.heap.size a0 a1 a2 n0 c0 n1 c1 n2 c2 z0 z1 z2 W :=
  ⟨h.o0.toT.base hb, h.o1.toT.base hb, h.o2.toT.base hb, h.a01, h.a02, h.a12⟩
end Go.Proofs.Ytklhaanapembdaa
