/- Plain facts for the reference's l13Find: each condition is small; where a condition's cells lie; the indexes' bounds. -/
import Derived.Test.YtklhaanapembdaaM06
import Derived.Test.YtklhaanapembdaaBounds

namespace Go.Proofs.Ytklhaanapembdaa
open Go.RowKit
theorem qAll_good {ls lo hi : List Int} (hv : blkB ls lo hi = true) {c : Cnd} (h : c ∈ qAll ls lo hi (ls.length + 1) (ls.length + 1)) : goodC c := by
  simp only [qAll, qJ, qK, qP, List.mem_flatMap, List.mem_map, List.mem_range] at h
  obtain ⟨j, hj, k, hk, p, hp, d, hd, rfl⟩ := h
  exact cnd_good hv (by omega) hk (by omega) (by omega)
theorem qAll_pos (ls lo hi : List Int) {N : Nat} (hN : 3 ≤ N) : 0 < (qAll ls lo hi N N).length := by
  refine List.length_pos_of_mem (a := cnd ls lo hi 1 0 0 1) ?_
  simp only [qAll, qJ, qK, qP, List.mem_flatMap, List.mem_map, List.mem_range]
  exact ⟨1, by omega, 0, by omega, 0, by omega, 0, by omega, rfl⟩
theorem at0_mem {l : List Cnd} {i : Int} (h0 : 0 ≤ i) (h1 : i < l.length) : at0 l i ∈ l := by
  unfold at0
  have hi : i.toNat < l.length := by omega
  rw [List.getD_eq_getElem?_getD, List.getElem?_eq_getElem hi]
  exact List.getElem_mem hi
theorem flatC_get : ∀ (l : List Cnd) (gs : List Nat) (i : Nat), gs.length = l.length → i < l.length →
    (flatC l gs)[i * 3]? = some (.int .i64 (l.getD i cnd0).a) ∧ (flatC l gs)[i * 3 + 1]? = some (.int .i64 (l.getD i cnd0).b) ∧ (flatC l gs)[i * 3 + 2]? = some (.slice (some ⟨gs.getD i 0, 0, none⟩) 4 4)
  | [], _, _, _, h => by simp at h
  | _ :: _, [], _, h, _ => by simp at h
  | c :: l, g :: gs, 0, _, _ => by simp [flatC, ccells]
  | c :: l, g :: gs, i + 1, h, hi => by
    have := flatC_get l gs i (by simpa using h) (by simpa using hi)
    simp only [flatC, ccells, show (i + 1) * 3 = i * 3 + 1 + 1 + 1 by omega, List.cons_append, List.nil_append, List.getElem?_cons_succ, List.getD_cons_succ]
    exact this
theorem AllG.shape {base : Nat} {W : World} {v : Value} {l : List Cnd} {gs : List Nat} (h : AllG base W v l gs) (hl : 0 < l.length) : ∃ g cap, v = .slice (some ⟨g, 0, none⟩) l.length cap ∧ base ≤ g ∧ g < W.heap.size := World.ownsRow.form h.2.1 hl
theorem AllG.get {base g cap i : Nat} {W : World} {l : List Cnd} {gs : List Nat} (h : AllG base W (.slice (some ⟨g, 0, none⟩) l.length cap) l gs) (hi : i < l.length) :
    W.cell? ⟨g, i * 3, none⟩ = some (.int .i64 (at0 l (i : Int)).a) ∧ W.cell? ⟨g, i * 3 + 1, none⟩ = some (.int .i64 (at0 l (i : Int)).b) ∧ W.cell? ⟨g, i * 3 + 2, none⟩ = some (.slice (some ⟨gs.getD i 0, 0, none⟩) 4 4) := by
  obtain ⟨h1, h2, h3⟩ := flatC_get l gs i h.1 hi
  have key := fun j u hu => World.ownsRow.cells h.2.1 (g := g) rfl j u hu
  have e : ∀ j, (⟨g, 0, none⟩ : Addr).add j = ⟨g, j, none⟩ := fun j => by unfold Addr.add; split <;> simp_all
  refine ⟨?_, ?_, ?_⟩
  · have := key _ _ h1; rw [e] at this; simpa [at0] using this
  · have := key _ _ h2; rw [e] at this; simpa [at0] using this
  · have := key _ _ h3; rw [e] at this; exact this
/-- The reference's record of what it found. -/
def sblk (v : Value) (F : Fnd) : Array Value := #[v, .int .i64 F.never, .int .i64 F.low, .int .i64 F.high]
def FindAt (base : Nat) (W : World) (b : Nat) (v : Value) (l : List Cnd) (gs : List Nat) (F : Fnd) : Prop :=
  W.heap[b]? = some (.cells (sblk v F) 125 (0, 0)) ∧ AllG base W v l gs ∧ v.ownBlock ≠ some b ∧ base ≤ b ∧ ∀ (i g : Nat), gs[i]? = some g → g ≠ b
theorem FindAt.call {base b : Nat} {W w' : World} {v : Value} {l : List Cnd} {gs : List Nat} {F : Fnd} (h : FindAt base W b v l gs F) (hb : Below W.heap.size W w') : FindAt base w' b v l gs F :=
  ⟨blk_call h.1 hb, h.2.1.call hb, h.2.2⟩
theorem FindAt.alloc {base b : Nat} {W : World} {v : Value} {l : List Cnd} {gs : List Nat} {F : Fnd} (h : FindAt base W b v l gs F) (o : Obj) : FindAt base (W.alloc o) b v l gs F :=
  h.call ((Below.refl _ _).alloc (Nat.le_refl _) _)
theorem FindAt.drew {base b : Nat} {W : World} {v : Value} {l : List Cnd} {gs : List Nat} {F : Fnd} (h : FindAt base W b v l gs F) : FindAt base W.drew b v l gs F := h
theorem AllG.set {base b : Nat} {W : World} {v : Value} {l : List Cnd} {gs : List Nat} (h : AllG base W v l gs) (hv : v.ownBlock ≠ some b) (hg : ∀ (i g : Nat), gs[i]? = some g → g ≠ b) (i : Nat) (u : Value) : AllG base (W.setCell ⟨b, i, none⟩ u) v l gs := by
  refine ⟨h.1, ?_, fun j g hj => by obtain ⟨x, y, z⟩ := h.2.2 j g hj; exact ⟨x, y, blk_far z (hg j g hj) u⟩⟩
  obtain ⟨h1, h2⟩ := h.2.1
  refine ⟨h1, ?_⟩
  rcases h2 with h2 | ⟨g, cap, cur, h3, h4, h5, h6⟩
  · exact .inl h2
  · exact .inr ⟨g, cap, cur, h3, h4, blk_far h5 (p := ⟨b, i, none⟩) (fun e => hv (by rw [h3]; exact congrArg some e)) u, h6⟩
theorem FindAt.set {base b : Nat} {W : World} {v : Value} {l : List Cnd} {gs : List Nat} {F : Fnd} (h : FindAt base W b v l gs F) (i : Nat) (n : Int) (F' : Fnd) (hF : (sblk v F).setIfInBounds i (.int .i64 n) = sblk v F') : FindAt base (W.setCell ⟨b, i, none⟩ (.int .i64 n)) b v l gs F' :=
  ⟨hF ▸ blk_set h.1 i _, h.2.1.set h.2.2.1 h.2.2.2.2 i _, h.2.2⟩
theorem FindAt.never {base b : Nat} {W : World} {v : Value} {l : List Cnd} {gs : List Nat} {F : Fnd} (h : FindAt base W b v l gs F) (n : Int) : FindAt base (W.setCell ⟨b, 1, none⟩ (.int .i64 n)) b v l gs { F with never := n } := h.set 1 n _ (by simp [sblk])
theorem FindAt.low {base b : Nat} {W : World} {v : Value} {l : List Cnd} {gs : List Nat} {F : Fnd} (h : FindAt base W b v l gs F) (n : Int) : FindAt base (W.setCell ⟨b, 2, none⟩ (.int .i64 n)) b v l gs { F with low := n } := h.set 2 n _ (by simp [sblk])
theorem FindAt.high {base b : Nat} {W : World} {v : Value} {l : List Cnd} {gs : List Nat} {F : Fnd} (h : FindAt base W b v l gs F) (n : Int) : FindAt base (W.setCell ⟨b, 3, none⟩ (.int .i64 n)) b v l gs { F with high := n } := h.set 3 n _ (by simp [sblk])
theorem FindAt.cells {base b : Nat} {W : World} {v : Value} {l : List Cnd} {gs : List Nat} {F : Fnd} (h : FindAt base W b v l gs F) : W.cell? ⟨b, 0, none⟩ = some v ∧ W.cell? ⟨b, 1, none⟩ = some (.int .i64 F.never) ∧ W.cell? ⟨b, 2, none⟩ = some (.int .i64 F.low) ∧ W.cell? ⟨b, 3, none⟩ = some (.int .i64 F.high) := by
  refine ⟨?_, ?_, ?_, ?_⟩ <;> (rw [cellOf h.1]; rfl)
end Go.Proofs.Ytklhaanapembdaa
