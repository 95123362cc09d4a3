/- The plain law of an arch that is laid around a line; a struct of blocks and a line under construction; no function of the program is named. -/
import Derived.Test.YtklhaanapembdaaThrL
import Derived.Test.YtklhaanapembdaaThrA
import Derived.Test.YtklhaanapembdaaBuild
namespace Go.Proofs.Ytklhaanapembdaa
set_option linter.unusedVariables false
open Go.RowKit

/-- The height of the line at a joint. -/
def liH (ls : List Int) (y c : Int) (k : Nat) : Int := y + c * (k : Int) - momAt ls k
theorem liH_bend (ls : List Int) (y c : Int) (k : Nat) : liH ls y c (k + 2) - 2 * liH ls y c (k + 1) + liH ls y c k = -(ls.getD k 0 + ls.getD (k + 1) 0) := by
  have h := momAt_bend ls k
  unfold liH
  have e1 : c * ((k + 1 : Nat) : Int) = c * (k : Int) + c := by rw [Int.natCast_add, Int.mul_add]; simp
  have e2 : c * ((k + 2 : Nat) : Int) = c * (k : Int) + 2 * c := by rw [Int.natCast_add, Int.mul_add, Int.mul_comm c (2 : Nat)]; simp
  rw [e1, e2]
  generalize c * (k : Int) = x
  omega
/-- What is laid so far: the line, and the arch around it. -/
structure Laid (ls : List Int) (y c : Int) (k : Nat) (Z LO HI : List Int) : Prop where
  lz : Z.length = k
  l1 : LO.length = k
  l2 : HI.length = k
  hz : ∀ i, i < k → Z.getD i 0 = liH ls y c i ∧ -900 ≤ Z.getD i 0 ∧ Z.getD i 0 ≤ 900
  hb : ∀ i, i < k → Z.getD i 0 - 4 ≤ LO.getD i 0 ∧ LO.getD i 0 ≤ Z.getD i 0 ∧ Z.getD i 0 ≤ HI.getD i 0 ∧ HI.getD i 0 ≤ Z.getD i 0 + 4
theorem laid0 (ls : List Int) (y c : Int) : Laid ls y c 0 [] [] [] := ⟨rfl, rfl, rfl, (fun i hi => by omega), (fun i hi => by omega)⟩
theorem snoc_at {l : List Int} {k : Nat} (h : l.length = k) (x : Int) : (l ++ [x]).getD k 0 = x := by
  rw [List.getD_eq_getElem?_getD, List.getElem?_append_right (by omega), h, Nat.sub_self]; rfl
theorem snoc_old {l : List Int} {k i : Nat} (h : l.length = k) (x : Int) (hi : i < k) : (l ++ [x]).getD i 0 = l.getD i 0 := by
  rw [List.getD_eq_getElem?_getD, List.getElem?_append_left (by omega), List.getD_eq_getElem?_getD]
theorem Laid.next {ls : List Int} {y c : Int} {k : Nat} {Z LO HI : List Int} (h : Laid ls y c k Z LO HI) {x u v : Int} (hx : x = liH ls y c k) (h1 : -900 ≤ x) (h2 : x ≤ 900) (u1 : 0 ≤ u) (u2 : u < 5) (v1 : 0 ≤ v) (v2 : v < 5) :
    Laid ls y c (k + 1) (Z ++ [x]) (LO ++ [x - u]) (HI ++ [x + v]) := by
  refine ⟨by simp [h.lz], by simp [h.l1], by simp [h.l2], fun i hi => ?_, fun i hi => ?_⟩
  · by_cases e : i = k
    · subst e; rw [snoc_at h.lz]; exact ⟨hx, h1, h2⟩
    · rw [snoc_old h.lz _ (by omega)]; exact h.hz i (by omega)
  · by_cases e : i = k
    · subst e; rw [snoc_at h.lz, snoc_at h.l1, snoc_at h.l2]; omega
    · rw [snoc_old h.lz _ (by omega), snoc_old h.l1 _ (by omega), snoc_old h.l2 _ (by omega)]; exact h.hb i (by omega)
theorem laid_law {ls lo hi : List Int} {y c : Int} {Z LO HI : List Int} (hv : blkB ls lo hi = true) (h : Laid ls y c (ls.length + 1) Z LO HI) :
    blkB ls LO HI = true ∧ lineC ls LO HI Z 1 = 0 ∧ lineV ls LO HI Z 1 = true ∧ canV ls LO HI = true ∧ momC ls LO HI = 0 ∧ lineC ls LO HI (Z.set 0 (Z.getD 0 0 - 2000)) 1 = 0 ∧ lineV ls LO HI (Z.set 0 (Z.getD 0 0 - 2000)) 1 = false := by
  obtain ⟨v1, v2, v3, v4, v5, v6, v7, v8⟩ := blkB_t hv
  obtain ⟨e1, e2, e3, hz, hb⟩ := h
  have hB : blkB ls LO HI = true := by
    have hv2 := hv
    unfold blkB at hv2 ⊢
    simp only [Bool.and_eq_true, decide_eq_true_eq] at hv2 ⊢
    obtain ⟨⟨⟨⟨⟨⟨h1, h2⟩, h3⟩, h4⟩, h5⟩, h6⟩, h7⟩ := hv2
    refine ⟨⟨⟨⟨⟨⟨h1, h2⟩, e2⟩, e3⟩, insB_mk fun i hi => ?_⟩, insB_mk fun i hi => ?_⟩, leB_mk fun i hi => ?_⟩
    · have := hb i (by omega); have := hz i (by omega); omega
    · have := hb i (by omega); have := hz i (by omega); omega
    · have := hb i (by omega); omega
  have hR : insB Z (-100000000000) 100000000000 = true := insB_mk fun i hi => by have := hz i (by omega); omega
  obtain ⟨r1, r2⟩ := line_ok (ls := ls) (lo := LO) (hi := HI) (z := Z) (d := 1) hB (by rw [hR, decide_eq_true (by omega), inB_mk ⟨by omega, by omega⟩]; rfl)
  have hbe : ∀ i, i < ls.length - 1 → bendAt Z (i + 1) = -(ls.getD i 0 + ls.getD (i + 1) 0) := fun i hi => by
    unfold bendAt
    rw [show i + 1 - 1 = i by omega, show i + 1 + 1 = i + 2 by omega, (hz (i + 2) (by omega)).1, (hz (i + 1) (by omega)).1, (hz i (by omega)).1]
    exact liH_bend ls y c i
  have h0 := hbe 0 (by omega)
  have p0 := v3 0 (by omega)
  have p1 := v3 1 (by omega)
  rw [show 0 + 1 = 1 by omega] at h0
  have rV : lineV ls LO HI Z 1 = true := by
    rw [r2, fitB_mk (fun k hk => by have := hb k (by omega); omega), bendB_mk (by omega) fun i hi => ?_]
    · rfl
    · rw [hbe i hi, h0]
      generalize ls.getD i 0 + ls.getD (i + 1) 0 = a
      generalize ls.getD 0 0 + ls.getD 1 0 = b
      rw [Int.neg_mul, Int.neg_mul, Int.mul_comm]
  have hc : canV ls LO HI = true := by
    rw [canV_eq hB]
    exact (stand_blk hB (n := 1) (d := 1) (by omega) (by omega) (allC_line (z := Z) (y := y) (c := c) (fun k hk => (hz k (by omega)).1) (fun k hk => by have := hb k (by omega); omega))).1
  have z0 := hz 0 (by omega)
  have b0 := hb 0 (by omega)
  have s0 : (Z.set 0 (Z.getD 0 0 - 2000)).getD 0 0 = Z.getD 0 0 - 2000 := by
    rw [List.getD_eq_getElem?_getD, List.getElem?_set_self (by omega)]; rfl
  have hR2 : insB (Z.set 0 (Z.getD 0 0 - 2000)) (-100000000000) 100000000000 = true := insB_mk fun i hi => by
    by_cases e : i = 0
    · subst e; rw [s0]; omega
    · rw [List.getD_eq_getElem?_getD, List.getElem?_set_ne (by omega), ← List.getD_eq_getElem?_getD]
      have hi' : i < Z.length := by simpa using hi
      have := hz i (by omega); omega
  obtain ⟨q1, q2⟩ := line_ok (ls := ls) (lo := LO) (hi := HI) (z := Z.set 0 (Z.getD 0 0 - 2000)) (d := 1) hB (by rw [hR2, decide_eq_true (by simp; omega), inB_mk ⟨by omega, by omega⟩]; rfl)
  refine ⟨hB, r1, rV, hc, by simp [momC, hB], q1, ?_⟩
  rw [q2]
  have : fitB LO HI (Z.set 0 (Z.getD 0 0 - 2000)) 1 = false := by
    cases e : fitB LO HI (Z.set 0 (Z.getD 0 0 - 2000)) 1
    · rfl
    · have h1 := fitB_t e 0 (by simp; omega)
      rw [s0] at h1
      omega
  rw [this]; rfl
/-! ### The arch and the line under construction -/
structure Lin (W : World) (B : Nat) (vL v1 v2 vl : Value) (LO HI Z : List Int) : Prop where
  blk : W.heap[B + 1]? = some (.cells #[vL, v1, v2] 26 (0, 0))
  o1 : OwnI W (B + 1 + 1) v1 LO
  o2 : OwnI W (B + 1 + 1) v2 HI
  ol : OwnI W B vl Z
  al : vl.ownBlock ≠ some (B + 1)
  a12 : Apart v1 v2
  a1l : Apart v1 vl
  a2l : Apart v2 vl
theorem Lin.call {W W' : World} {B : Nat} {vL v1 v2 vl : Value} {LO HI Z : List Int} (h : Lin W B vL v1 v2 vl LO HI Z) (hb : Below W.heap.size W W') : Lin W' B vL v1 v2 vl LO HI Z :=
  ⟨blk_call h.blk hb, h.o1.below hb, h.o2.below hb, h.ol.below hb, h.al, h.a12, h.a1l, h.a2l⟩
theorem lin_new (W : World) (vL : Value) : Lin ((W.alloc (.cells #[] 2)).alloc (.cells #[vL, .slice none 0 0, .slice none 0 0] 26)) W.heap.size vL (.slice none 0 0) (.slice none 0 0) (.slice (some ⟨W.heap.size, 0, none⟩) 0 0) [] [] [] :=
  ⟨blk_new' _ _ (by simp), ownI_nil _ _, ownI_nil _ _, (ownI_empty W W.heap.size (Nat.le_refl _)).alloc _, by simp [Value.ownBlock], apart_nil _ _, apart_nil _ _, apart_nil _ _⟩
/-- A height more in the line. -/
theorem Lin.appL {W W' : World} {B g' n cap H : Nat} {vL v1 v2 vl : Value} {LO HI Z : List Int} {x : Int} {o : Obj} (h : Lin W B vL v1 v2 vl LO HI Z) (hl : Z.length = n)
    (hown : W'.ownsRow B 2 1 (.slice (some ⟨g', 0, none⟩) (n + 1) cap) (n + 1) (Z.map (Value.int .i64) ++ [.int .i64 x])) (hg : (W.alloc o).grownBy W' vl.ownBlock) (hat : vl.ownBlock = some g' ∨ g' = H) (hH : (W.alloc o).heap.size = H) :
    Lin W' B vL v1 v2 (.slice (some ⟨g', 0, none⟩) (n + 1) cap) LO HI (Z ++ [x]) := by
  have hO := OwnI.snoc hown (by rw [hl])
  have hlt := blk_lt h.blk
  have hn : ∀ k, (Value.slice (some ⟨g', 0, none⟩) (n + 1) cap).ownBlock = some k → vl.ownBlock = some k ∨ (W.alloc o).heap.size ≤ k := fun k e => by
    simp [Value.ownBlock] at e
    subst e
    rcases hat with e | e
    · exact .inl e
    · exact .inr (by omega)
  refine ⟨(hg.block _ (by simp; omega) (fun e => h.al e.symm)).trans (blk_alloc h.blk), (h.o1.alloc o).keptM hg (Apart.ne h.a1l), (h.o2.alloc o).keptM hg (Apart.ne h.a2l), hO, fun e => ?_, h.a12,
    (h.a1l.symm.next (h.o1.alloc o) hn (Nat.le_refl _)).symm, (h.a2l.symm.next (h.o2.alloc o) hn (Nat.le_refl _)).symm⟩
  rcases hn _ e with e | e
  · exact h.al e
  · simp at e; omega
/-- An integer more in the second field. -/
theorem Lin.app1 {W W' : World} {B g' n cap H : Nat} {vL v1 v2 vl : Value} {LO HI Z : List Int} {x : Int} {o : Obj} (h : Lin W B vL v1 v2 vl LO HI Z) (hl : LO.length = n)
    (hown : W'.ownsRow (B + 1 + 1) 2 1 (.slice (some ⟨g', 0, none⟩) (n + 1) cap) (n + 1) (LO.map (Value.int .i64) ++ [.int .i64 x])) (hg : (W.alloc o).grownBy W' v1.ownBlock) (hat : v1.ownBlock = some g' ∨ g' = H) (hH : (W.alloc o).heap.size = H) :
    Lin (W'.setCell ⟨B + 1, 1, none⟩ (.slice (some ⟨g', 0, none⟩) (n + 1) cap)) B vL (.slice (some ⟨g', 0, none⟩) (n + 1) cap) v2 vl (LO ++ [x]) HI Z := by
  have hO := OwnI.snoc hown (by rw [hl])
  have hlt := blk_lt h.blk
  have hn : ∀ k, (Value.slice (some ⟨g', 0, none⟩) (n + 1) cap).ownBlock = some k → v1.ownBlock = some k ∨ (W.alloc o).heap.size ≤ k := fun k e => by
    simp [Value.ownBlock] at e
    subst e
    rcases hat with e | e
    · exact .inl e
    · exact .inr (by omega)
  exact ⟨blk_set (blk_own (blk_alloc h.blk) (h.o1.alloc o) hg (Nat.lt_succ_self _)) 1 _, hO.setFar (Nat.lt_succ_self _) 1 _, ((h.o2.alloc o).keptM hg (Apart.ne h.a12.symm)).setFar (Nat.lt_succ_self _) 1 _,
    ((h.ol.alloc o).keptM hg (Apart.ne h.a1l.symm)).grown (grown_set _ _ _ _) h.al, h.al, h.a12.next (h.o2.alloc o) hn (Nat.le_refl _), h.a1l.next (h.ol.alloc o) hn (Nat.le_refl _), h.a2l⟩
/-- An integer more in the third field. -/
theorem Lin.app2 {W W' : World} {B g' n cap H : Nat} {vL v1 v2 vl : Value} {LO HI Z : List Int} {x : Int} {o : Obj} (h : Lin W B vL v1 v2 vl LO HI Z) (hl : HI.length = n)
    (hown : W'.ownsRow (B + 1 + 1) 2 1 (.slice (some ⟨g', 0, none⟩) (n + 1) cap) (n + 1) (HI.map (Value.int .i64) ++ [.int .i64 x])) (hg : (W.alloc o).grownBy W' v2.ownBlock) (hat : v2.ownBlock = some g' ∨ g' = H) (hH : (W.alloc o).heap.size = H) :
    Lin (W'.setCell ⟨B + 1, 2, none⟩ (.slice (some ⟨g', 0, none⟩) (n + 1) cap)) B vL v1 (.slice (some ⟨g', 0, none⟩) (n + 1) cap) vl LO (HI ++ [x]) Z := by
  have hO := OwnI.snoc hown (by rw [hl])
  have hlt := blk_lt h.blk
  have hn : ∀ k, (Value.slice (some ⟨g', 0, none⟩) (n + 1) cap).ownBlock = some k → v2.ownBlock = some k ∨ (W.alloc o).heap.size ≤ k := fun k e => by
    simp [Value.ownBlock] at e
    subst e
    rcases hat with e | e
    · exact .inl e
    · exact .inr (by omega)
  exact ⟨blk_set (blk_own (blk_alloc h.blk) (h.o2.alloc o) hg (Nat.lt_succ_self _)) 2 _, ((h.o1.alloc o).keptM hg (Apart.ne h.a12)).setFar (Nat.lt_succ_self _) 2 _, hO.setFar (Nat.lt_succ_self _) 2 _,
    ((h.ol.alloc o).keptM hg (Apart.ne h.a2l.symm)).grown (grown_set _ _ _ _) h.al, h.al, (h.a12.symm.next (h.o1.alloc o) hn (Nat.le_refl _)).symm, h.a1l, h.a2l.next (h.ol.alloc o) hn (Nat.le_refl _)⟩
theorem below_appS {a W W' : World} {B i : Nat} {v u : Value} {zs : List Int} (h : Below a.heap.size a W) (hg : a.heap.size ≤ B) (ho : OwnI W (B + 1 + 1) v zs) (hw : W.grownBy W' v.ownBlock) : Below a.heap.size a (W'.setCell ⟨B + 1, i, none⟩ u) :=
  (below_mark h (by omega) ho hw).setCell (p := ⟨B + 1, i, none⟩) (show a.heap.size ≤ B + 1 by omega) u
end Go.Proofs.Ytklhaanapembdaa
