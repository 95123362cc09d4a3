/- Contract of the program's boundsOf: the conditions that decide of an arch, as the plain fold over all conditions; no old memory turns; condition: valid blocks that can be read. -/
import Derived.Deep.MidRow
import Derived.Laws.Rows
import Derived.Test.YtklhaanapembdaaCondO

namespace Go.Proofs.Ytklhaanapembdaa
open Go.RowKit

/-- A condition's numbers are small. -/
def goodC (c : Cnd) : Prop := -1000000 ≤ c.a ∧ c.a ≤ 1000000 ∧ -1000000000 ≤ c.b ∧ c.b ≤ 1000000000
def goodS (S : Bnds) : Prop := (S.hl = true → 0 < S.low.b ∧ goodC S.low) ∧ (S.hh = true → S.high.b < 0 ∧ goodC S.high) ∧ (S.hn = true → goodC S.never)
theorem goodS0 : goodS bnds0 := ⟨(fun h => by cases h), (fun h => by cases h), (fun h => by cases h)⟩
theorem goodS_step {S : Bnds} {c : Cnd} (h : goodS S) (hc : goodC c) : goodS (bstep S c) := by
  unfold bstep
  split
  · rename_i ht
    simp only [takesL, Bool.and_eq_true, decide_eq_true_eq] at ht
    exact ⟨fun _ => ⟨ht.1, hc⟩, h.2.1, h.2.2⟩
  · split
    · rename_i ht
      simp only [takesH, Bool.and_eq_true, decide_eq_true_eq] at ht
      exact ⟨h.1, fun _ => ⟨ht.1, hc⟩, h.2.2⟩
    · split
      · exact ⟨h.1, h.2.1, fun _ => hc⟩
      · exact h
theorem cnd_good {ls lo hi : List Int} (hv : blkB ls lo hi = true) {j k p q : Nat} (hj : j < ls.length + 1) (hk : k < j) (hq : q < ls.length + 1) (hp : p < q) : goodC (cnd ls lo hi j k p q) := by
  obtain ⟨v1, v2, v3, v4, v5, v6, v7, v8⟩ := blkB_t hv
  obtain ⟨x1, x2⟩ := v6 j (by omega)
  obtain ⟨x3, x4⟩ := v6 p (by omega)
  obtain ⟨x5, x6⟩ := v7 k (by omega)
  obtain ⟨x7, x8⟩ := v7 q (by omega)
  obtain ⟨y1, y2⟩ := momAt_bd (ls := ls) (k := q) (by omega) v3 (by omega)
  obtain ⟨y3, y4⟩ := momAt_bd (ls := ls) (k := p) (by omega) v3 (by omega)
  obtain ⟨y5, y6⟩ := momAt_bd (ls := ls) (k := j) (by omega) v3 (by omega)
  obtain ⟨y7, y8⟩ := momAt_bd (ls := ls) (k := k) (by omega) v3 (by omega)
  have p1 := prod_bd (x := lo.getD j 0 - hi.getD k 0) (y := (q : Int) - p) (A := 2000) (B := 10) (by omega) (by omega) (by omega) (by omega) (by omega)
  have p3 := prod_bd (x := hi.getD q 0 - lo.getD p 0) (y := (j : Int) - k) (A := 2000) (B := 10) (by omega) (by omega) (by omega) (by omega) (by omega)
  have p5 := prod_bd (x := momAt ls q - momAt ls p) (y := (j : Int) - k) (A := 190000) (B := 10) (by omega) (by omega) (by omega) (by omega) (by omega)
  have p7 := prod_bd (x := momAt ls j - momAt ls k) (y := (q : Int) - p) (A := 190000) (B := 10) (by omega) (by omega) (by omega) (by omega) (by omega)
  unfold goodC cnd cA cB
  simp only
  omega
/-- A condition's cells. -/
def cvals (c : Cnd) : List Value := [.int .i64 c.j, .int .i64 c.k, .int .i64 c.p, .int .i64 c.q, .int .i64 c.a, .int .i64 c.b]
/-- The cells of the conditions that decide. -/
def bcells (S : Bnds) : Array Value := #[.int .i64 S.low.j, .int .i64 S.low.k, .int .i64 S.low.p, .int .i64 S.low.q, .int .i64 S.low.a, .int .i64 S.low.b, .int .i64 S.high.j, .int .i64 S.high.k, .int .i64 S.high.p, .int .i64 S.high.q, .int .i64 S.high.a, .int .i64 S.high.b, .int .i64 S.never.j, .int .i64 S.never.k, .int .i64 S.never.p, .int .i64 S.never.q, .int .i64 S.never.a, .int .i64 S.never.b, .bool S.hl, .bool S.hh, .bool S.hn]
def AtS (g : Nat) (S : Bnds) (w : World) : Prop := w.heap[g]? = some (.cells (bcells S) 87 (0, 0))
theorem blkD {w : World} {g : Nat} {o : Obj} (h : w.heap[g]? = some o) : w.drew.heap[g]? = some o := h
theorem blk_new2 (w : World) (A B C : Obj) : (((w.alloc A).alloc B).alloc C).drew.heap[w.heap.size + 1 + 1]? = some C := blkD (blk_new' _ _ (by simp))
theorem setCell_same {w : World} {g i : Nat} {t : TypeId} {cs : Array Value} {v : Value} (h : w.heap[g]? = some (.cells cs t (0, 0))) (hv : cs[i]? = some v) : w.setCell ⟨g, i, none⟩ v = w := by
  have e : (w.setCell ⟨g, i, none⟩ v).heap = w.heap := by
    apply Array.ext
    · simp [World.setCell]
    · intro k h1 h2
      by_cases hk : k = g
      · subst hk
        have h3 := blk_set h i v
        have e2 : cs.setIfInBounds i v = cs := by
          apply Array.ext
          · simp
          · intro m m1 m2
            rw [Array.getElem_setIfInBounds (by simpa using m2)]
            split
            · rename_i hm; subst hm
              rw [Array.getElem?_eq_getElem m2] at hv
              injection hv with hv; exact hv.symm
            · rfl
        rw [e2, ← h] at h3
        rw [Array.getElem?_eq_getElem h1, Array.getElem?_eq_getElem h2] at h3
        injection h3
      · have h3 := Below.heap_setCell w ⟨g, i, none⟩ v k hk
        rw [Array.getElem?_eq_getElem h1, Array.getElem?_eq_getElem h2] at h3
        injection h3
  show { w with heap := (w.setCell ⟨g, i, none⟩ v).heap } = w
  rw [e]
theorem setCells_same {w : World} {g : Nat} {t : TypeId} {cs : Array Value} (h : w.heap[g]? = some (.cells cs t (0, 0))) (vs : List Value) : ∀ (o : Nat) (_ : ∀ (j : Nat) (v : Value), vs[j]? = some v → cs[o + j]? = some v), w.setCells g o vs = w := by
  induction vs with
  | nil => intro o _; rfl
  | cons v r ih =>
    intro o hv
    show (w.setCell ⟨g, o, none⟩ v).setCells g (o + 1) r = w
    rw [setCell_same h (show cs[o]? = some v from hv 0 v rfl)]
    exact ih (o + 1) (fun j u hu => by have := hv (j + 1) u hu; rwa [show o + (j + 1) = o + 1 + j by omega] at this)
theorem there_blk {w : World} {g : Nat} {t : TypeId} {cs : Array Value} (h : w.heap[g]? = some (.cells cs t (0, 0))) : w.there g 0 cs.size := by
  intro j hj
  rw [cellOf h, frozenOf h]
  simp [hj]
/-- A world, and a block of it that a rule speaks of. -/
def stW (w : World) (g : Nat) : World := if g = g then w else w
theorem store_zero {d : Option Tmp} {x y : Operand} {ty : TypeId} {ps : String} {af : Array Edge} {gd : Option (Nat × Bool)} {a : Act} {w : World} {g : Nat} {K : Act → World → Prop} {Q : Exit → Act → World → Prop}
    (hx : a.eval x = .pointer (some ⟨g, 0, none⟩)) (hy : a.eval y = .agg #[.int .i64 0, .int .i64 0, .int .i64 0, .int .i64 0, .int .i64 0, .int .i64 0, .int .i64 0, .int .i64 0, .int .i64 0, .int .i64 0, .int .i64 0, .int .i64 0, .int .i64 0, .int .i64 0, .int .i64 0, .int .i64 0, .int .i64 0, .int .i64 0, .bool false, .bool false, .bool false]) (h : w.heap[g]? = some (.cells (bcells bnds0) 87 (0, 0))) :
    Oper.wp Try.prog { dst := d, op := Op.store 87 x y, type := ty, pos := ps, after := af, guard := gd } a w K Q = K (a.put d undef) w := by
  have hr := run_storeVar_mid (P := Try.prog) w g 0 87 #[.int .i64 0, .int .i64 0, .int .i64 0, .int .i64 0, .int .i64 0, .int .i64 0, .int .i64 0, .int .i64 0, .int .i64 0, .int .i64 0, .int .i64 0, .int .i64 0, .int .i64 0, .int .i64 0, .int .i64 0, .int .i64 0, .int .i64 0, .int .i64 0, .bool false, .bool false, .bool false] (there_blk h) (by kernel_rfl) (by kernel_rfl)
  have hs : w.setCells g 0 (#[.int .i64 0, .int .i64 0, .int .i64 0, .int .i64 0, .int .i64 0, .int .i64 0, .int .i64 0, .int .i64 0, .int .i64 0, .int .i64 0, .int .i64 0, .int .i64 0, .int .i64 0, .int .i64 0, .int .i64 0, .int .i64 0, .int .i64 0, .int .i64 0, .bool false, .bool false, .bool false] : Array Value).toList = w := setCells_same h _ 0 (fun j v hv => by rw [Nat.zero_add]; simpa [bcells, bnds0, cnd0] using hv)
  rw [hs] at hr
  unfold Oper.wp execOp
  simp only [hx, hy, Instr.storeAt, Instr.sureAddr, Sem.run_bind, Sem.run_pure, Result.andThen_ok, hr]
  rfl
theorem stB {x y : Operand} {d : Option Tmp} {ty : TypeId} {ps : String} {af : Array Edge} {gd : Option (Nat × Bool)} {a : Act} {w : World} {g : Nat} {K : Act → World → Prop} {Q : Exit → Act → World → Prop}
    (hx : a.eval x = .pointer (some ⟨g, 0, none⟩)) (hy : a.eval y = .agg #[.int .i64 0, .int .i64 0, .int .i64 0, .int .i64 0, .int .i64 0, .int .i64 0, .int .i64 0, .int .i64 0, .int .i64 0, .int .i64 0, .int .i64 0, .int .i64 0, .int .i64 0, .int .i64 0, .int .i64 0, .int .i64 0, .int .i64 0, .int .i64 0, .bool false, .bool false, .bool false]) (h : (stW w g).heap[g]? = some (.cells (bcells bnds0) 87 (0, 0))) :
    Oper.wp Try.prog { dst := d, op := Op.store 87 x y, type := ty, pos := ps, after := af, guard := gd } a (stW w g) K Q = K (a.put d undef) (stW w g) := store_zero hx hy h
theorem stA {x y : Operand} {d : Option Tmp} {ty : TypeId} {ps : String} {af : Array Edge} {gd : Option (Nat × Bool)} {a : Act} {w : World} {K : Act → World → Prop} {Q : Exit → Act → World → Prop}
    (hx : a.eval x = .pointer (some ⟨w.heap.size, 0, none⟩)) (hy : a.eval y = .agg #[.int .i64 0, .int .i64 0, .int .i64 0, .int .i64 0, .int .i64 0, .int .i64 0, .int .i64 0, .int .i64 0, .int .i64 0, .int .i64 0, .int .i64 0, .int .i64 0, .int .i64 0, .int .i64 0, .int .i64 0, .int .i64 0, .int .i64 0, .int .i64 0, .bool false, .bool false, .bool false]) :
    Oper.wp Try.prog { dst := d, op := Op.store 87 x y, type := ty, pos := ps, after := af, guard := gd } a (w.alloc (.cells #[.int .i64 0, .int .i64 0, .int .i64 0, .int .i64 0, .int .i64 0, .int .i64 0, .int .i64 0, .int .i64 0, .int .i64 0, .int .i64 0, .int .i64 0, .int .i64 0, .int .i64 0, .int .i64 0, .int .i64 0, .int .i64 0, .int .i64 0, .int .i64 0, .bool false, .bool false, .bool false] 87)) K Q = K (a.put d undef) (w.alloc (.cells #[.int .i64 0, .int .i64 0, .int .i64 0, .int .i64 0, .int .i64 0, .int .i64 0, .int .i64 0, .int .i64 0, .int .i64 0, .int .i64 0, .int .i64 0, .int .i64 0, .int .i64 0, .int .i64 0, .int .i64 0, .int .i64 0, .int .i64 0, .int .i64 0, .bool false, .bool false, .bool false] 87)) := store_zero hx hy (blk_new w _)
attribute [local go_sem ↓] stA stB
theorem blk_new1 (w : World) (A B : Obj) : ((w.alloc A).alloc B).drew.heap[w.heap.size + 1]? = some B := blkD (blk_new' _ _ (by simp))
theorem blk_new1' (w : World) (A B C : Obj) : (((w.alloc A).alloc B).alloc C).drew.heap[w.heap.size + 1]? = some B := blkD (blk_alloc (blk_new' _ _ (by simp)))
theorem bstep_L {S : Bnds} {c : Cnd} (hb : 0 < c.b) (h : S.hl = false ∨ lessC S.low.a S.low.b c.a c.b = true) : bstep S c = { S with low := c, hl := true } := by
  have : takesL S c = true := by
    unfold takesL; rw [decide_eq_true hb]
    rcases h with h | h <;> simp [h]
  unfold bstep; rw [if_pos this]
theorem bstep_L' {S : Bnds} {c : Cnd} (hb : 0 < c.b) (h : S.hl = true) (h2 : lessC S.low.a S.low.b c.a c.b = false) : bstep S c = S := by
  have e1 : takesL S c = false := by unfold takesL; simp [h, h2]
  have e2 : takesH S c = false := by unfold takesH; rw [decide_eq_false (by omega)]; rfl
  have e3 : takesN S c = false := by unfold takesN; rw [decide_eq_false (by omega)]; rfl
  unfold bstep; rw [e1, e2, e3]; rfl
theorem bstep_H {S : Bnds} {c : Cnd} (hb : c.b < 0) (h : S.hh = false ∨ lessC c.a c.b S.high.a S.high.b = true) : bstep S c = { S with high := c, hh := true } := by
  have e1 : takesL S c = false := by unfold takesL; rw [decide_eq_false (by omega)]; rfl
  have : takesH S c = true := by
    unfold takesH; rw [decide_eq_true hb]
    rcases h with h | h <;> simp [h]
  unfold bstep; rw [e1, this]; rfl
theorem bstep_H' {S : Bnds} {c : Cnd} (hb : c.b < 0) (h : S.hh = true) (h2 : lessC c.a c.b S.high.a S.high.b = false) : bstep S c = S := by
  have e1 : takesL S c = false := by unfold takesL; rw [decide_eq_false (by omega)]; rfl
  have e2 : takesH S c = false := by unfold takesH; simp [h, h2]
  have e3 : takesN S c = false := by unfold takesN; rw [decide_eq_false (by omega)]; rfl
  unfold bstep; rw [e1, e2, e3]; rfl
theorem bstep_N {S : Bnds} {c : Cnd} (hb : c.b = 0) (h1 : 0 < c.a) (h : S.hn = false) : bstep S c = { S with never := c, hn := true } := by
  have e1 : takesL S c = false := by unfold takesL; rw [decide_eq_false (by omega)]; rfl
  have e2 : takesH S c = false := by unfold takesH; rw [decide_eq_false (by omega)]; rfl
  have e3 : takesN S c = true := by unfold takesN; rw [decide_eq_true hb, decide_eq_true h1, h]; rfl
  unfold bstep; rw [e1, e2, e3]; rfl
theorem bstep_N' {S : Bnds} {c : Cnd} (hb : c.b = 0) (h : ¬ 0 < c.a ∨ S.hn = true) : bstep S c = S := by
  have e1 : takesL S c = false := by unfold takesL; rw [decide_eq_false (by omega)]; rfl
  have e2 : takesH S c = false := by unfold takesH; rw [decide_eq_false (by omega)]; rfl
  have e3 : takesN S c = false := by unfold takesN; rcases h with h | h <;> simp [h]
  unfold bstep; rw [e1, e2, e3]; rfl
/-- What the loops carry. -/
def BInv (w : World) (g : Nat) (a0 a1 a2 : Option Addr) (n0 c0 n1 c1 n2 c2 : Nat) (am : Option Addr) (cm : Nat) (ms : List Int) (S : Bnds) (wr : World) : Prop :=
  AtS g S wr ∧ goodS S ∧ IsRow .i64 wr am n1 cm ms ∧ Below w.heap.size w wr ∧ wr.heap[w.heap.size]? = some (.cells #[.slice a0 n0 c0, .slice a1 n1 c1, .slice a2 n2 c2] 26 (0, 0)) ∧ wr.heap[w.heap.size + 1]? = some (.cells (bcells bnds0) 87 (0, 0))
theorem AtS.cells {g : Nat} {S : Bnds} {w : World} (h : AtS g S w) : w.cell? ⟨g, 0, none⟩ = some (.int .i64 S.low.j) ∧ w.cell? ⟨g, 1, none⟩ = some (.int .i64 S.low.k) ∧ w.cell? ⟨g, 2, none⟩ = some (.int .i64 S.low.p) ∧ w.cell? ⟨g, 3, none⟩ = some (.int .i64 S.low.q) ∧ w.cell? ⟨g, 4, none⟩ = some (.int .i64 S.low.a) ∧ w.cell? ⟨g, 5, none⟩ = some (.int .i64 S.low.b) ∧ w.cell? ⟨g, 6, none⟩ = some (.int .i64 S.high.j) ∧ w.cell? ⟨g, 7, none⟩ = some (.int .i64 S.high.k) ∧ w.cell? ⟨g, 8, none⟩ = some (.int .i64 S.high.p) ∧ w.cell? ⟨g, 9, none⟩ = some (.int .i64 S.high.q) ∧ w.cell? ⟨g, 10, none⟩ = some (.int .i64 S.high.a) ∧ w.cell? ⟨g, 11, none⟩ = some (.int .i64 S.high.b) ∧ w.cell? ⟨g, 12, none⟩ = some (.int .i64 S.never.j) ∧ w.cell? ⟨g, 13, none⟩ = some (.int .i64 S.never.k) ∧ w.cell? ⟨g, 14, none⟩ = some (.int .i64 S.never.p) ∧ w.cell? ⟨g, 15, none⟩ = some (.int .i64 S.never.q) ∧ w.cell? ⟨g, 16, none⟩ = some (.int .i64 S.never.a) ∧ w.cell? ⟨g, 17, none⟩ = some (.int .i64 S.never.b) ∧ w.cell? ⟨g, 18, none⟩ = some (.bool S.hl) ∧ w.cell? ⟨g, 19, none⟩ = some (.bool S.hh) ∧ w.cell? ⟨g, 20, none⟩ = some (.bool S.hn) := by
  refine ⟨?_, ?_, ?_, ?_, ?_, ?_, ?_, ?_, ?_, ?_, ?_, ?_, ?_, ?_, ?_, ?_, ?_, ?_, ?_, ?_, ?_⟩ <;> (rw [cellOf h]; rfl)
theorem AtS.frozen {g : Nat} {S : Bnds} {w : World} (h : AtS g S w) (i : Nat) : w.frozen? ⟨g, i, none⟩ = false := frozenOf h i
theorem bcells_low (S : Bnds) (c : Cnd) : (((((((bcells S).setIfInBounds 0 (.int .i64 c.j)).setIfInBounds 1 (.int .i64 c.k)).setIfInBounds 2 (.int .i64 c.p)).setIfInBounds 3 (.int .i64 c.q)).setIfInBounds 4 (.int .i64 c.a)).setIfInBounds 5 (.int .i64 c.b)).setIfInBounds 18 (.bool true) = bcells { S with low := c, hl := true } := by simp [bcells]
theorem AtS.set_low {g : Nat} {S : Bnds} {w : World} (h : AtS g S w) (c : Cnd) : AtS g { S with low := c, hl := true } (((((((w.setCell ⟨g, 0, none⟩ (.int .i64 c.j)).setCell ⟨g, 1, none⟩ (.int .i64 c.k)).setCell ⟨g, 2, none⟩ (.int .i64 c.p)).setCell ⟨g, 3, none⟩ (.int .i64 c.q)).setCell ⟨g, 4, none⟩ (.int .i64 c.a)).setCell ⟨g, 5, none⟩ (.int .i64 c.b)).setCell ⟨g, 18, none⟩ (.bool true)) := by
  unfold AtS at *
  rw [← bcells_low]
  exact blk_set (blk_set (blk_set (blk_set (blk_set (blk_set (blk_set h 0 (.int .i64 c.j)) 1 (.int .i64 c.k)) 2 (.int .i64 c.p)) 3 (.int .i64 c.q)) 4 (.int .i64 c.a)) 5 (.int .i64 c.b)) 18 (.bool true)
theorem bcells_high (S : Bnds) (c : Cnd) : (((((((bcells S).setIfInBounds 6 (.int .i64 c.j)).setIfInBounds 7 (.int .i64 c.k)).setIfInBounds 8 (.int .i64 c.p)).setIfInBounds 9 (.int .i64 c.q)).setIfInBounds 10 (.int .i64 c.a)).setIfInBounds 11 (.int .i64 c.b)).setIfInBounds 19 (.bool true) = bcells { S with high := c, hh := true } := by simp [bcells]
theorem AtS.set_high {g : Nat} {S : Bnds} {w : World} (h : AtS g S w) (c : Cnd) : AtS g { S with high := c, hh := true } (((((((w.setCell ⟨g, 6, none⟩ (.int .i64 c.j)).setCell ⟨g, 7, none⟩ (.int .i64 c.k)).setCell ⟨g, 8, none⟩ (.int .i64 c.p)).setCell ⟨g, 9, none⟩ (.int .i64 c.q)).setCell ⟨g, 10, none⟩ (.int .i64 c.a)).setCell ⟨g, 11, none⟩ (.int .i64 c.b)).setCell ⟨g, 19, none⟩ (.bool true)) := by
  unfold AtS at *
  rw [← bcells_high]
  exact blk_set (blk_set (blk_set (blk_set (blk_set (blk_set (blk_set h 6 (.int .i64 c.j)) 7 (.int .i64 c.k)) 8 (.int .i64 c.p)) 9 (.int .i64 c.q)) 10 (.int .i64 c.a)) 11 (.int .i64 c.b)) 19 (.bool true)
theorem bcells_never (S : Bnds) (c : Cnd) : (((((((bcells S).setIfInBounds 12 (.int .i64 c.j)).setIfInBounds 13 (.int .i64 c.k)).setIfInBounds 14 (.int .i64 c.p)).setIfInBounds 15 (.int .i64 c.q)).setIfInBounds 16 (.int .i64 c.a)).setIfInBounds 17 (.int .i64 c.b)).setIfInBounds 20 (.bool true) = bcells { S with never := c, hn := true } := by simp [bcells]
theorem AtS.set_never {g : Nat} {S : Bnds} {w : World} (h : AtS g S w) (c : Cnd) : AtS g { S with never := c, hn := true } (((((((w.setCell ⟨g, 12, none⟩ (.int .i64 c.j)).setCell ⟨g, 13, none⟩ (.int .i64 c.k)).setCell ⟨g, 14, none⟩ (.int .i64 c.p)).setCell ⟨g, 15, none⟩ (.int .i64 c.q)).setCell ⟨g, 16, none⟩ (.int .i64 c.a)).setCell ⟨g, 17, none⟩ (.int .i64 c.b)).setCell ⟨g, 20, none⟩ (.bool true)) := by
  unfold AtS at *
  rw [← bcells_never]
  exact blk_set (blk_set (blk_set (blk_set (blk_set (blk_set (blk_set h 12 (.int .i64 c.j)) 13 (.int .i64 c.k)) 14 (.int .i64 c.p)) 15 (.int .i64 c.q)) 16 (.int .i64 c.a)) 17 (.int .i64 c.b)) 20 (.bool true)
theorem IsRow.setFar {w : World} {a : Option Addr} {len cap : Nat} {zs : List Int} (h : IsRow .i64 w a len cap zs) {p : Addr} (hne : ∀ ad, a = some ad → ad.block ≠ p.block) (u : Value) : IsRow .i64 (w.setCell p u) a len cap zs := by
  obtain ⟨h1, h2, h3, h4, h5⟩ := h
  refine ⟨h1, h2, h3, h4, fun h0 => ?_⟩
  obtain ⟨b, o', ha, hlt, hc⟩ := h5 h0
  have hb := hne _ ha
  exact ⟨b, o', ha, by simpa [World.setCell] using hlt, fun i n hi => keep1S (hc i n hi) (fun e => hb e.symm)⟩
theorem BInv.below {w : World} {g : Nat} {a0 a1 a2 : Option Addr} {n0 c0 n1 c1 n2 c2 : Nat} {am : Option Addr} {cm : Nat} {ms : List Int} {S : Bnds} {W : World} {W' : World} (h : BInv w g a0 a1 a2 n0 c0 n1 c1 n2 c2 am cm ms S W) (hb : Below W.heap.size W W') : BInv w g a0 a1 a2 n0 c0 n1 c1 n2 c2 am cm ms S W' :=
  ⟨blk_call h.1 hb, h.2.1, h.2.2.1.below hb, below_call h.2.2.2.1 hb, blk_call h.2.2.2.2.1 hb, blk_call h.2.2.2.2.2 hb⟩
theorem BInv.alloc {w : World} {g : Nat} {a0 a1 a2 : Option Addr} {n0 c0 n1 c1 n2 c2 : Nat} {am : Option Addr} {cm : Nat} {ms : List Int} {S : Bnds} {W : World} (h : BInv w g a0 a1 a2 n0 c0 n1 c1 n2 c2 am cm ms S W) (o : Obj) : BInv w g a0 a1 a2 n0 c0 n1 c1 n2 c2 am cm ms S (W.alloc o) :=
  ⟨blk_alloc h.1, h.2.1, h.2.2.1.below ((Below.refl _ _).alloc (Nat.le_refl _) _), h.2.2.2.1.alloc h.2.2.2.1.size _, blk_alloc h.2.2.2.2.1, blk_alloc h.2.2.2.2.2⟩
theorem BInv.setFar {w : World} {g : Nat} {a0 a1 a2 : Option Addr} {n0 c0 n1 c1 n2 c2 : Nat} {am : Option Addr} {cm : Nat} {ms : List Int} {S : Bnds} {W : World} (h : BInv w g a0 a1 a2 n0 c0 n1 c1 n2 c2 am cm ms S W) (hne : ∀ ad, am = some ad → ad.block ≠ g) (hg : w.heap.size + 1 < g) (i : Nat) (u : Value) : IsRow .i64 (W.setCell ⟨g, i, none⟩ u) am n1 cm ms ∧ Below w.heap.size w (W.setCell ⟨g, i, none⟩ u) ∧ (W.setCell ⟨g, i, none⟩ u).heap[w.heap.size]? = some (.cells #[.slice a0 n0 c0, .slice a1 n1 c1, .slice a2 n2 c2] 26 (0, 0)) ∧ (W.setCell ⟨g, i, none⟩ u).heap[w.heap.size + 1]? = some (.cells (bcells bnds0) 87 (0, 0)) :=
  ⟨h.2.2.1.setFar (p := ⟨g, i, none⟩) hne u, h.2.2.2.1.setCell (by show _ ≤ g; omega) u, blk_far h.2.2.2.2.1 (by show _ ≠ g; omega) u, blk_far h.2.2.2.2.2 (by show _ ≠ g; omega) u⟩
/-- The same without the cells of the block that is written. -/
def BRest (w : World) (a0 a1 a2 : Option Addr) (n0 c0 n1 c1 n2 c2 : Nat) (am : Option Addr) (cm : Nat) (ms : List Int) (W : World) : Prop :=
  IsRow .i64 W am n1 cm ms ∧ Below w.heap.size w W ∧ W.heap[w.heap.size]? = some (.cells #[.slice a0 n0 c0, .slice a1 n1 c1, .slice a2 n2 c2] 26 (0, 0)) ∧ W.heap[w.heap.size + 1]? = some (.cells (bcells bnds0) 87 (0, 0))
theorem BRest.set {w : World} {g : Nat} {a0 a1 a2 : Option Addr} {n0 c0 n1 c1 n2 c2 : Nat} {am : Option Addr} {cm : Nat} {ms : List Int} {W : World} (h : BRest w a0 a1 a2 n0 c0 n1 c1 n2 c2 am cm ms W) (hne : ∀ ad, am = some ad → ad.block ≠ g) (hg : w.heap.size + 1 < g) (i : Nat) (u : Value) : BRest w a0 a1 a2 n0 c0 n1 c1 n2 c2 am cm ms (W.setCell ⟨g, i, none⟩ u) :=
  ⟨h.1.setFar (p := ⟨g, i, none⟩) hne u, h.2.1.setCell (by show _ ≤ g; omega) u, blk_far h.2.2.1 (by show _ ≠ g; omega) u, blk_far h.2.2.2 (by show _ ≠ g; omega) u⟩
theorem BInv.set_low {w : World} {g : Nat} {a0 a1 a2 : Option Addr} {n0 c0 n1 c1 n2 c2 : Nat} {am : Option Addr} {cm : Nat} {ms : List Int} {S : Bnds} {W : World} (h : BInv w g a0 a1 a2 n0 c0 n1 c1 n2 c2 am cm ms S W) (hne : ∀ ad, am = some ad → ad.block ≠ g) (hg : w.heap.size + 1 < g) (c : Cnd) (hS : goodS { S with low := c, hl := true }) : BInv w g a0 a1 a2 n0 c0 n1 c1 n2 c2 am cm ms { S with low := c, hl := true } (((((((W.setCell ⟨g, 0, none⟩ (.int .i64 c.j)).setCell ⟨g, 1, none⟩ (.int .i64 c.k)).setCell ⟨g, 2, none⟩ (.int .i64 c.p)).setCell ⟨g, 3, none⟩ (.int .i64 c.q)).setCell ⟨g, 4, none⟩ (.int .i64 c.a)).setCell ⟨g, 5, none⟩ (.int .i64 c.b)).setCell ⟨g, 18, none⟩ (.bool true)) :=
  have r := BRest.set (BRest.set (BRest.set (BRest.set (BRest.set (BRest.set (BRest.set (show BRest w a0 a1 a2 n0 c0 n1 c1 n2 c2 am cm ms W from ⟨h.2.2.1, h.2.2.2.1, h.2.2.2.2.1, h.2.2.2.2.2⟩) hne hg 0 (.int .i64 c.j)) hne hg 1 (.int .i64 c.k)) hne hg 2 (.int .i64 c.p)) hne hg 3 (.int .i64 c.q)) hne hg 4 (.int .i64 c.a)) hne hg 5 (.int .i64 c.b)) hne hg 18 (.bool true)
  ⟨AtS.set_low h.1 c, hS, r.1, r.2.1, r.2.2.1, r.2.2.2⟩
theorem BInv.set_high {w : World} {g : Nat} {a0 a1 a2 : Option Addr} {n0 c0 n1 c1 n2 c2 : Nat} {am : Option Addr} {cm : Nat} {ms : List Int} {S : Bnds} {W : World} (h : BInv w g a0 a1 a2 n0 c0 n1 c1 n2 c2 am cm ms S W) (hne : ∀ ad, am = some ad → ad.block ≠ g) (hg : w.heap.size + 1 < g) (c : Cnd) (hS : goodS { S with high := c, hh := true }) : BInv w g a0 a1 a2 n0 c0 n1 c1 n2 c2 am cm ms { S with high := c, hh := true } (((((((W.setCell ⟨g, 6, none⟩ (.int .i64 c.j)).setCell ⟨g, 7, none⟩ (.int .i64 c.k)).setCell ⟨g, 8, none⟩ (.int .i64 c.p)).setCell ⟨g, 9, none⟩ (.int .i64 c.q)).setCell ⟨g, 10, none⟩ (.int .i64 c.a)).setCell ⟨g, 11, none⟩ (.int .i64 c.b)).setCell ⟨g, 19, none⟩ (.bool true)) :=
  have r := BRest.set (BRest.set (BRest.set (BRest.set (BRest.set (BRest.set (BRest.set (show BRest w a0 a1 a2 n0 c0 n1 c1 n2 c2 am cm ms W from ⟨h.2.2.1, h.2.2.2.1, h.2.2.2.2.1, h.2.2.2.2.2⟩) hne hg 6 (.int .i64 c.j)) hne hg 7 (.int .i64 c.k)) hne hg 8 (.int .i64 c.p)) hne hg 9 (.int .i64 c.q)) hne hg 10 (.int .i64 c.a)) hne hg 11 (.int .i64 c.b)) hne hg 19 (.bool true)
  ⟨AtS.set_high h.1 c, hS, r.1, r.2.1, r.2.2.1, r.2.2.2⟩
theorem BInv.set_never {w : World} {g : Nat} {a0 a1 a2 : Option Addr} {n0 c0 n1 c1 n2 c2 : Nat} {am : Option Addr} {cm : Nat} {ms : List Int} {S : Bnds} {W : World} (h : BInv w g a0 a1 a2 n0 c0 n1 c1 n2 c2 am cm ms S W) (hne : ∀ ad, am = some ad → ad.block ≠ g) (hg : w.heap.size + 1 < g) (c : Cnd) (hS : goodS { S with never := c, hn := true }) : BInv w g a0 a1 a2 n0 c0 n1 c1 n2 c2 am cm ms { S with never := c, hn := true } (((((((W.setCell ⟨g, 12, none⟩ (.int .i64 c.j)).setCell ⟨g, 13, none⟩ (.int .i64 c.k)).setCell ⟨g, 14, none⟩ (.int .i64 c.p)).setCell ⟨g, 15, none⟩ (.int .i64 c.q)).setCell ⟨g, 16, none⟩ (.int .i64 c.a)).setCell ⟨g, 17, none⟩ (.int .i64 c.b)).setCell ⟨g, 20, none⟩ (.bool true)) :=
  have r := BRest.set (BRest.set (BRest.set (BRest.set (BRest.set (BRest.set (BRest.set (show BRest w a0 a1 a2 n0 c0 n1 c1 n2 c2 am cm ms W from ⟨h.2.2.1, h.2.2.2.1, h.2.2.2.2.1, h.2.2.2.2.2⟩) hne hg 12 (.int .i64 c.j)) hne hg 13 (.int .i64 c.k)) hne hg 14 (.int .i64 c.p)) hne hg 15 (.int .i64 c.q)) hne hg 16 (.int .i64 c.a)) hne hg 17 (.int .i64 c.b)) hne hg 20 (.bool true)
  ⟨AtS.set_never h.1 c, hS, r.1, r.2.1, r.2.2.1, r.2.2.2⟩
def setL (cs : Array Value) : Nat → List Value → Array Value
  | _, [] => cs
  | o, v :: r => setL (cs.setIfInBounds o v) (o + 1) r
theorem blk_sets {g : Nat} {t : TypeId} (vs : List Value) : ∀ {w : World} {cs : Array Value} (_ : w.heap[g]? = some (.cells cs t (0, 0))) (o : Nat), (w.setCells g o vs).heap[g]? = some (.cells (setL cs o vs) t (0, 0)) := by
  induction vs with
  | nil => intro w cs h o; exact h
  | cons v r ih => intro w cs h o; exact ih (blk_set h o v) (o + 1)
theorem below_sets {B : Nat} {a : World} {g : Nat} (vs : List Value) : ∀ {w : World} (_ : Below B a w) (_ : B ≤ g) (o : Nat), Below B a (w.setCells g o vs) := by
  induction vs with
  | nil => intro w h _ o; exact h
  | cons v r ih => intro w h hg o; exact ih (Below.setCell h hg v) hg (o + 1)
theorem setL_b (S S' : Bnds) : setL (bcells S') 0 (bcells S).toList = bcells S := by simp [setL, bcells]
theorem AtS.sets {g : Nat} {S S' : Bnds} {w : World} (h : AtS g S' w) : AtS g S (w.setCells g 0 (bcells S).toList) := by
  have := blk_sets (bcells S).toList h 0
  rw [setL_b] at this
  exact this
theorem bcells_one (S : Bnds) : (bcells S).all (·.oneCell') = true := by simp [bcells, Value.oneCell']
theorem bcells_size (S : Bnds) : (bcells S).size = 21 := rfl
theorem size_bounds : (Try.prog.info? 87).map (·.size) = some 21 := by kernel_rfl
theorem wpList_storeS {ops : Array Oper} {rest : List Oper} {op : Oper} {a : Act} {w : World} {Q : Exit → Act → World → Prop} (hgd : op.guard = none) (x y : Operand) (ho : op.op = .store 87 x y)
    (g : Nat) (S S' : Bnds) (hx : a.eval x = .pointer (some ⟨g, 0, none⟩)) (hy : a.eval y = .agg (bcells S)) (hA : AtS g S' w)
    (h : wpList Try.prog ops Q rest (a.put op.dst undef) (w.setCells g 0 (bcells S).toList)) : wpList Try.prog ops Q (op :: rest) a w :=
  wpList_store_mid hgd _ x y ho g 0 (bcells S) hx hy (by have := there_blk hA; rwa [bcells_size] at this) (by rw [bcells_size]; exact size_bounds) (bcells_one S) h
theorem wpList_loadS {ops : Array Oper} {rest : List Oper} {op : Oper} {a : Act} {w : World} {Q : Exit → Act → World → Prop} (hgd : op.guard = none) (x : Operand) (ho : op.op = .load 87 x)
    (g : Nat) (S : Bnds) (hx : a.eval x = .pointer (some ⟨g, 0, none⟩)) (hA : AtS g S w)
    (h : wpList Try.prog ops Q rest (a.put op.dst (.agg (bcells S))) w) : wpList Try.prog ops Q (op :: rest) a w :=
  wpList_load_mid hgd _ x ho g 0 hx (bcells S).toList _ (fun j v hv => by rw [Nat.zero_add, cellOf hA]; simpa using hv) Try.underlying87 rfl (by rw [Array.length_toList, bcells_size]; exact size_bounds) (by simpa using h)
set_option maxRecDepth 100000 in
set_option maxHeartbeats 8000000 in
theorem boundsOf_any (a0 a1 a2 : Option Addr) (n0 c0 n1 c1 n2 c2 : Nat) (ls lo hi : List Int) (w : World) (h : IsB a0 a1 a2 n0 c0 n1 c1 n2 c2 ls lo hi w) (hv : blkB ls lo hi = true) :
    Calls Try.prog 64 #[.agg #[.slice a0 n0 c0, .slice a1 n1 c1, .slice a2 n2 c2]] w fun e w' => e = .returned (.agg (bcells (bfind ls lo hi))) ∧ Below w.heap.size w w' := by
  have H := Lib.hid h
  have HV := Lib.hid hv
  have HM := Lib.hid (fun W hW => moments_any a0 a1 a2 n0 c0 n1 c1 n2 c2 ls lo hi W hW hv)
  have hm1 : n1 ≤ maxLen := Nat.le_trans h.2.1.2.1 h.2.1.2.2.1
  unfold maxLen at hm1
  clear h hv
  go_enter Try.func64, Try.ntmps64
  go_upto_region 1 with fail
  go_cut [3, 4, 5] (fun s3 s4 s5 wx => ∃ (g : Nat) (am : Option Addr) (cm : Nat), s3 = .pointer (some ⟨g, 0, none⟩) ∧ s4 = .slice am n1 cm ∧ s5 = .int .i64 (n1 : Int) ∧ AtS g bnds0 wx ∧ w.heap.size + 1 < g ∧ (∀ ad, am = some ad → ad.block ≠ g) ∧ IsRow .i64 wx am n1 cm (moms ls n1) ∧ Below w.heap.size w wx ∧ wx.heap[w.heap.size]? = some (.cells #[.slice a0 n0 c0, .slice a1 n1 c1, .slice a2 n2 c2] 26 (0, 0)) ∧ wx.heap[w.heap.size + 1]? = some (.cells (bcells bnds0) 87 (0, 0)))
  case first =>
    have hS0 : ((w.alloc (.cells #[.slice a0 n0 c0, .slice a1 n1 c1, .slice a2 n2 c2] 26)).alloc (.cells (bcells bnds0) 87)).drew.cell? ⟨w.heap.size, 0, none⟩ = some (.slice a0 n0 c0) ∧ True := ⟨by simp [go_sem], trivial⟩
    go_region_held3 (fun w' => w'.cell? ⟨w.heap.size, 0, none⟩ = some (.slice a0 n0 c0) ∧ w'.cell? ⟨w.heap.size, 1, none⟩ = some (.slice a1 n1 c1) ∧ w'.cell? ⟨w.heap.size, 2, none⟩ = some (.slice a2 n2 c2)) (first | (refine ⟨?_, ?_, ?_⟩ <;> (simp [go_sem]; done)) | (refine ⟨?_, ?_, ?_⟩ <;> (repeat (first | (with_reducible refine keepD ?_) | (with_reducible refine keepA ?_) | (with_reducible refine keep1S ?_ (by first | omega | (simp; done) | (simp; omega))))) <;> first | (with_reducible assumption) | (with_reducible exact hS.1) | (with_reducible exact hS.2.1) | (with_reducible exact hS.2.2) | (simp [go_sem]; done)))
      ((go_at_call 68; refine (HM.out _ (H.out.below (by repeat (first | exact Below.refl _ _ | assumption | refine Below.drew ?_ | refine below_drewN ?_ _ | refine Below.alloc ?_ (by first | omega | (simp; done) | (simp; omega)) _ | refine Below.setCell ?_ (by first | omega | (simp; done) | (simp; omega)) _)))).mono ?_; rintro e wx ⟨am, cm, rfl, hOm, hbx⟩; have hS := keep3 hbx (by with_reducible assumption); have hzx := hbx.size; (try simp at hzx); have hax : Below w.heap.size w wx := below_call (by repeat (first | exact Below.refl _ _ | assumption | refine Below.drew ?_ | refine below_drewN ?_ _ | refine Below.alloc ?_ (by first | omega | (simp; done) | (simp; omega)) _ | refine Below.setCell ?_ (by first | omega | (simp; done) | (simp; omega)) _)) hbx; have hRow := hOm.row; (try (have hFx := blk_call (blkD (blk_alloc (blk_new w _))) hbx; have hRx := blk_call (blk_new1 w _ _) hbx)); (try (have hFx := blk_call (blkD (blk_alloc (blk_alloc (blk_new w _)))) hbx; have hRx := blk_call (blk_new1' w _ _ _) hbx)); (try (have hq : wx.heap[w.heap.size + 1 + 1]? = some (.cells (bcells bnds0) 87 (0, 0)) := blk_call (blk_new2 w _ _ _) hbx; obtain ⟨wy, hwy⟩ : ∃ wy, wx = stW wy (w.heap.size + 1 + 1) := ⟨wx, by unfold stW; rw [if_pos rfl]⟩; subst hwy))))
    all_goals
      clear hS hS0
      rw [moms_len] at hRow
      go_wp2_with fail
      go_meet
    · exact ⟨wx.heap.size, am, cm, rfl, by rw [moms_len], rfl, blk_new wx _, by omega, (fun ad e => by have := (hOm.lt ad.block (by rw [e]; rfl)).2; omega), hRow.below ((Below.refl _ _).alloc (Nat.le_refl _) _), hax.alloc (by omega) _, blk_alloc hFx, blk_alloc hRx⟩
    · exact ⟨w.heap.size + 1 + 1, am, cm, rfl, by rw [moms_len], rfl, hq, by omega, (fun ad e => by have h1 := (hOm.lt ad.block (by rw [e]; rfl)).1; simp at h1; omega), hRow, hax, hFx, hRx⟩
  case rest =>
    obtain ⟨g, am, cm, rfl, rfl, rfl, hG, hg1, hgne, hRm, hB, hF, hR⟩ := hcut
    have HNE := Lib.hid hgne
    clear hgne
    obtain ⟨v1, v2, v3, v4, _⟩ := blkB_t HV.out
    have hn1 : n1 = ls.length + 1 := by have := H.out.2.1.1; omega
    have HN1 := Lib.hid hn1
    have hb1 : n1 ≤ 11 := by omega
    have hb2 : 3 ≤ n1 := by omega
    have HLO : Hid (lo.length = n1) := Lib.hid H.out.2.1.1
    clear v1 v2 v3 v4 hn1
    have HB0 : Hid (BInv w g a0 a1 a2 n0 c0 n1 c1 n2 c2 am cm (moms ls n1) bnds0 wc) := Lib.hid ⟨hG, goodS0, hRm, hB, hF, hR⟩
    clear hG hRm hB hF hR
    go_wp2_with fail
    go_loopw [6, 7, 8, 9, 10, 18, 22, 26] (fun _ _ _ _ _ i _ _ wr => ∃ j : Nat, j ≤ n1 ∧ i = .int .i64 (j : Int) ∧ BInv w g a0 a1 a2 n0 c0 n1 c1 n2 c2 am cm (moms ls n1) (bfold (qAll ls lo hi n1 j)) wr) (fun _ _ _ _ _ i _ _ _ => (n1 - intOf i).toNat)
    case atStart => exact ⟨0, by omega, rfl, HB0.out⟩
    case round =>
      obtain ⟨j, hj, rfl, hI⟩ := hrel
      have HI := Lib.hid hI
      clear hI
      by_cases hlj : j < n1
      · have hlj' : (j : Int) < (n1 : Int) := by omega
        have HQ1 := Lib.hid (qAll_next ls lo hi n1 j)
        generalize qAll ls lo hi n1 j = A at *
        obtain ⟨w1, rfl⟩ : ∃ wo : World, wo = wr := ⟨_, rfl⟩
        go_wp2_with fail
        go_loopw [7, 8, 9, 10, 22, 26] (fun _ _ _ _ i _ wr => ∃ k : Nat, k ≤ j ∧ i = .int .i64 (k : Int) ∧ BInv w g a0 a1 a2 n0 c0 n1 c1 n2 c2 am cm (moms ls n1) (bfold (A ++ qJ ls lo hi n1 j k)) wr) (fun _ _ _ _ i _ _ => (j - intOf i).toNat)
        case atStart => exact ⟨0, by omega, rfl, by rw [show qJ ls lo hi n1 j 0 = [] from rfl, List.append_nil]; exact HI.out⟩
        case round =>
          obtain ⟨k, hk, rfl, hI⟩ := hrel
          clear HI
          have HI := Lib.hid hI
          clear hI
          by_cases hlk : k < j
          · have hlk' : (k : Int) < (j : Int) := by omega
            have HQ2 := Lib.hid (qJ_next ls lo hi n1 j k)
            obtain ⟨w2, rfl⟩ : ∃ wo : World, wo = wr := ⟨_, rfl⟩
            go_wp2_with fail
            go_loopw [8, 9, 10, 26] (fun _ _ _ i wr => ∃ p : Nat, p ≤ n1 ∧ i = .int .i64 (p : Int) ∧ BInv w g a0 a1 a2 n0 c0 n1 c1 n2 c2 am cm (moms ls n1) (bfold (A ++ qJ ls lo hi n1 j k ++ qK ls lo hi n1 j k p)) wr) (fun _ _ _ i _ => (n1 - intOf i).toNat)
            case atStart => exact ⟨0, by omega, rfl, by rw [show qK ls lo hi n1 j k 0 = [] from rfl, List.append_nil]; exact HI.out⟩
            case round =>
              obtain ⟨p, hp, rfl, hI⟩ := hrel
              clear HI
              have HI := Lib.hid hI
              clear hI
              by_cases hlp : p < n1
              · have hlp' : (p : Int) < (n1 : Int) := by omega
                have HQ3 := Lib.hid (qK_next ls lo hi n1 j k p)
                obtain ⟨w3, rfl⟩ : ∃ wo : World, wo = wr := ⟨_, rfl⟩
                go_wp2_with fail
                go_loopw [9, 10] (fun i _ wr => ∃ d : Nat, p + 1 + d ≤ n1 ∧ i = .int .i64 ((p + 1 + d : Nat) : Int) ∧ BInv w g a0 a1 a2 n0 c0 n1 c1 n2 c2 am cm (moms ls n1) (bfold (A ++ qJ ls lo hi n1 j k ++ qK ls lo hi n1 j k p ++ qP ls lo hi n1 j k p d)) wr) (fun i _ _ => (n1 - intOf i).toNat)
                case atStart => exact ⟨0, by omega, by go_num, by rw [show qP ls lo hi n1 j k p 0 = [] from rfl, List.append_nil]; exact HI.out⟩
                case round =>
                  obtain ⟨d, hd, rfl, hI⟩ := hrel
                  clear HI
                  have HI := Lib.hid hI
                  clear hI
                  by_cases hlq : p + 1 + d < n1
                  · obtain ⟨q, hq⟩ : ∃ q, p + 1 + d = q := ⟨_, rfl⟩
                    have HPN := Lib.hid (qP_next ls lo hi n1 j k p d)
                    have HCG := Lib.hid (cnd_good (j := j) (k := k) (p := p) (q := q) HV.out (by have := HN1.out; omega) hlk (by have := HN1.out; omega) (by omega))
                    have HC := Lib.hid (fun W hW hRow => conditionOf_any a0 a1 a2 n0 c0 n1 c1 n2 c2 ls lo hi am cm j k p q W hW hRow HV.out hlj hlk (by omega) (by omega))
                    have HD : Hid (((p + 1 + d : Nat) : Int) = (q : Int)) := Lib.hid (by rw [hq])
                    have HD1 : Hid (((p + 1 + (d + 1) : Nat) : Int) = (q : Int) + 1) := Lib.hid (by omega)
                    have HX : Hid (cnd ls lo hi j k p (p + 1 + d) = ⟨j, k, p, q, cA lo hi j k p q, cB (momAt ls) j k p q⟩) := Lib.hid (by rw [hq]; rfl)
                    have hqn : (q : Int) < (n1 : Int) := by omega
                    have hdn : p + 1 + (d + 1) ≤ n1 := by omega
                    have hmeas : q < n1 := by omega
                    clear hq hlq
                    rw [HD.out]
                    have HNX : Hid (bfold (A ++ qJ ls lo hi n1 j k ++ qK ls lo hi n1 j k p ++ qP ls lo hi n1 j k p (d + 1)) = bstep (bfold (A ++ qJ ls lo hi n1 j k ++ qK ls lo hi n1 j k p ++ qP ls lo hi n1 j k p d)) ⟨j, k, p, q, cA lo hi j k p q, cB (momAt ls) j k p q⟩) := Lib.hid (by rw [HPN.out, ← List.append_assoc, bfold_snoc, HX.out])
                    obtain ⟨x1, x2, x3, x4⟩ : goodC ⟨j, k, p, q, cA lo hi j k p q, cB (momAt ls) j k p q⟩ := HCG.out
                    simp only at x1 x2 x3 x4
                    clear HX HPN HCG HD
                    generalize cA lo hi j k p q = xa at *
                    generalize cB (momAt ls) j k p q = xb at *
                    generalize bfold (A ++ qJ ls lo hi n1 j k ++ qK ls lo hi n1 j k p ++ qP ls lo hi n1 j k p d) = S at *
                    have HF := Lib.hid HI.out.2.2.2.2.1
                    have f0 := cellOf HF.out 0
                    have f1 := cellOf HF.out 1
                    have f2 := cellOf HF.out 2
                    simp at f0 f1 f2
                    have flt := blk_lt HF.out
                    go_wp2_with fail
                    refine (HC.out _ (IsB.below H.out HI.out.2.2.2.1) HI.out.2.2.1).mono ?_
                    rintro e5 w5 ⟨rfl, hb5⟩
                    have HI5 := Lib.hid (HI.out.below hb5)
                    clear f0 f1 f2 flt
                    obtain ⟨s0, s1, s2, s3, s4, s5, s6, s7, s8, s9, s10, s11, s12, s13, s14, s15, s16, s17, s18, s19, s20⟩ := HI5.out.1.cells
                    have glt := blk_lt HI5.out.1
                    have gne : ¬ g = w5.heap.size := by omega
                    have sf := HI5.out.1.frozen
                    rcases Int.lt_trichotomy xb 0 with hx | hx | hx
                    · have y1 : decide (0 < xb) = false := decide_eq_false (by omega)
                      have y2 : decide (xb < 0) = true := decide_eq_true hx
                      have y3 : decide (xb = 0) = false := decide_eq_false (by omega)
                      cases hfl : S.hh
                      · have HST := Lib.hid (bstep_H (S := S) (c := ⟨j, k, p, q, xa, xb⟩) hx (.inl hfl))
                        rw [hfl] at s19
                        clear hfl
                        go_wp2
                        go_roundw
                        case rel =>
                          refine ⟨d + 1, hdn, by rw [HD1.out], ?_⟩
                          rw [HNX.out, HST.out]
                          exact (BInv.set_high HI5.out HNE.out hg1 ⟨j, k, p, q, xa, xb⟩ (by rw [← HST.out]; exact goodS_step HI5.out.2.1 ⟨x1, x2, x3, x4⟩)).alloc _
                        case measure => simp [intOf]; omega
                      · obtain ⟨gl1, gl2, gl3, gl4, gl5⟩ := HI5.out.2.1.2.1 hfl
                        have HLB := Lib.hid (fun W => lessBound_any (j : Int) (k : Int) (p : Int) (q : Int) xa xb S.high.j S.high.k S.high.p S.high.q S.high.a S.high.b W x1 x2 x3 x4 gl2 gl3 gl4 gl5 (by omega) (by omega))
                        obtain ⟨L, hL⟩ : ∃ L, lessC xa xb S.high.a S.high.b = L := ⟨_, rfl⟩
                        rw [hL] at HLB
                        have HFL := Lib.hid hfl
                        rw [hfl] at s19
                        clear hfl gl1 gl2 gl3 gl4 gl5
                        go_wp2_with fail
                        refine (HLB.out _).mono ?_
                        rintro e7 w7 ⟨rfl, hb7⟩
                        have HI7 := Lib.hid ((HI5.out.alloc _).below hb7)
                        have HO7 := Lib.hid (blk_call (blk_new w5 _) hb7)
                        have hz7 := hb7.size
                        simp at hz7
                        clear s0 s1 s2 s3 s4 s5 s6 s7 s8 s9 s10 s11 s12 s13 s14 s15 s16 s17 s18 s19 s20 sf HLB hb7
                        obtain ⟨s0, s1, s2, s3, s4, s5, s6, s7, s8, s9, s10, s11, s12, s13, s14, s15, s16, s17, s18, s19, s20⟩ := HI7.out.1.cells
                        have sf := HI7.out.1.frozen
                        have o0 := cellOf HO7.out 0
                        have o1 := cellOf HO7.out 1
                        have o2 := cellOf HO7.out 2
                        have o3 := cellOf HO7.out 3
                        have o4 := cellOf HO7.out 4
                        have o5 := cellOf HO7.out 5
                        simp at o0 o1 o2 o3 o4 o5
                        have glt7 := blk_lt HI7.out.1
                        have gne7 : ¬ w5.heap.size = g := by omega
                        rw [HFL.out] at s19
                        cases L
                        · have HST := Lib.hid (bstep_H' (S := S) (c := ⟨j, k, p, q, xa, xb⟩) hx HFL.out hL)
                          clear hL
                          go_wp2
                          go_roundw
                          case rel => exact ⟨d + 1, hdn, by rw [HD1.out], by rw [HNX.out, HST.out]; exact HI7.out⟩
                          case measure => simp [intOf]; omega
                        · have HST := Lib.hid (bstep_H (S := S) (c := ⟨j, k, p, q, xa, xb⟩) hx (.inr hL))
                          clear hL
                          go_wp2
                          go_roundw
                          case rel =>
                            refine ⟨d + 1, hdn, by rw [HD1.out], ?_⟩
                            rw [HNX.out, HST.out]
                            exact BInv.set_high HI7.out HNE.out hg1 ⟨j, k, p, q, xa, xb⟩ (by rw [← HST.out]; exact goodS_step HI5.out.2.1 ⟨x1, x2, x3, x4⟩)
                          case measure => simp [intOf]; omega
                    · subst hx
                      have y1 : decide ((0 : Int) < 0) = false := by decide
                      by_cases hxa : 0 < xa
                      · have y4 : decide (0 < xa) = true := decide_eq_true hxa
                        cases hfl : S.hn
                        · have HST := Lib.hid (bstep_N (S := S) (c := ⟨j, k, p, q, xa, 0⟩) rfl hxa hfl)
                          rw [hfl] at s20
                          clear hfl
                          go_wp2
                          go_roundw
                          case rel =>
                            refine ⟨d + 1, hdn, by rw [HD1.out], ?_⟩
                            rw [HNX.out, HST.out]
                            exact (BInv.set_never HI5.out HNE.out hg1 ⟨j, k, p, q, xa, 0⟩ (by rw [← HST.out]; exact goodS_step HI5.out.2.1 ⟨x1, x2, x3, x4⟩)).alloc _
                          case measure => simp [intOf]; omega
                        · have HST := Lib.hid (bstep_N' (S := S) (c := ⟨j, k, p, q, xa, 0⟩) rfl (.inr hfl))
                          rw [hfl] at s20
                          clear hfl
                          go_wp2
                          go_roundw
                          case rel => exact ⟨d + 1, hdn, by rw [HD1.out], by rw [HNX.out, HST.out]; exact HI5.out.alloc _⟩
                          case measure => simp [intOf]; omega
                      · have y4 : decide (0 < xa) = false := decide_eq_false hxa
                        have HST := Lib.hid (bstep_N' (S := S) (c := ⟨j, k, p, q, xa, 0⟩) rfl (.inl hxa))
                        go_wp2
                        go_roundw
                        case rel => exact ⟨d + 1, hdn, by rw [HD1.out], by rw [HNX.out, HST.out]; exact HI5.out.alloc _⟩
                        case measure => simp [intOf]; omega
                    · have y1 : decide (0 < xb) = true := decide_eq_true hx
                      have y2 : decide (xb < 0) = false := decide_eq_false (by omega)
                      have y3 : decide (xb = 0) = false := decide_eq_false (by omega)
                      cases hfl : S.hl
                      · have HST := Lib.hid (bstep_L (S := S) (c := ⟨j, k, p, q, xa, xb⟩) hx (.inl hfl))
                        rw [hfl] at s18
                        clear hfl
                        go_wp2
                        go_roundw
                        case rel =>
                          refine ⟨d + 1, hdn, by rw [HD1.out], ?_⟩
                          rw [HNX.out, HST.out]
                          exact (BInv.set_low HI5.out HNE.out hg1 ⟨j, k, p, q, xa, xb⟩ (by rw [← HST.out]; exact goodS_step HI5.out.2.1 ⟨x1, x2, x3, x4⟩)).alloc _
                        case measure => simp [intOf]; omega
                      · obtain ⟨gl1, gl2, gl3, gl4, gl5⟩ := HI5.out.2.1.1 hfl
                        have HLB := Lib.hid (fun W => lessBound_any S.low.j S.low.k S.low.p S.low.q S.low.a S.low.b (j : Int) (k : Int) (p : Int) (q : Int) xa xb W gl2 gl3 gl4 gl5 x1 x2 x3 x4 (by omega) (by omega))
                        obtain ⟨L, hL⟩ : ∃ L, lessC S.low.a S.low.b xa xb = L := ⟨_, rfl⟩
                        rw [hL] at HLB
                        have HFL := Lib.hid hfl
                        rw [hfl] at s18
                        clear hfl gl1 gl2 gl3 gl4 gl5
                        go_wp2_with fail
                        refine (HLB.out _).mono ?_
                        rintro e7 w7 ⟨rfl, hb7⟩
                        have HI7 := Lib.hid ((HI5.out.alloc _).below hb7)
                        have HO7 := Lib.hid (blk_call (blk_new w5 _) hb7)
                        have hz7 := hb7.size
                        simp at hz7
                        clear s0 s1 s2 s3 s4 s5 s6 s7 s8 s9 s10 s11 s12 s13 s14 s15 s16 s17 s18 s19 s20 sf HLB hb7
                        obtain ⟨s0, s1, s2, s3, s4, s5, s6, s7, s8, s9, s10, s11, s12, s13, s14, s15, s16, s17, s18, s19, s20⟩ := HI7.out.1.cells
                        have sf := HI7.out.1.frozen
                        have o0 := cellOf HO7.out 0
                        have o1 := cellOf HO7.out 1
                        have o2 := cellOf HO7.out 2
                        have o3 := cellOf HO7.out 3
                        have o4 := cellOf HO7.out 4
                        have o5 := cellOf HO7.out 5
                        simp at o0 o1 o2 o3 o4 o5
                        have glt7 := blk_lt HI7.out.1
                        have gne7 : ¬ w5.heap.size = g := by omega
                        rw [HFL.out] at s18
                        cases L
                        · have HST := Lib.hid (bstep_L' (S := S) (c := ⟨j, k, p, q, xa, xb⟩) hx HFL.out hL)
                          clear hL
                          go_wp2
                          go_roundw
                          case rel => exact ⟨d + 1, hdn, by rw [HD1.out], by rw [HNX.out, HST.out]; exact HI7.out⟩
                          case measure => simp [intOf]; omega
                        · have HST := Lib.hid (bstep_L (S := S) (c := ⟨j, k, p, q, xa, xb⟩) hx (.inr hL))
                          clear hL
                          go_wp2
                          go_roundw
                          case rel =>
                            refine ⟨d + 1, hdn, by rw [HD1.out], ?_⟩
                            rw [HNX.out, HST.out]
                            exact BInv.set_low HI7.out HNE.out hg1 ⟨j, k, p, q, xa, xb⟩ (by rw [← HST.out]; exact goodS_step HI5.out.2.1 ⟨x1, x2, x3, x4⟩)
                          case measure => simp [intOf]; omega
                  · have hlq' : ¬ (((p + 1 + d : Nat) : Int) < (n1 : Int)) := by omega
                    have HE : Hid (A ++ qJ ls lo hi n1 j k ++ qK ls lo hi n1 j k p ++ qP ls lo hi n1 j k p d = A ++ qJ ls lo hi n1 j k ++ qK ls lo hi n1 j k (p + 1)) := Lib.hid (by rw [HQ3.out, show n1 - 1 - p = d by omega]; simp only [List.append_assoc])
                    go_wp2
                    go_roundw
                    case rel => exact ⟨p + 1, by omega, by go_num, by rw [← HE.out]; exact HI.out⟩
                    case measure => simp [intOf]; omega
              · obtain rfl : p = n1 := by omega
                have HE : Hid (A ++ qJ ls lo hi p j k ++ qK ls lo hi p j k p = A ++ qJ ls lo hi p j (k + 1)) := Lib.hid (by rw [HQ2.out, List.append_assoc])
                go_wp2
                go_roundw
                case rel => exact ⟨k + 1, by omega, by go_num, by rw [← HE.out]; exact HI.out⟩
                case measure => simp [intOf]; omega
          · obtain rfl : k = j := by omega
            go_wp2
            go_roundw
            case rel => exact ⟨k + 1, by omega, by go_num, by rw [HQ1.out]; exact HI.out⟩
            case measure => simp [intOf]; omega
      · obtain rfl : j = n1 := by omega
        have HE : Hid (bfold (qAll ls lo hi j j) = bfind ls lo hi) := Lib.hid (by unfold bfind; rw [HLO.out])
        rw [HE.out] at HI
        obtain ⟨S, hSe⟩ : ∃ S, bfind ls lo hi = S := ⟨_, rfl⟩
        rw [hSe] at HI
        have HSE := Lib.hid hSe
        clear hSe HE
        obtain ⟨hG, hS, hRm, hB, hF, hR⟩ := HI.out
        have hAR : AtS (w.heap.size + 1) bnds0 wr := hR
        go_wp2_with (first | (refine wpList_loadS (by rfl) _ (by rfl) g S (by rfl) hG ?_) | (refine wpList_storeS (by rfl) _ _ (by rfl) (w.heap.size + 1) S bnds0 (by rfl) (by rfl) hAR ?_))
        have hAE : AtS (w.heap.size + 1) S (wr.setCells (w.heap.size + 1) 0 (bcells S).toList) := hAR.sets
        have hBE : Below w.heap.size w (wr.setCells (w.heap.size + 1) 0 (bcells S).toList) := below_sets _ hB (by omega) 0
        (try simp only [Exit.inBlock, Exit.then])
        refine bodyPost_ret (results_cell_row (p := 2) (ty := 87) rfl _ _ (w.heap.size + 1) 87 (bcells S) (0, 0) _ rfl hAE Try.underlying87 rfl (by rw [bcells_size]; exact size_bounds)) rfl ?_
        exact ⟨by rw [HSE.out], hBE⟩
end Go.Proofs.Ytklhaanapembdaa
