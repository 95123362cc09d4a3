/- Contracts of the laws' own functions on blocks (three slices of integers): toBlocks, eqBlocks, markBlocks, heldBlocks, szBlocks; and how blocks that came in are opened; conditions: the slices can be read, and are no longer than 2^20. -/
import Derived.Deep.Fields
import Derived.ChangeSame
import Derived.Test.YtklhaanapembdaaM14
import Derived.Test.YtklhaanapembdaaBlocks

namespace Go.Proofs.Ytklhaanapembdaa
open Go.ChangeShapes Go.WideShapes Go.ChangeAt Go.RowKit Go.Deep

theorem isRow_field {H : Type} {enc : TypeId × Value → H} {w : World} {base : Nat} {spare : Nat → Bool} {held : Bool} {t e : TypeId} {n : Nat} {v : Value} {y : DataW H × List MemPlace} (ht : Try.prog.underlying t = some (.slice e)) (he : Try.prog.underlying e = some (.int .i64)) (hc : Try.prog.cellsOf e = 1)
    (h : DataW.trod enc Try.prog w base spare held n t [v] = some y) : ∃ a len cap zs, v = .slice a len cap ∧ IsRow .i64 w a len cap zs := by
  rcases open_ints ht he hc h with ⟨hcs, _⟩ | ⟨x, l, c, zs, hcs, _, hl, hm, hz, _, hcell, hwz⟩
  · simp only [List.cons.injEq, and_true] at hcs
    exact ⟨none, 0, 0, [], hcs, isRow_nil⟩
  · simp only [List.cons.injEq, and_true] at hcs
    refine ⟨some x, l, c, zs.take l, hcs, ?_⟩
    by_cases hcap : zs.length = c
    · exact isRow_mk hl hm hcap hcell hwz
    · have hzl : zs.length = l := by split at hz <;> omega
      have := isRow_mk (Nat.le_refl l) (Nat.le_trans hl hm) hzl hcell hwz
      obtain ⟨r1, r2, r3, r4, r5⟩ := this
      exact ⟨r1, hl, hm, r4, r5⟩
/-- Blocks of the call's own, in [b, t): three slices with arrays of their own. -/
def OwnB (b t : Nat) (a0 a1 a2 : Option Addr) (n0 c0 n1 c1 n2 c2 : Nat) (ls lo hi : List Int) (w : World) : Prop :=
  OwnT w b t (.slice a0 n0 c0) ls ∧ OwnT w b t (.slice a1 n1 c1) lo ∧ OwnT w b t (.slice a2 n2 c2) hi ∧ Apart (.slice a0 n0 c0) (.slice a1 n1 c1) ∧ Apart (.slice a0 n0 c0) (.slice a2 n2 c2) ∧ Apart (.slice a1 n1 c1) (.slice a2 n2 c2)
theorem OwnB.isB {b t : Nat} {a0 a1 a2 : Option Addr} {n0 c0 n1 c1 n2 c2 : Nat} {ls lo hi : List Int} {w : World} (h : OwnB b t a0 a1 a2 n0 c0 n1 c1 n2 c2 ls lo hi w) : IsB a0 a1 a2 n0 c0 n1 c1 n2 c2 ls lo hi w := ⟨h.1.row, h.2.1.row, h.2.2.1.row⟩
theorem OwnB.below {b t : Nat} {a0 a1 a2 : Option Addr} {n0 c0 n1 c1 n2 c2 : Nat} {ls lo hi : List Int} {w w' : World} (h : OwnB b t a0 a1 a2 n0 c0 n1 c1 n2 c2 ls lo hi w) (hb : Below w.heap.size w w') : OwnB b t a0 a1 a2 n0 c0 n1 c1 n2 c2 ls lo hi w' := ⟨h.1.below hb, h.2.1.below hb, h.2.2.1.below hb, h.2.2.2⟩
theorem OwnB.alloc {b t : Nat} {a0 a1 a2 : Option Addr} {n0 c0 n1 c1 n2 c2 : Nat} {ls lo hi : List Int} {w : World} (h : OwnB b t a0 a1 a2 n0 c0 n1 c1 n2 c2 ls lo hi w) (o : Obj) : OwnB b t a0 a1 a2 n0 c0 n1 c1 n2 c2 ls lo hi (w.alloc o) := ⟨h.1.alloc o, h.2.1.alloc o, h.2.2.1.alloc o, h.2.2.2⟩
theorem OwnB.base {b b' t : Nat} {a0 a1 a2 : Option Addr} {n0 c0 n1 c1 n2 c2 : Nat} {ls lo hi : List Int} {w : World} (h : OwnB b t a0 a1 a2 n0 c0 n1 c1 n2 c2 ls lo hi w) (hb : b' ≤ b) : OwnB b' t a0 a1 a2 n0 c0 n1 c1 n2 c2 ls lo hi w := ⟨h.1.base hb, h.2.1.base hb, h.2.2.1.base hb, h.2.2.2⟩
theorem OwnB.outs {b t b' t' : Nat} {a0 a1 a2 : Option Addr} {n0 c0 n1 c1 n2 c2 : Nat} {ls lo hi : List Int} {w w' : World} (h : OwnB b t a0 a1 a2 n0 c0 n1 c1 n2 c2 ls lo hi w) (hO : Outs w w' b' t') (hd : t ≤ b' ∨ t' ≤ b) : OwnB b t a0 a1 a2 n0 c0 n1 c1 n2 c2 ls lo hi w' := ⟨h.1.outs hO hd, h.2.1.outs hO hd, h.2.2.1.outs hO hd, h.2.2.2⟩
/-- A call that hands back new blocks. -/
def NewB (n0 n1 n2 : Nat) (ls lo hi : List Int) (w : World) (e : Ending) (w' : World) : Prop :=
  ∃ a0 a1 a2 c0 c1 c2, e = .returned (.agg #[.slice a0 n0 c0, .slice a1 n1 c1, .slice a2 n2 c2]) ∧ OwnB w.heap.size w'.heap.size a0 a1 a2 n0 c0 n1 c1 n2 c2 ls lo hi w' ∧ Below w.heap.size w w'
/-- The same behind a code. -/
def NewBC (n0 n1 n2 : Nat) (ls lo hi : List Int) (code : Int) (w : World) (e : Ending) (w' : World) : Prop :=
  ∃ a0 a1 a2 c0 c1 c2, e = .returned (.tuple #[.agg #[.slice a0 n0 c0, .slice a1 n1 c1, .slice a2 n2 c2], .int .i64 code]) ∧ OwnB w.heap.size w'.heap.size a0 a1 a2 n0 c0 n1 c1 n2 c2 ls lo hi w' ∧ Below w.heap.size w w'
set_option maxHeartbeats 1000000 in
theorem toBlocks_any (a0 a1 a2 : Option Addr) (n0 c0 n1 c1 n2 c2 : Nat) (ls lo hi : List Int) (w : World) (h : IsB a0 a1 a2 n0 c0 n1 c1 n2 c2 ls lo hi w) (h0 : n0 ≤ 1048576) (h1 : n1 ≤ 1048576) (h2 : n2 ≤ 1048576) :
    Calls Try.prog 42 #[.agg #[.slice a0 n0 c0, .slice a1 n1 c1, .slice a2 n2 c2]] w (NewB n0 n1 n2 ls lo hi w) := by
  have H := Lib.hid h
  clear h
  go_enter Try.func42, Try.ntmps42
  go_wp2_with fail
  refine (toT _ _ _ _ _ ((H.out).below (by repeat (first | exact Below.refl _ _ | assumption | refine Below.drew ?_ | refine below_drewN ?_ _ | refine Below.alloc ?_ (by first | omega | (simp; done) | (simp; omega)) _ | refine Below.setCell ?_ (by first | omega | (simp; done) | (simp; omega)) _))).1 h0).mono ?_
  rintro e1 w1 ⟨x0, k0, rfl, hO0, hb1⟩
  have hz1 := hb1.size
  try simp at hz1
  have ha1 : Below w.heap.size w w1 := below_call (by repeat (first | exact Below.refl _ _ | assumption | refine Below.drew ?_ | refine below_drewN ?_ _ | refine Below.alloc ?_ (by first | omega | (simp; done) | (simp; omega)) _ | refine Below.setCell ?_ (by first | omega | (simp; done) | (simp; omega)) _)) hb1
  have O0 := Lib.hid (hO0.base (b' := w.heap.size + 1 + 1 + 1) (by simp))
  have F1 := Lib.hid (blk_call (blk_alloc (blk_alloc (blk_new w _))) hb1)
  have R1 : Hid (w1.heap[w.heap.size + 1]? = some _) := Lib.hid (blk_call (blk_alloc (blk_new' _ _ (by simp))) hb1)
  have Q1 : Hid (w1.heap[w.heap.size + 1 + 1]? = some _) := Lib.hid (blk_call (blk_new' _ _ (by simp)) hb1)
  have f1 := cellOf F1.out 1
  have q0 := cellOf Q1.out 0
  have qf0 := frozenOf Q1.out 0
  simp at f1 q0
  have flt1 : w.heap.size < w1.heap.size := by omega
  clear hO0
  go_wp2_with fail
  refine (toT _ _ _ _ _ ((H.out).below (by repeat (first | exact Below.refl _ _ | assumption | refine Below.drew ?_ | refine below_drewN ?_ _ | refine Below.alloc ?_ (by first | omega | (simp; done) | (simp; omega)) _ | refine Below.setCell ?_ (by first | omega | (simp; done) | (simp; omega)) _))).2.1 h1).mono ?_
  rintro e2 w2 ⟨x1, k1, rfl, hO1, hb2⟩
  have hz2 := hb2.size
  try simp at hz2
  have ha2 : Below w.heap.size w w2 := below_call (by repeat (first | exact Below.refl _ _ | assumption | refine Below.drew ?_ | refine below_drewN ?_ _ | refine Below.alloc ?_ (by first | omega | (simp; done) | (simp; omega)) _ | refine Below.setCell ?_ (by first | omega | (simp; done) | (simp; omega)) _)) hb2
  have O0' := Lib.hid (OwnT.below (O0.out.setCell (p := ⟨w.heap.size + 1 + 1, 0, none⟩) (Nat.lt_succ_self _) _) hb2)
  have A01 : Hid (Apart (.slice x0 n0 k0) (.slice x1 n1 k1)) := Lib.hid (apart_new (O0.out.setCell (p := ⟨w.heap.size + 1 + 1, 0, none⟩) (Nat.lt_succ_self _) _).1 hO1.1 (Nat.le_refl _))
  have O1 := Lib.hid (hO1.base (b' := w.heap.size + 1 + 1 + 1) (by simp; omega))
  have F2 := Lib.hid (blk_call (blk_far F1.out (by first | (simp; done) | (simp; omega)) _) hb2)
  have R2 : Hid (w2.heap[w.heap.size + 1]? = some _) := Lib.hid (blk_call (blk_far R1.out (by first | (simp; done) | (simp; omega)) _) hb2)
  have Q2 : Hid (w2.heap[w.heap.size + 1 + 1]? = some _) := Lib.hid (blk_call (blk_set Q1.out _ _) hb2)
  clear hO1 f1 q0 qf0 O0
  have f2 := cellOf F2.out 2
  have q1 := cellOf Q2.out 1
  have qf1 := frozenOf Q2.out 1
  simp at f2 q1
  have flt2 : w.heap.size < w2.heap.size := by omega
  go_wp2_with fail
  refine (toT _ _ _ _ _ ((H.out).below (by repeat (first | exact Below.refl _ _ | assumption | refine Below.drew ?_ | refine below_drewN ?_ _ | refine Below.alloc ?_ (by first | omega | (simp; done) | (simp; omega)) _ | refine Below.setCell ?_ (by first | omega | (simp; done) | (simp; omega)) _))).2.2 h2).mono ?_
  rintro e3 w3 ⟨x2, k2, rfl, hO2, hb3⟩
  have hz3 := hb3.size
  try simp at hz3
  have ha3 : Below w.heap.size w w3 := below_call (by repeat (first | exact Below.refl _ _ | assumption | refine Below.drew ?_ | refine below_drewN ?_ _ | refine Below.alloc ?_ (by first | omega | (simp; done) | (simp; omega)) _ | refine Below.setCell ?_ (by first | omega | (simp; done) | (simp; omega)) _)) hb3
  have O0'' := Lib.hid (OwnT.below (O0'.out.setCell (p := ⟨w.heap.size + 1 + 1, 1, none⟩) (Nat.lt_succ_self _) _) hb3)
  have O1'' := Lib.hid (OwnT.below (O1.out.setCell (p := ⟨w.heap.size + 1 + 1, 1, none⟩) (Nat.lt_succ_self _) _) hb3)
  have A02 : Hid (Apart (.slice x0 n0 k0) (.slice x2 n2 k2)) := Lib.hid (apart_new (O0'.out.setCell (p := ⟨w.heap.size + 1 + 1, 1, none⟩) (Nat.lt_succ_self _) _).1 hO2.1 (Nat.le_refl _))
  have A12 : Hid (Apart (.slice x1 n1 k1) (.slice x2 n2 k2)) := Lib.hid (apart_new (O1.out.setCell (p := ⟨w.heap.size + 1 + 1, 1, none⟩) (Nat.lt_succ_self _) _).1 hO2.1 (Nat.le_refl _))
  have O2 := Lib.hid (hO2.base (b' := w.heap.size + 1 + 1 + 1) (by simp; omega))
  have R3 : Hid (w3.heap[w.heap.size + 1]? = some _) := Lib.hid (blk_call (blk_far R2.out (by first | (simp; done) | (simp; omega)) _) hb3)
  have Q3 : Hid (w3.heap[w.heap.size + 1 + 1]? = some _) := Lib.hid (blk_call (blk_set Q2.out _ _) hb3)
  clear hO2 f2 q1 qf1 O0' O1
  have q0 := cellOf Q3.out 0
  have q1 := cellOf Q3.out 1
  have q2 := cellOf Q3.out 2
  have qf2 := frozenOf Q3.out 2
  have r0 := cellOf R3.out 0
  have r1 := cellOf R3.out 1
  have r2 := cellOf R3.out 2
  have rf0 := frozenOf R3.out 0
  have rf1 := frozenOf R3.out 1
  have rf2 := frozenOf R3.out 2
  simp at q0 q1 q2 r0 r1 r2
  have flt3 : w.heap.size + 1 + 1 < w3.heap.size := by omega
  go_wp2
  refine bodyPost_ret (v := .agg #[.slice x0 n0 k0, .slice x1 n1 k1, .slice x2 n2 k2]) (by simp [results, Try.results42, go_sem, *]) rfl ?_
  refine ⟨x0, x1, x2, k0, k1, k2, rfl, ⟨?_, ?_, ?_, A01.out, A02.out, A12.out⟩, (by repeat (first | exact Below.refl _ _ | assumption | refine Below.drew ?_ | refine below_drewN ?_ _ | refine Below.alloc ?_ (by first | omega | (simp; done) | (simp; omega)) _ | refine Below.setCell ?_ (by first | omega | (simp; done) | (simp; omega)) _))⟩
  · refine OwnT.top (OwnT.base (b := w.heap.size + 1 + 1 + 1) ?_ (by omega)) (t := w1.heap.size) ?_
    · repeat (refine OwnT.setCell ?_ (by first | omega | (simp; done) | (simp; omega)) _)
      exact O0''.out
    · simp; omega
  · refine OwnT.top (OwnT.base (b := w.heap.size + 1 + 1 + 1) ?_ (by omega)) (t := w2.heap.size) ?_
    · repeat (refine OwnT.setCell ?_ (by first | omega | (simp; done) | (simp; omega)) _)
      exact O1''.out
    · simp; omega
  · refine OwnT.top (OwnT.base (b := w.heap.size + 1 + 1 + 1) ?_ (by omega)) (t := w3.heap.size) ?_
    · repeat (refine OwnT.setCell ?_ (by first | omega | (simp; done) | (simp; omega)) _)
      exact O2.out
    · simp
set_option maxHeartbeats 1000000 in
theorem eqBlocks_same (a0 a1 a2 x0 x1 x2 : Option Addr) (n0 c0 n1 c1 n2 c2 y0 y1 y2 : Nat) (ls lo hi : List Int) (w : World) (h : IsB a0 a1 a2 n0 c0 n1 c1 n2 c2 ls lo hi w) (h' : IsB x0 x1 x2 n0 y0 n1 y1 n2 y2 ls lo hi w) :
    Calls Try.prog 44 #[.agg #[.slice a0 n0 c0, .slice a1 n1 c1, .slice a2 n2 c2], .agg #[.slice x0 n0 y0, .slice x1 n1 y1, .slice x2 n2 y2]] w fun e w' => e = .returned (.bool true) ∧ Below w.heap.size w w' := by
  have H := Lib.hid h
  have H' := Lib.hid h'
  clear h h'
  go_enter Try.func44, Try.ntmps44
  go_wp2_with fail
  refine (eqInt64S_same _ _ _ _ _ _ _ (H.out.below (by repeat (first | exact Below.refl _ _ | assumption | refine Below.drew ?_ | refine below_drewN ?_ _ | refine Below.alloc ?_ (by first | omega | (simp; done) | (simp; omega)) _ | refine Below.setCell ?_ (by first | omega | (simp; done) | (simp; omega)) _))).1 (H'.out.below (by repeat (first | exact Below.refl _ _ | assumption | refine Below.drew ?_ | refine below_drewN ?_ _ | refine Below.alloc ?_ (by first | omega | (simp; done) | (simp; omega)) _ | refine Below.setCell ?_ (by first | omega | (simp; done) | (simp; omega)) _))).1).mono ?_
  rintro e1 w1 ⟨rfl, hb1⟩
  obtain ⟨hc1, hf1⟩ := bcell hb1
  have hz1 := hb1.size
  try simp at hz1
  have hz1_0 : w.heap.size < w1.heap.size := by omega
  have hz1_1 : w.heap.size + 1 < w1.heap.size := by omega
  have ha1 : Below w.heap.size w w1 := below_call (by repeat (first | exact Below.refl _ _ | assumption | refine Below.drew ?_ | refine below_drewN ?_ _ | refine Below.alloc ?_ (by first | omega | (simp; done) | (simp; omega)) _ | refine Below.setCell ?_ (by first | omega | (simp; done) | (simp; omega)) _)) hb1
  have F : Hid (w1.heap[w.heap.size]? = some _) := blk_call (by first | (refine blk_new' _ _ ?_; simp; done) | (refine blk_alloc (blk_new' _ _ ?_); simp; done) | (refine blk_alloc (blk_alloc (blk_new' _ _ ?_)); simp; done)) hb1
  have F_0 := cellOf F.out 0
  simp at F_0
  have F_1 := cellOf F.out 1
  simp at F_1
  have F_2 := cellOf F.out 2
  simp at F_2
  have F_lt := blk_lt F.out
  have F_le := Nat.le_of_lt F_lt
  have F_l1 := Nat.le_succ_of_le F_le
  have G : Hid (w1.heap[w.heap.size + 1]? = some _) := blk_call (by first | (refine blk_new' _ _ ?_; simp; done) | (refine blk_alloc (blk_new' _ _ ?_); simp; done) | (refine blk_alloc (blk_alloc (blk_new' _ _ ?_)); simp; done)) hb1
  have G_0 := cellOf G.out 0
  simp at G_0
  have G_1 := cellOf G.out 1
  simp at G_1
  have G_2 := cellOf G.out 2
  simp at G_2
  have G_lt := blk_lt G.out
  have G_le := Nat.le_of_lt G_lt
  have G_l1 := Nat.le_succ_of_le G_le
  go_wp2_with fail
  refine (eqInt64S_same _ _ _ _ _ _ _ (H.out.below (by repeat (first | exact Below.refl _ _ | assumption | refine Below.drew ?_ | refine below_drewN ?_ _ | refine Below.alloc ?_ (by first | omega | (simp; done) | (simp; omega)) _ | refine Below.setCell ?_ (by first | omega | (simp; done) | (simp; omega)) _))).2.1 (H'.out.below (by repeat (first | exact Below.refl _ _ | assumption | refine Below.drew ?_ | refine below_drewN ?_ _ | refine Below.alloc ?_ (by first | omega | (simp; done) | (simp; omega)) _ | refine Below.setCell ?_ (by first | omega | (simp; done) | (simp; omega)) _))).2.1).mono ?_
  rintro e2 w2 ⟨rfl, hb2⟩
  obtain ⟨hc2, hf2⟩ := bcell hb2
  have hz2 := hb2.size
  try simp at hz2
  have ha2 : Below w.heap.size w w2 := below_call (by repeat (first | exact Below.refl _ _ | assumption | refine Below.drew ?_ | refine below_drewN ?_ _ | refine Below.alloc ?_ (by first | omega | (simp; done) | (simp; omega)) _ | refine Below.setCell ?_ (by first | omega | (simp; done) | (simp; omega)) _)) hb2
  replace F := Lib.hid (blk_call (by first | exact F.out | exact blk_alloc F.out | exact blk_alloc (blk_alloc F.out)) hb2)
  replace F_0 := cellOf F.out 0
  simp at F_0
  replace F_1 := cellOf F.out 1
  simp at F_1
  replace F_2 := cellOf F.out 2
  simp at F_2
  replace F_lt := blk_lt F.out
  replace F_le := Nat.le_of_lt F_lt
  replace F_l1 := Nat.le_succ_of_le F_le
  replace G := Lib.hid (blk_call (by first | exact G.out | exact blk_alloc G.out | exact blk_alloc (blk_alloc G.out)) hb2)
  replace G_0 := cellOf G.out 0
  simp at G_0
  replace G_1 := cellOf G.out 1
  simp at G_1
  replace G_2 := cellOf G.out 2
  simp at G_2
  replace G_lt := blk_lt G.out
  replace G_le := Nat.le_of_lt G_lt
  replace G_l1 := Nat.le_succ_of_le G_le
  go_wp2_with fail
  refine (eqInt64S_same _ _ _ _ _ _ _ (H.out.below (by repeat (first | exact Below.refl _ _ | assumption | refine Below.drew ?_ | refine below_drewN ?_ _ | refine Below.alloc ?_ (by first | omega | (simp; done) | (simp; omega)) _ | refine Below.setCell ?_ (by first | omega | (simp; done) | (simp; omega)) _))).2.2 (H'.out.below (by repeat (first | exact Below.refl _ _ | assumption | refine Below.drew ?_ | refine below_drewN ?_ _ | refine Below.alloc ?_ (by first | omega | (simp; done) | (simp; omega)) _ | refine Below.setCell ?_ (by first | omega | (simp; done) | (simp; omega)) _))).2.2).mono ?_
  rintro e3 w3 ⟨rfl, hb3⟩
  obtain ⟨hc3, hf3⟩ := bcell hb3
  have hz3 := hb3.size
  try simp at hz3
  have ha3 : Below w.heap.size w w3 := below_call (by repeat (first | exact Below.refl _ _ | assumption | refine Below.drew ?_ | refine below_drewN ?_ _ | refine Below.alloc ?_ (by first | omega | (simp; done) | (simp; omega)) _ | refine Below.setCell ?_ (by first | omega | (simp; done) | (simp; omega)) _)) hb3
  go_wp2
  go_ret
  exact ⟨rfl, (by repeat (first | exact Below.refl _ _ | assumption | refine Below.drew ?_ | refine below_drewN ?_ _ | refine Below.alloc ?_ (by first | omega | (simp; done) | (simp; omega)) _ | refine Below.setCell ?_ (by first | omega | (simp; done) | (simp; omega)) _))⟩
set_option maxHeartbeats 1000000 in
theorem heldBlocks_any (a0 a1 a2 : Option Addr) (n0 c0 n1 c1 n2 c2 : Nat) (k0 : Int) (w : World) (h : IsB a0 a1 a2 n0 c0 n1 c1 n2 c2 (marks k0 n0) (marks (k0 + n0) n1) (marks (k0 + n0 + n1) n2) w) (hk0 : 0 ≤ k0) (hk1 : k0 ≤ 100000000) (h0 : n0 ≤ 100000000) (h1 : n1 ≤ 100000000) (h2 : n2 ≤ 100000000) :
    Calls Try.prog 54 #[.agg #[.slice a0 n0 c0, .slice a1 n1 c1, .slice a2 n2 c2], .int .i64 k0] w fun e w' => e = .returned (.int .i64 (k0 + n0 + n1 + n2)) ∧ Below w.heap.size w w' := by
  have H := Lib.hid h
  have g1 : ¬ (k0 + (n0 : Int) < 0) := by omega
  have g2 : ¬ (k0 + (n0 : Int) + (n1 : Int) < 0) := by omega
  have g3 : ¬ (k0 + (n0 : Int) + (n1 : Int) + (n2 : Int) < 0) := by omega
  clear h
  go_enter Try.func54, Try.ntmps54
  go_wp2_with fail
  refine (heldInt64S_any _ _ _ _ _ (H.out.below (by repeat (first | exact Below.refl _ _ | assumption | refine Below.drew ?_ | refine below_drewN ?_ _ | refine Below.alloc ?_ (by first | omega | (simp; done) | (simp; omega)) _ | refine Below.setCell ?_ (by first | omega | (simp; done) | (simp; omega)) _))).1 (by omega) (by omega) (by omega)).mono ?_
  rintro e1 w1 ⟨rfl, rfl⟩
  go_wp2_with fail
  refine (heldInt64S_any _ _ _ _ _ (H.out.below (by repeat (first | exact Below.refl _ _ | assumption | refine Below.drew ?_ | refine below_drewN ?_ _ | refine Below.alloc ?_ (by first | omega | (simp; done) | (simp; omega)) _ | refine Below.setCell ?_ (by first | omega | (simp; done) | (simp; omega)) _))).2.1 (by omega) (by omega) (by omega)).mono ?_
  rintro e2 w2 ⟨rfl, rfl⟩
  go_wp2_with fail
  refine (heldInt64S_any _ _ _ _ _ (H.out.below (by repeat (first | exact Below.refl _ _ | assumption | refine Below.drew ?_ | refine below_drewN ?_ _ | refine Below.alloc ?_ (by first | omega | (simp; done) | (simp; omega)) _ | refine Below.setCell ?_ (by first | omega | (simp; done) | (simp; omega)) _))).2.2 (by omega) (by omega) (by omega)).mono ?_
  rintro e3 w3 ⟨rfl, rfl⟩
  go_wp2
  go_ret
  exact ⟨rfl, (by repeat (first | exact Below.refl _ _ | assumption | refine Below.drew ?_ | refine below_drewN ?_ _ | refine Below.alloc ?_ (by first | omega | (simp; done) | (simp; omega)) _ | refine Below.setCell ?_ (by first | omega | (simp; done) | (simp; omega)) _))⟩
set_option maxHeartbeats 1000000 in
theorem markBlocks_any (b t : Nat) (a0 a1 a2 : Option Addr) (n0 c0 n1 c1 n2 c2 : Nat) (ls lo hi : List Int) (k0 : Int) (w : World) (h : OwnB b t a0 a1 a2 n0 c0 n1 c1 n2 c2 ls lo hi w) (hb : t ≤ w.heap.size) (hk0 : 0 ≤ k0) (hk1 : k0 ≤ 100000000) (h0 : n0 ≤ 100000000) (h1 : n1 ≤ 100000000) (h2 : n2 ≤ 100000000) :
    Calls Try.prog 48 #[.agg #[.slice a0 n0 c0, .slice a1 n1 c1, .slice a2 n2 c2], .int .i64 k0] w fun e w' => e = .returned (.int .i64 (k0 + n0 + n1 + n2)) ∧ OwnB b t a0 a1 a2 n0 c0 n1 c1 n2 c2 (marks k0 n0) (marks (k0 + n0) n1) (marks (k0 + n0 + n1) n2) w' ∧ Outs w w' b t := by
  obtain ⟨o0, o1, o2, p0, p1, p2⟩ := h
  have O0 := Lib.hid o0
  have O1 := Lib.hid o1
  have O2 := Lib.hid o2
  have P0 := Lib.hid p0
  have P1 := Lib.hid p1
  have P2 := Lib.hid p2
  clear o0 o1 o2 p0 p1 p2
  go_enter Try.func48, Try.ntmps48
  go_wp2_with fail
  refine (markInt64S_any b _ _ _ _ _ _ (O0.out.1.alloc _) (by omega) (by omega) (by omega)).mono ?_
  rintro e1 w1 ⟨rfl, hO1, hG1⟩
  have U1 := Lib.hid ((O0.out.alloc _).marked hG1)
  have F1 := Lib.hid (blk_outs (blk_new w _) U1.out (.inr hb))
  have f1 := cellOf F1.out 1
  simp at f1
  have hz1 := U1.out.size
  simp at hz1
  have flt1 : w.heap.size < w1.heap.size := by omega
  have M0 : Hid (OwnT w1 b t (.slice a0 n0 c0) (marks k0 n0)) := Lib.hid ⟨hO1, O0.out.2⟩
  have M1 : Hid (OwnT w1 b t (.slice a1 n1 c1) lo) := Lib.hid ⟨OwnI.keptM (O1.out.1.alloc _) hG1 P0.out.symm.ne, O1.out.2⟩
  have M2 : Hid (OwnT w1 b t (.slice a2 n2 c2) hi) := Lib.hid ⟨OwnI.keptM (O2.out.1.alloc _) hG1 P1.out.symm.ne, O2.out.2⟩
  clear hO1 hG1
  go_wp2_with fail
  refine (markInt64S_any b _ _ _ _ _ _ M1.out.1 (by omega) (by omega) (by omega)).mono ?_
  rintro e2 w2 ⟨rfl, hO2, hG2⟩
  have U2 := Lib.hid (U1.out.trans (M1.out.marked hG2))
  have F2 := Lib.hid (blk_outs F1.out (M1.out.marked hG2) (.inr hb))
  have f2 := cellOf F2.out 2
  simp at f2
  have hz2 := hG2.size
  have flt2 : w.heap.size < w2.heap.size := by omega
  have N0 : Hid (OwnT w2 b t (.slice a0 n0 c0) (marks k0 n0)) := Lib.hid ⟨OwnI.keptM M0.out.1 hG2 P0.out.ne, O0.out.2⟩
  have N1 : Hid (OwnT w2 b t (.slice a1 n1 c1) (marks (k0 + n0) n1)) := Lib.hid ⟨hO2, O1.out.2⟩
  have N2 : Hid (OwnT w2 b t (.slice a2 n2 c2) hi) := Lib.hid ⟨OwnI.keptM M2.out.1 hG2 P2.out.symm.ne, O2.out.2⟩
  clear hO2 hG2 f1
  go_wp2_with fail
  refine (markInt64S_any b _ _ _ _ _ _ N2.out.1 (by omega) (by omega) (by omega)).mono ?_
  rintro e3 w3 ⟨rfl, hO3, hG3⟩
  have U3 := Lib.hid (U2.out.trans (N2.out.marked hG3))
  have Q0 : Hid (OwnT w3 b t (.slice a0 n0 c0) (marks k0 n0)) := Lib.hid ⟨OwnI.keptM N0.out.1 hG3 P1.out.ne, O0.out.2⟩
  have Q1 : Hid (OwnT w3 b t (.slice a1 n1 c1) (marks (k0 + n0) n1)) := Lib.hid ⟨OwnI.keptM N1.out.1 hG3 P2.out.ne, O1.out.2⟩
  have Q2 : Hid (OwnT w3 b t (.slice a2 n2 c2) (marks (k0 + n0 + n1) n2)) := Lib.hid ⟨hO3, O2.out.2⟩
  clear hO3 hG3
  go_wp2
  go_ret
  exact ⟨rfl, ⟨Q0.out, Q1.out, Q2.out, P0.out, P1.out, P2.out⟩, alloc_outs.trans U3.out⟩
set_option maxHeartbeats 1000000 in
theorem szInt64S_any (a : Option Addr) (len cap : Nat) (left : Int) (w : World) (h1 : 0 ≤ left) (h2 : left ≤ 1048576) (hlen : len ≤ maxLen) :
    Calls Try.prog 97 #[.slice a len cap, .int .i64 left] w fun e w' => e = .returned (.int .i64 (if left - (len : Int) < 0 then -1 else left - (len : Int))) ∧ w = w' := by
  unfold maxLen at hlen
  by_cases g : left - (len : Int) < 0
  · rw [if_pos g]
    go_enter Try.func97, Try.ntmps97
    go_wp2
    go_ret
    exact ⟨rfl, rfl⟩
  · rw [if_neg g]
    go_enter Try.func97, Try.ntmps97
    go_wp2
    go_ret
    exact ⟨rfl, rfl⟩
set_option maxHeartbeats 1000000 in
theorem szBlocks_fits (a0 a1 a2 : Option Addr) (n0 c0 n1 c1 n2 c2 : Nat) (ls lo hi : List Int) (w : World) (h : IsB a0 a1 a2 n0 c0 n1 c1 n2 c2 ls lo hi w) (hs : n0 + n1 + n2 ≤ 1048576) :
    Calls Try.prog 40 #[.agg #[.slice a0 n0 c0, .slice a1 n1 c1, .slice a2 n2 c2], .int .i64 1048576] w fun e w' => e = .returned (.int .i64 (1048576 - (n0 : Int) - (n1 : Int) - (n2 : Int))) ∧ Below w.heap.size w w' := by
  have m0 : n0 ≤ maxLen := Nat.le_trans h.1.2.1 h.1.2.2.1
  have m1 : n1 ≤ maxLen := Nat.le_trans h.2.1.2.1 h.2.1.2.2.1
  have m2 : n2 ≤ maxLen := Nat.le_trans h.2.2.2.1 h.2.2.2.2.1
  have M0 := Lib.hid (fun W => szInt64S_any a0 n0 c0 1048576 W (by omega) (by omega) m0)
  have M1 := Lib.hid (fun W => szInt64S_any a1 n1 c1 (1048576 - (n0 : Int)) W (by omega) (by omega) m1)
  have M2 := Lib.hid (fun W => szInt64S_any a2 n2 c2 (1048576 - (n0 : Int) - (n1 : Int)) W (by omega) (by omega) m2)
  rw [if_neg (by omega)] at M0 M1 M2
  have g0 : ¬ (1048576 - (n0 : Int) < 0) := by omega
  have g1 : ¬ (1048576 - (n0 : Int) - (n1 : Int) < 0) := by omega
  have g2 : ¬ (1048576 - (n0 : Int) - (n1 : Int) - (n2 : Int) < 0) := by omega
  clear h m0 m1 m2
  go_enter Try.func40, Try.ntmps40
  go_wp2_with fail
  refine (M0.out _).mono ?_
  rintro e1 w1 ⟨rfl, rfl⟩
  go_wp2_with fail
  refine (M1.out _).mono ?_
  rintro e2 w2 ⟨rfl, rfl⟩
  go_wp2_with fail
  refine (M2.out _).mono ?_
  rintro e3 w3 ⟨rfl, rfl⟩
  go_wp2
  go_ret
  exact ⟨rfl, (by repeat (first | exact Below.refl _ _ | assumption | refine Below.drew ?_ | refine below_drewN ?_ _ | refine Below.alloc ?_ (by first | omega | (simp; done) | (simp; omega)) _ | refine Below.setCell ?_ (by first | omega | (simp; done) | (simp; omega)) _))⟩
set_option maxHeartbeats 1000000 in
theorem szBlocks_big (a0 a1 a2 : Option Addr) (n0 c0 n1 c1 n2 c2 : Nat) (ls lo hi : List Int) (w : World) (h : IsB a0 a1 a2 n0 c0 n1 c1 n2 c2 ls lo hi w) (hs : 1048576 < n0 + n1 + n2) :
    Calls Try.prog 40 #[.agg #[.slice a0 n0 c0, .slice a1 n1 c1, .slice a2 n2 c2], .int .i64 1048576] w fun e w' => e = .returned (.int .i64 (-1)) ∧ Below w.heap.size w w' := by
  have m0 : n0 ≤ maxLen := Nat.le_trans h.1.2.1 h.1.2.2.1
  have m1 : n1 ≤ maxLen := Nat.le_trans h.2.1.2.1 h.2.1.2.2.1
  have m2 : n2 ≤ maxLen := Nat.le_trans h.2.2.2.1 h.2.2.2.2.1
  have M0 := Lib.hid (fun W => szInt64S_any a0 n0 c0 1048576 W (by omega) (by omega) m0)
  by_cases g0 : 1048576 - (n0 : Int) < 0
  · rw [if_pos g0] at M0
    clear h m0 m1 m2 hs g0
    go_enter Try.func40, Try.ntmps40
    go_wp2_with fail
    refine (M0.out _).mono ?_
    rintro e1 w1 ⟨rfl, rfl⟩
    go_wp2
    go_ret
    exact ⟨rfl, (by repeat (first | exact Below.refl _ _ | assumption | refine Below.drew ?_ | refine below_drewN ?_ _ | refine Below.alloc ?_ (by first | omega | (simp; done) | (simp; omega)) _ | refine Below.setCell ?_ (by first | omega | (simp; done) | (simp; omega)) _))⟩
  · rw [if_neg g0] at M0
    have M1 := Lib.hid (fun W => szInt64S_any a1 n1 c1 (1048576 - (n0 : Int)) W (by omega) (by omega) m1)
    by_cases g1 : 1048576 - (n0 : Int) - (n1 : Int) < 0
    · rw [if_pos g1] at M1
      clear h m0 m1 m2 hs g1
      go_enter Try.func40, Try.ntmps40
      go_wp2_with fail
      refine (M0.out _).mono ?_
      rintro e1 w1 ⟨rfl, rfl⟩
      go_wp2_with fail
      refine (M1.out _).mono ?_
      rintro e2 w2 ⟨rfl, rfl⟩
      go_wp2
      go_ret
      exact ⟨rfl, (by repeat (first | exact Below.refl _ _ | assumption | refine Below.drew ?_ | refine below_drewN ?_ _ | refine Below.alloc ?_ (by first | omega | (simp; done) | (simp; omega)) _ | refine Below.setCell ?_ (by first | omega | (simp; done) | (simp; omega)) _))⟩
    · rw [if_neg g1] at M1
      have M2 := Lib.hid (fun W => szInt64S_any a2 n2 c2 (1048576 - (n0 : Int) - (n1 : Int)) W (by omega) (by omega) m2)
      rw [if_pos (by omega)] at M2
      clear h m0 m1 m2 hs
      go_enter Try.func40, Try.ntmps40
      go_wp2_with fail
      refine (M0.out _).mono ?_
      rintro e1 w1 ⟨rfl, rfl⟩
      go_wp2_with fail
      refine (M1.out _).mono ?_
      rintro e2 w2 ⟨rfl, rfl⟩
      go_wp2_with fail
      refine (M2.out _).mono ?_
      rintro e3 w3 ⟨rfl, rfl⟩
      go_wp2
      go_ret
      exact ⟨rfl, (by repeat (first | exact Below.refl _ _ | assumption | refine Below.drew ?_ | refine below_drewN ?_ _ | refine Below.alloc ?_ (by first | omega | (simp; done) | (simp; omega)) _ | refine Below.setCell ?_ (by first | omega | (simp; done) | (simp; omega)) _))⟩
end Go.Proofs.Ytklhaanapembdaa
