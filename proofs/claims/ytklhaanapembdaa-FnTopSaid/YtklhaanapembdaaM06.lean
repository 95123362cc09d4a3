/- Contracts of the functions on conditions of four joints, the reference's: its numbers, and which bound is less; no old memory turns; conditions: valid blocks that can be read, joints in their ranges. -/
import Derived.Deep.DrawnRows
import Derived.Deep.AppendLies
import Derived.Test.YtklhaanapembdaaCond
import Derived.Test.YtklhaanapembdaaM04

namespace Go.Proofs.Ytklhaanapembdaa
open Go.RowKit

theorem blkDc {w : World} {g : Nat} {o : Obj} (h : w.heap[g]? = some o) : w.drew.heap[g]? = some o := h
attribute [local go_sem ↓] Go.wp_at_zero Go.wp_at_succ
set_option maxRecDepth 100000 in
set_option maxHeartbeats 4000000 in
theorem l13Condition_any (g : Nat) (a0 a1 a2 : Option Addr) (n0 c0 n1 c1 n2 c2 : Nat) (ls lo hi : List Int) (am : Option Addr) (cm : Nat) (j k p q : Nat) (w : World) (hg : AtB g a0 a1 a2 n0 c0 n1 c1 n2 c2 w) (h : IsB a0 a1 a2 n0 c0 n1 c1 n2 c2 ls lo hi w) (hm : IsRow .i64 w am n1 cm (moms ls n1)) (hv : blkB ls lo hi = true) (hj : j < n1) (hk : k < j) (hq : q < n1) (hp : p < q) :
    Calls Try.prog 95 #[.pointer (some ⟨g, 0, none⟩), .slice am n1 cm, .int .i64 (j : Int), .int .i64 (k : Int), .int .i64 (p : Int), .int .i64 (q : Int)] w fun e w' => e = .returned (.agg #[.int .i64 (cA lo hi j k p q), .int .i64 (cB (momAt ls) j k p q), .slice (some ⟨w.heap.size + 1, 0, none⟩) 4 4]) ∧ w'.heap[w.heap.size + 1]? = some (.cells #[.int .i64 (j : Int), .int .i64 (k : Int), .int .i64 (p : Int), .int .i64 (q : Int)] 2 (0, 0)) ∧ Below w.heap.size w w' := by
  obtain ⟨v1, v2, v3, v4, v5, v6, v7, v8⟩ := blkB_t hv
  obtain ⟨g0, g1, g2, glt⟩ := hg.cells
  clear hg
  have l0 := h.1.1
  have l1 := h.2.1.1
  have l2 := h.2.2.1
  obtain ⟨b1, o1, rfl, t1⟩ := h.2.1.addr (by omega)
  obtain ⟨b2, o2, rfl, t2⟩ := h.2.2.addr (by omega)
  obtain ⟨b3, o3, rfl, t3⟩ := hm.addr (by omega)
  have d1 := h.2.1.same (i := j) (by omega)
  have d2 := h.2.1.same (i := p) (by omega)
  have d3 := h.2.2.same (i := k) (by omega)
  have d4 := h.2.2.same (i := q) (by omega)
  have d5 := hm.same (i := q) (by omega)
  have d6 := hm.same (i := p) (by omega)
  have d7 := hm.same (i := j) (by omega)
  have d8 := hm.same (i := k) (by omega)
  rw [moms_get _ _ _ (by omega)] at d5 d6 d7 d8
  obtain ⟨x1, x2⟩ := v6 j (by omega)
  obtain ⟨x3, x4⟩ := v6 p (by omega)
  obtain ⟨x5, x6⟩ := v7 k (by omega)
  obtain ⟨x7, x8⟩ := v7 q (by omega)
  obtain ⟨y1, y2⟩ := momAt_bd (ls := ls) (k := q) (by omega) v3 (by omega)
  obtain ⟨y3, y4⟩ := momAt_bd (ls := ls) (k := p) (by omega) v3 (by omega)
  obtain ⟨y5, y6⟩ := momAt_bd (ls := ls) (k := j) (by omega) v3 (by omega)
  obtain ⟨y7, y8⟩ := momAt_bd (ls := ls) (k := k) (by omega) v3 (by omega)
  have hn1 : n1 ≤ 11 := by omega
  have hn2 : n2 = n1 := by omega
  have HA := Lib.hid (show cA lo hi j k p q = (lo.getD j 0 - hi.getD k 0) * ((q : Int) - p) - (hi.getD q 0 - lo.getD p 0) * ((j : Int) - k) from rfl)
  have HB := Lib.hid (show cB (momAt ls) j k p q = (momAt ls q - momAt ls p) * ((j : Int) - k) - (momAt ls j - momAt ls k) * ((q : Int) - p) from rfl)
  rw [HA.out, HB.out]
  clear HA HB h hm hv v3 v6 v7 v8 v4 v5 v1 v2 l0 l1 l2
  generalize lo.getD j 0 = e1 at *
  generalize lo.getD p 0 = e2 at *
  generalize hi.getD k 0 = e3 at *
  generalize hi.getD q 0 = e4 at *
  generalize momAt ls q = e5 at *
  generalize momAt ls p = e6 at *
  generalize momAt ls j = e7 at *
  generalize momAt ls k = e8 at *
  obtain ⟨p1, p2⟩ := prod_bd (x := e1 - e3) (y := (q : Int) - p) (A := 2000) (B := 10) (by omega) (by omega) (by omega) (by omega) (by omega)
  obtain ⟨p3, p4⟩ := prod_bd (x := e4 - e2) (y := (j : Int) - k) (A := 2000) (B := 10) (by omega) (by omega) (by omega) (by omega) (by omega)
  obtain ⟨p5, p6⟩ := prod_bd (x := e5 - e6) (y := (j : Int) - k) (A := 190000) (B := 10) (by omega) (by omega) (by omega) (by omega) (by omega)
  obtain ⟨p7, p8⟩ := prod_bd (x := e7 - e8) (y := (q : Int) - p) (A := 190000) (B := 10) (by omega) (by omega) (by omega) (by omega) (by omega)
  have z1 : (0 : Int) ≤ (j : Int) := by omega
  have z2 : (0 : Int) ≤ (k : Int) := by omega
  have z3 : (0 : Int) ≤ (p : Int) := by omega
  have z4 : (0 : Int) ≤ (q : Int) := by omega
  have z5 : (j : Int) < (n1 : Int) := by omega
  have z6 : (k : Int) < (n1 : Int) := by omega
  have z7 : (p : Int) < (n1 : Int) := by omega
  have z8 : (q : Int) < (n1 : Int) := by omega
  have z9 : (k : Int) < (n2 : Int) := by omega
  have z10 : (q : Int) < (n2 : Int) := by omega
  clear hn2
  go_enter Try.func95, Try.ntmps95
  have s1 := IntWalk.i64_in (e1 - e3) (by omega)
  have s2 := IntWalk.i64_in ((q : Int) - (p : Int)) (by omega)
  have s3 := IntWalk.i64_in ((e1 - e3) * ((q : Int) - (p : Int))) (by omega)
  have s4 := IntWalk.i64_in (e4 - e2) (by omega)
  have s5 := IntWalk.i64_in ((j : Int) - (k : Int)) (by omega)
  have s6 := IntWalk.i64_in ((e4 - e2) * ((j : Int) - (k : Int))) (by omega)
  have s7 := IntWalk.i64_in ((e1 - e3) * ((q : Int) - (p : Int)) - (e4 - e2) * ((j : Int) - (k : Int))) (by omega)
  have s8 := IntWalk.i64_in (e5 - e6) (by omega)
  have s9 := IntWalk.i64_in ((e5 - e6) * ((j : Int) - (k : Int))) (by omega)
  have s10 := IntWalk.i64_in (e7 - e8) (by omega)
  have s11 := IntWalk.i64_in ((e7 - e8) * ((q : Int) - (p : Int))) (by omega)
  have s12 := IntWalk.i64_in ((e5 - e6) * ((j : Int) - (k : Int)) - (e7 - e8) * ((q : Int) - (p : Int))) (by omega)
  go_wp2
  simp only [List.append_eq, List.cons_append, List.nil_append]
  go_region_held3 (fun w' => w'.cell? ⟨g, 1, none⟩ = some (Value.slice (some ⟨b1, o1, none⟩) n1 c1) ∧ w'.cell? ⟨g, 2, none⟩ = some (Value.slice (some ⟨b2, o2, none⟩) n2 c2) ∧ w'.cell? ⟨b1, o1 + j, none⟩ = some (Value.int .i64 e1) ∧ w'.cell? ⟨b1, o1 + p, none⟩ = some (Value.int .i64 e2) ∧ w'.cell? ⟨b2, o2 + k, none⟩ = some (Value.int .i64 e3) ∧ w'.cell? ⟨b2, o2 + q, none⟩ = some (Value.int .i64 e4) ∧ w'.cell? ⟨b3, o3 + q, none⟩ = some (Value.int .i64 e5) ∧ w'.cell? ⟨b3, o3 + p, none⟩ = some (Value.int .i64 e6) ∧ w'.cell? ⟨b3, o3 + j, none⟩ = some (Value.int .i64 e7) ∧ w'.cell? ⟨b3, o3 + k, none⟩ = some (Value.int .i64 e8)) ((refine ⟨?_, ?_, ?_, ?_, ?_, ?_, ?_, ?_, ?_, ?_⟩ <;> (repeat (first | (with_reducible refine keepD ?_) | (with_reducible refine keepA ?_) | (with_reducible refine keep1S ?_ (by first | omega | (simp; done) | (simp; omega))))) <;> with_reducible assumption))
    (fail)
  clear s1 s2 s3 s4 s5 s6 s7 s8 s9 s10 s11 s12
  go_wp2
  refine bodyPost_ret (v := .agg #[.int .i64 ((e1 - e3) * ((q : Int) - p) - (e4 - e2) * ((j : Int) - k)), .int .i64 ((e5 - e6) * ((j : Int) - k) - (e7 - e8) * ((q : Int) - p)), .slice (some ⟨w.heap.size + 1, 0, none⟩) 4 4]) (by simp [results, Try.results95, go_sem]) rfl ⟨rfl, ?_, ?_⟩
  · repeat (first | exact blk_new' _ _ (by simp) | exact blk_new' _ _ (by simp [World.drew]) | (refine blk_far ?_ (by first | (simp; done) | (simp; omega)) _) | (refine blkDc ?_))
  · exact (by repeat (first | exact Below.refl _ _ | assumption | refine Below.drew ?_ | refine below_drewN ?_ _ | refine Below.alloc ?_ (by first | omega | (simp; done) | (simp; omega)) _ | refine Below.setCell ?_ (by first | omega | (simp; done) | (simp; omega)) _))
end Go.Proofs.Ytklhaanapembdaa
/- Contract of the reference's l13All: all conditions, in a new slice, the joints of each in a block of their own; no old memory turns; condition: valid blocks that can be read. -/
namespace Go.Proofs.Ytklhaanapembdaa
open Go.RowKit

/-- A condition's cells, its joints at block g. -/
def ccells (c : Cnd) (g : Nat) : List Value := [.int .i64 c.a, .int .i64 c.b, .slice (some ⟨g, 0, none⟩) 4 4]
def flatC : List Cnd → List Nat → List Value
  | c :: l, g :: gs => ccells c g ++ flatC l gs
  | _, _ => []
theorem flatC_snoc (c : Cnd) (g : Nat) : ∀ (l : List Cnd) (gs : List Nat), gs.length = l.length → flatC (l ++ [c]) (gs ++ [g]) = flatC l gs ++ ccells c g
  | [], [], _ => rfl
  | [], _ :: _, h => by cases h
  | _ :: _, [], h => by cases h
  | d :: l, e :: gs, h => by
    have := flatC_snoc c g l gs (by simpa using h)
    simp only [List.cons_append, flatC, this, List.append_assoc]
def jcells (c : Cnd) : Array Value := #[.int .i64 (c.j : Int), .int .i64 (c.k : Int), .int .i64 (c.p : Int), .int .i64 (c.q : Int)]
def AllG (base : Nat) (wr : World) (v : Value) (l : List Cnd) (gs : List Nat) : Prop :=
  gs.length = l.length ∧ wr.ownsRow base 117 3 v l.length (flatC l gs) ∧ ∀ (i g : Nat), gs[i]? = some g → base ≤ g ∧ v.ownBlock ≠ some g ∧ wr.heap[g]? = some (.cells (jcells (l.getD i cnd0)) 2 (0, 0))
/-- The slice of all conditions of a list. -/
def AllAt (base : Nat) (wr : World) (v : Value) (l : List Cnd) : Prop := ∃ gs, AllG base wr v l gs
theorem ownsRow_call {W w' : World} {base : Nat} {e : TypeId} {size : Nat} {v : Value} {n : Nat} {xs : List Value} (h : W.ownsRow base e size v n xs) (hb : Below W.heap.size W w') : w'.ownsRow base e size v n xs := by
  obtain ⟨h1, h2⟩ := h
  refine ⟨h1, ?_⟩
  rcases h2 with h2 | ⟨g, cap, cur, h3, h4, h5, h6⟩
  · exact .inl h2
  · exact .inr ⟨g, cap, cur, h3, h4, blk_call h5 hb, h6⟩
theorem ownsRow_mono {W : World} {base b : Nat} {e : TypeId} {size : Nat} {v : Value} {n : Nat} {xs : List Value} (h : W.ownsRow base e size v n xs) (hb : b ≤ base) : W.ownsRow b e size v n xs := by
  obtain ⟨h1, h2⟩ := h
  refine ⟨h1, ?_⟩
  rcases h2 with h2 | ⟨g, cap, cur, h3, h4, h5, h6⟩
  · exact .inl h2
  · exact .inr ⟨g, cap, cur, h3, by omega, h5, h6⟩
theorem AllG.call {base : Nat} {W w' : World} {v : Value} {l : List Cnd} {gs : List Nat} (h : AllG base W v l gs) (hb : Below W.heap.size W w') : AllG base w' v l gs :=
  ⟨h.1, ownsRow_call h.2.1 hb, fun i g hg => by obtain ⟨h1, h2, h3⟩ := h.2.2 i g hg; exact ⟨h1, h2, blk_call h3 hb⟩⟩
theorem AllG.apart {base k : Nat} {W : World} {v : Value} {l : List Cnd} {gs : List Nat} (h : AllG base W v l gs) (hk : W.heap.size ≤ k) : v.ownBlock ≠ some k := fun e => by have := (World.ownsRow.lt h.2.1 _ e).2; omega
theorem AllG.alloc {base : Nat} {W : World} {v : Value} {l : List Cnd} {gs : List Nat} (h : AllG base W v l gs) (o : Obj) : AllG base (W.alloc o) v l gs :=
  h.call ((Below.refl _ _).alloc (Nat.le_refl _) _)
theorem AllAt.mono {base b : Nat} {W : World} {v : Value} {l : List Cnd} (h : AllAt base W v l) (hb : b ≤ base) : AllAt b W v l := by
  obtain ⟨gs, h1, h2, h3⟩ := h
  exact ⟨gs, h1, ownsRow_mono h2 hb, fun i g hg => by obtain ⟨x, y⟩ := h3 i g hg; exact ⟨by omega, y⟩⟩
theorem AllG.snoc {base : Nat} {W w' : World} {v v' : Value} {l : List Cnd} {gs : List Nat} (h : AllG base W v l gs) {c : Cnd} {gj : Nat} (hb : base ≤ gj) (hj : W.heap[gj]? = some (.cells (jcells c) 2 (0, 0))) (hv : v.ownBlock ≠ some gj) {o : Obj}
    (ho : w'.ownsRow base 117 3 v' (l.length + 1) (flatC l gs ++ ccells c gj)) (hg : (W.alloc o).grownBy w' v.ownBlock) (hn : ∀ g, v'.ownBlock = some g → v.ownBlock = some g ∨ (W.alloc o).heap.size ≤ g) : AllAt base w' v' (l ++ [c]) := by
  have hA := h.alloc o
  have hjA : (W.alloc o).heap[gj]? = some (.cells (jcells c) 2 (0, 0)) := blk_alloc hj
  have key : ∀ (k : Nat) (d : Obj), v.ownBlock ≠ some k → (W.alloc o).heap[k]? = some d → v'.ownBlock ≠ some k ∧ w'.heap[k]? = some d := by
    intro k d hk hd
    have hlt := blk_lt hd
    refine ⟨fun e => ?_, (hg.block k hlt (fun e => hk e.symm)).trans hd⟩
    rcases hn k e with e | e
    · exact hk e
    · omega
  refine ⟨gs ++ [gj], by simp [h.1], ?_, ?_⟩
  · rw [flatC_snoc c gj l gs h.1]; simpa using ho
  · intro i g hi
    have hlen := h.1
    rcases Nat.lt_or_ge i gs.length with hlt | hge
    · rw [List.getElem?_append_left hlt] at hi
      obtain ⟨x, y, z⟩ := hA.2.2 i g hi
      obtain ⟨k1, k2⟩ := key g _ y z
      refine ⟨x, k1, ?_⟩
      rw [List.getD_eq_getElem?_getD, List.getElem?_append_left (by omega), ← List.getD_eq_getElem?_getD]
      exact k2
    · have hi0 : i = gs.length := by
        have := (List.getElem?_eq_some_iff.1 hi).1
        simp at this; omega
      subst hi0
      simp at hi
      subst hi
      obtain ⟨k1, k2⟩ := key gj _ hv hjA
      refine ⟨hb, k1, ?_⟩
      rw [hlen]
      simpa using k2
theorem info_l13C : (Try.prog.info? 117).map (fun i => (i.zero, i.size, i.bytes)) = some (some (.agg #[.int .i64 0, .int .i64 0, .slice none 0 0]), 3, 40) := by kernel_rfl
theorem info_parts3 {z : Value} {s b : Nat} (h : (Try.prog.info? 117).map (fun i => (i.zero, i.size, i.bytes)) = some (some z, s, b)) : ∃ i, Try.prog.info? 117 = some i ∧ i.zero = some z ∧ i.size = s ∧ i.bytes = b := by
  cases hq : Try.prog.info? 117 with
  | none => rw [hq] at h; cases h
  | some i => rw [hq] at h; simp at h; exact ⟨i, rfl, h.1, h.2.1, h.2.2⟩
theorem allAt_empty (w : World) : AllAt w.heap.size (w.alloc (.cells #[] 117)) (.slice (some ⟨w.heap.size, 0, none⟩) 0 0) [] :=
  ⟨[], rfl, World.ownsRow_made w #[] 0 (Nat.le_refl _) (Nat.zero_le _) rfl, fun i g h => by simp at h⟩
set_option maxRecDepth 100000 in
set_option maxHeartbeats 8000000 in
theorem l13All_any (g : Nat) (a0 a1 a2 : Option Addr) (n0 c0 n1 c1 n2 c2 : Nat) (ls lo hi : List Int) (w : World) (hg : AtB g a0 a1 a2 n0 c0 n1 c1 n2 c2 w) (h : IsB a0 a1 a2 n0 c0 n1 c1 n2 c2 ls lo hi w) (hv : blkB ls lo hi = true) :
    Calls Try.prog 130 #[.pointer (some ⟨g, 0, none⟩)] w fun e w' => ∃ v, e = .returned v ∧ AllAt w.heap.size w' v (qAll ls lo hi n1 n1) ∧ Below w.heap.size w w' ∧ (qAll ls lo hi n1 n1).length ≤ 20000 := by
  have H := Lib.hid h
  have HG := Lib.hid hg
  have HV := Lib.hid hv
  have HM : Hid (∀ W : World, AtB g a0 a1 a2 n0 c0 n1 c1 n2 c2 W → IsB a0 a1 a2 n0 c0 n1 c1 n2 c2 ls lo hi W → Calls Try.prog 94 #[.pointer (some ⟨g, 0, none⟩)] W fun e w' => ∃ a c, e = .returned (.slice a n1 c) ∧ IsRow .i64 w' a n1 c (moms ls n1) ∧ Below W.heap.size W w') := Lib.hid fun W hG hW => (l13Moments_any g a0 a1 a2 n0 c0 n1 c1 n2 c2 ls lo hi W hG hW hv).mono fun e w' h => by
    obtain ⟨a, c, h1, h2, h3⟩ := h
    have h4 := h2.row
    rw [moms_len] at h1 h4
    exact ⟨a, c, h1, h4, h3⟩
  obtain ⟨v1, v2, v3, v4, _⟩ := blkB_t hv
  have hn1 : n1 = n0 + 1 := by have := h.1.1; have := h.2.1.1; omega
  have HL1 : Hid (n1 = ls.length + 1) := Lib.hid (by have := h.1.1; omega)
  have hb1 : n0 ≤ 10 := by have := h.1.1; omega
  have hb2 : 2 ≤ n0 := by have := h.1.1; omega
  have HN1 := Lib.hid hn1
  obtain ⟨i0, hti, hi0, hi1, hi2⟩ := info_parts3 info_l13C
  clear h hg hv v1 v2 v3 v4 hn1
  go_enter Try.func130, Try.ntmps130
  go_wp2_with fail
  refine (HM.out _ HG.out H.out).mono ?_
  rintro e1 w1 ⟨am, cm, rfl, hRm, hBm⟩
  have HRm := Lib.hid hRm
  have HBm := Lib.hid hBm
  have HG1 : Hid (AtB g a0 a1 a2 n0 c0 n1 c1 n2 c2 w1) := Lib.hid (blk_below HG.out hBm (blk_lt HG.out))
  have HI1 := Lib.hid (IsB.below H.out hBm)
  obtain ⟨f0, f1, f2, flt⟩ := HG1.out.cells
  clear hRm hBm
  go_wp2_with fail
  go_loopw [5, 6, 7, 8, 9] (fun os i _ _ _ wr => ∃ j : Nat, 1 ≤ j ∧ j ≤ n1 ∧ i = .int .i64 (j : Int) ∧ (qAll ls lo hi n1 j).length ≤ 1331 * j ∧ AllAt w1.heap.size wr os (qAll ls lo hi n1 j) ∧ Below w1.heap.size w1 wr) (fun _ i _ _ _ _ => (n1 - intOf i).toNat)
  case atStart => exact ⟨1, by omega, by have := HN1.out; omega, rfl, by rw [qAll_one]; simp, by rw [qAll_one]; exact allAt_empty _, (by repeat (first | exact Below.refl _ _ | assumption | refine Below.drew ?_ | refine below_drewN ?_ _ | refine Below.alloc ?_ (by first | omega | (simp; done) | (simp; omega)) _ | refine Below.setCell ?_ (by first | omega | (simp; done) | (simp; omega)) _))⟩
  case round =>
    obtain ⟨j, hj1, hj, rfl, hlen, hA, hB⟩ := hrel
    have HA := Lib.hid hA
    have HB := Lib.hid hB
    clear hA hB f0 f1 f2 flt
    by_cases hlj : j ≤ n0
    · have hlj' : (j : Int) ≤ (n0 : Int) := by omega
      have HQ1 := Lib.hid (qAll_next ls lo hi n1 j)
      generalize qAll ls lo hi n1 j = A at *
      obtain ⟨w2, rfl⟩ : ∃ wo : World, wo = wr := ⟨_, rfl⟩
      go_wp2_with fail
      go_loopw [5, 7, 8, 9] (fun os i _ _ wr => ∃ k : Nat, k ≤ j ∧ i = .int .i64 (k : Int) ∧ (A ++ qJ ls lo hi n1 j k).length ≤ 1331 * j + 121 * k ∧ AllAt w1.heap.size wr os (A ++ qJ ls lo hi n1 j k) ∧ Below w1.heap.size w1 wr) (fun _ i _ _ _ => (j - intOf i).toNat)
      case atStart => exact ⟨0, by omega, rfl, by rw [show qJ ls lo hi n1 j 0 = [] from rfl, List.append_nil]; omega, by rw [show qJ ls lo hi n1 j 0 = [] from rfl, List.append_nil]; exact HA.out, HB.out⟩
      case round =>
        obtain ⟨k, hk, rfl, hlen2, hA, hB⟩ := hrel
        clear HA HB
        have HA := Lib.hid hA
        have HB := Lib.hid hB
        clear hA hB
        by_cases hlk : k < j
        · have hlk' : (k : Int) < (j : Int) := by omega
          have HQ2 := Lib.hid (qJ_next ls lo hi n1 j k)
          obtain ⟨w3, rfl⟩ : ∃ wo : World, wo = wr := ⟨_, rfl⟩
          go_wp2_with fail
          go_loopw [5, 8, 9] (fun os i _ wr => ∃ p : Nat, p ≤ n0 ∧ i = .int .i64 (p : Int) ∧ (A ++ qJ ls lo hi n1 j k ++ qK ls lo hi n1 j k p).length ≤ 1331 * j + 121 * k + 11 * p ∧ AllAt w1.heap.size wr os (A ++ qJ ls lo hi n1 j k ++ qK ls lo hi n1 j k p) ∧ Below w1.heap.size w1 wr) (fun _ i _ _ => (n0 - intOf i).toNat)
          case atStart => exact ⟨0, by omega, rfl, by rw [show qK ls lo hi n1 j k 0 = [] from rfl, List.append_nil]; omega, by rw [show qK ls lo hi n1 j k 0 = [] from rfl, List.append_nil]; exact HA.out, HB.out⟩
          case round =>
            obtain ⟨p, hp, rfl, hlen3, hA, hB⟩ := hrel
            clear HA HB
            have HA := Lib.hid hA
            have HB := Lib.hid hB
            clear hA hB
            by_cases hlp : p < n0
            · have hlp' : (p : Int) < (n0 : Int) := by omega
              have HQ3 := Lib.hid (qK_next ls lo hi n1 j k p)
              obtain ⟨w4, rfl⟩ : ∃ wo : World, wo = wr := ⟨_, rfl⟩
              go_wp2_with fail
              go_loopw [5, 9] (fun os i wr => ∃ d : Nat, p + 1 + d ≤ n1 ∧ i = .int .i64 ((p + 1 + d : Nat) : Int) ∧ (A ++ qJ ls lo hi n1 j k ++ qK ls lo hi n1 j k p ++ qP ls lo hi n1 j k p d).length ≤ 1331 * j + 121 * k + 11 * p + d ∧ AllAt w1.heap.size wr os (A ++ qJ ls lo hi n1 j k ++ qK ls lo hi n1 j k p ++ qP ls lo hi n1 j k p d) ∧ Below w1.heap.size w1 wr) (fun _ i _ => (n1 - intOf i).toNat)
              case atStart => exact ⟨0, by have := HN1.out; omega, by go_num, by rw [show qP ls lo hi n1 j k p 0 = [] from rfl, List.append_nil]; omega, by rw [show qP ls lo hi n1 j k p 0 = [] from rfl, List.append_nil]; exact HA.out, HB.out⟩
              case round =>
                obtain ⟨d, hd, rfl, hlen4, hA, hB⟩ := hrel
                clear HA HB
                have HA := Lib.hid hA
                have HB := Lib.hid hB
                clear hA hB
                by_cases hlq : p + 1 + d ≤ n0
                · obtain ⟨q, hq⟩ : ∃ q, p + 1 + d = q := ⟨_, rfl⟩
                  have HPN := Lib.hid (qP_next ls lo hi n1 j k p d)
                  have HC := Lib.hid (fun W hG hW hRow => l13Condition_any g a0 a1 a2 n0 c0 n1 c1 n2 c2 ls lo hi am cm j k p q W hG hW hRow HV.out (by have := HN1.out; omega) hlk (by have := HN1.out; omega) (by omega))
                  have HD : Hid (((p + 1 + d : Nat) : Int) = (q : Int)) := Lib.hid (by rw [hq])
                  have HD1 : Hid (((p + 1 + (d + 1) : Nat) : Int) = (q : Int) + 1) := Lib.hid (by omega)
                  have HX : Hid (cnd ls lo hi j k p (p + 1 + d) = ⟨j, k, p, q, cA lo hi j k p q, cB (momAt ls) j k p q⟩) := Lib.hid (by rw [hq]; rfl)
                  have hqn : (q : Int) ≤ (n0 : Int) := by omega
                  have hdn : p + 1 + (d + 1) ≤ n1 := by have := HN1.out; omega
                  have hmeas : q < n1 := by have := HN1.out; omega
                  clear hq hlq
                  rw [HD.out]
                  have HNX : Hid (A ++ qJ ls lo hi n1 j k ++ qK ls lo hi n1 j k p ++ qP ls lo hi n1 j k p (d + 1) = (A ++ qJ ls lo hi n1 j k ++ qK ls lo hi n1 j k p ++ qP ls lo hi n1 j k p d) ++ [⟨j, k, p, q, cA lo hi j k p q, cB (momAt ls) j k p q⟩]) := Lib.hid (by rw [HPN.out, ← List.append_assoc, HX.out])
                  clear HX HPN HD
                  generalize cA lo hi j k p q = xa at *
                  generalize cB (momAt ls) j k p q = xb at *
                  generalize A ++ qJ ls lo hi n1 j k ++ qK ls lo hi n1 j k p ++ qP ls lo hi n1 j k p d = L at *
                  obtain ⟨gs, hG⟩ := HA.out
                  have hz := HB.out.size
                  go_wp2_with fail
                  refine (HC.out _ (blk_below HG1.out HB.out (blk_lt HG1.out)) (IsB.below HI1.out HB.out) (HRm.out.below HB.out)).mono ?_
                  rintro e5 w5 ⟨rfl, hj5, hb5⟩
                  have hG5 := hG.call hb5
                  have hvn := hG.apart (k := wr.heap.size + 1) (by omega)
                  have hB5 : Below w1.heap.size w1 w5 := below_call HB.out hb5
                  have hz5 := hB5.size
                  have hOl := hG5.2.1
                  have hd10 : d ≤ 10 := by have := HN1.out; omega
                  have hLn : L.length ≤ 20000 := by omega
                  have hgj : w1.heap.size ≤ wr.heap.size + 1 := by omega
                  generalize wr.heap.size + 1 = gj at *
                  go_wp2_with (at_builtin; go_loud (refine wpList_append_new _ rfl _ _ 123 rfl _ 117 i0 (.agg #[.int .i64 0, .int .i64 0, .slice none 0 0]) 3 40 Try.underlying123 hti hi0 hi1 hi2 rfl (by decide) _ _ _ rfl (hOl.alloc _) ⟨w5.heap.size, 0, none⟩ 1 1 (ccells ⟨j, k, p, q, xa, xb⟩ gj) rfl rfl (fun j u hu => World.news_of_block (blk_new w5 _) j u hu) (by simp [ccells, Value.oneCell']) (by unfold maxLen; omega) (by omega) (by first | omega | (simp; done) | (simp; omega)) (by decide) ?_); intro v' w1' hown1 hgrow1 hnew1)
                  have hA1 := Lib.hid (hG5.snoc (c := ⟨j, k, p, q, xa, xb⟩) hgj hj5 hvn hown1 hgrow1 hnew1)
                  have hB1 := Lib.hid ((hB5.alloc hz5 _).grown hgrow1 (by simp; omega) (fun k e => (World.ownsRow.lt hOl k e).1))
                  go_wp2
                  go_roundw
                  case rel => exact ⟨d + 1, hdn, by rw [HD1.out], by rw [HNX.out]; simp; omega, by rw [HNX.out]; exact hA1.out, hB1.out⟩
                  case measure => simp [intOf]; omega
                · have hlq' : ¬ (((p + 1 + d : Nat) : Int) ≤ (n0 : Int)) := by omega
                  have HE : Hid (A ++ qJ ls lo hi n1 j k ++ qK ls lo hi n1 j k p ++ qP ls lo hi n1 j k p d = A ++ qJ ls lo hi n1 j k ++ qK ls lo hi n1 j k (p + 1)) := Lib.hid (by rw [HQ3.out, show n1 - 1 - p = d by have := HN1.out; omega]; simp only [List.append_assoc])
                  rw [HE.out] at hlen4 HA
                  have hd10 : d ≤ 10 := by have := HN1.out; omega
                  go_wp2
                  go_roundw
                  case rel => exact ⟨p + 1, by omega, by go_num, by omega, HA.out, HB.out⟩
                  case measure => simp [intOf]; omega
            · obtain rfl : p = n0 := by omega
              have HE : Hid (A ++ qJ ls lo hi n1 j k ++ qK ls lo hi n1 j k p = A ++ qJ ls lo hi n1 j (k + 1)) := Lib.hid (by rw [HQ2.out, qK_last ls lo hi j k n1 (by have := HN1.out; omega), show n1 - 1 = p by have := HN1.out; omega, List.append_assoc])
              rw [HE.out] at hlen3 HA
              go_wp2
              go_roundw
              case rel => exact ⟨k + 1, by omega, by go_num, by omega, HA.out, HB.out⟩
              case measure => simp [intOf]; omega
        · obtain rfl : k = j := by omega
          rw [← HQ1.out] at hlen2 HA
          go_wp2
          go_roundw
          case rel => exact ⟨k + 1, by omega, by have := HN1.out; omega, by go_num, by omega, HA.out, HB.out⟩
          case measure => have := HN1.out; simp [intOf]; omega
    · have hlj' : ¬ ((j : Int) ≤ (n0 : Int)) := by omega
      obtain rfl : j = n1 := by have := HN1.out; omega
      have hA2 := Lib.hid (HA.out.mono HBm.out.size)
      have hB2 := Lib.hid (below_call HBm.out HB.out)
      go_wp2
      go_ret
      exact ⟨_, rfl, hA2.out, hB2.out, by have := HN1.out; omega⟩
end Go.Proofs.Ytklhaanapembdaa
