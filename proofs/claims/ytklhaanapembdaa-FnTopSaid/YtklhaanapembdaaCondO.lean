/- Contracts of the functions on conditions of four joints, program and reference: their numbers, and which bound is less; no old memory turns; conditions: valid blocks that can be read, joints in their ranges. -/
import Derived.StillTailTactics
import Derived.Test.YtklhaanapembdaaCond

namespace Go.Proofs.Ytklhaanapembdaa
open Go.RowKit

set_option maxRecDepth 100000 in
set_option maxHeartbeats 4000000 in
theorem conditionOf_any (a0 a1 a2 : Option Addr) (n0 c0 n1 c1 n2 c2 : Nat) (ls lo hi : List Int) (am : Option Addr) (cm : Nat) (j k p q : Nat) (w : World) (h : IsB a0 a1 a2 n0 c0 n1 c1 n2 c2 ls lo hi w) (hm : IsRow .i64 w am n1 cm (moms ls n1)) (hv : blkB ls lo hi = true) (hj : j < n1) (hk : k < j) (hq : q < n1) (hp : p < q) :
    Calls Try.prog 72 #[.agg #[.slice a0 n0 c0, .slice a1 n1 c1, .slice a2 n2 c2], .slice am n1 cm, .int .i64 (j : Int), .int .i64 (k : Int), .int .i64 (p : Int), .int .i64 (q : Int)] w fun e w' => e = .returned (.agg #[.int .i64 (j : Int), .int .i64 (k : Int), .int .i64 (p : Int), .int .i64 (q : Int), .int .i64 (cA lo hi j k p q), .int .i64 (cB (momAt ls) j k p q)]) ∧ Below w.heap.size w w' := by
  obtain ⟨v1, v2, v3, v4, v5, v6, v7, v8⟩ := blkB_t hv
  have l0 := h.1.1
  have l1 := h.2.1.1
  have l2 := h.2.2.1
  obtain ⟨b1, o1, rfl, t1⟩ := h.2.1.addr (by omega)
  obtain ⟨b2, o2, rfl, t2⟩ := h.2.2.addr (by omega)
  obtain ⟨b3, o3, rfl, t3⟩ := hm.addr (by omega)
  have d1 := h.2.1.same (i := j) (by omega)
  have d2 := h.2.1.same (i := p) (by omega)
  have d3 := h.2.2.same (i := k) (by omega)
  have d4 := h.2.2.same (i := q) (by omega)
  have d5 := hm.same (i := q) (by omega)
  have d6 := hm.same (i := p) (by omega)
  have d7 := hm.same (i := j) (by omega)
  have d8 := hm.same (i := k) (by omega)
  rw [moms_get _ _ _ (by omega)] at d5 d6 d7 d8
  obtain ⟨x1, x2⟩ := v6 j (by omega)
  obtain ⟨x3, x4⟩ := v6 p (by omega)
  obtain ⟨x5, x6⟩ := v7 k (by omega)
  obtain ⟨x7, x8⟩ := v7 q (by omega)
  obtain ⟨y1, y2⟩ := momAt_bd (ls := ls) (k := q) (by omega) v3 (by omega)
  obtain ⟨y3, y4⟩ := momAt_bd (ls := ls) (k := p) (by omega) v3 (by omega)
  obtain ⟨y5, y6⟩ := momAt_bd (ls := ls) (k := j) (by omega) v3 (by omega)
  obtain ⟨y7, y8⟩ := momAt_bd (ls := ls) (k := k) (by omega) v3 (by omega)
  have hn1 : n1 ≤ 11 := by omega
  have hn2 : n2 = n1 := by omega
  have HA := Lib.hid (show cA lo hi j k p q = (lo.getD j 0 - hi.getD k 0) * ((q : Int) - p) - (hi.getD q 0 - lo.getD p 0) * ((j : Int) - k) from rfl)
  have HB := Lib.hid (show cB (momAt ls) j k p q = (momAt ls q - momAt ls p) * ((j : Int) - k) - (momAt ls j - momAt ls k) * ((q : Int) - p) from rfl)
  rw [HA.out, HB.out]
  clear HA HB h hm hv v3 v6 v7 v8 v4 v5 v1 v2 l0 l1 l2
  generalize lo.getD j 0 = e1 at *
  generalize lo.getD p 0 = e2 at *
  generalize hi.getD k 0 = e3 at *
  generalize hi.getD q 0 = e4 at *
  generalize momAt ls q = e5 at *
  generalize momAt ls p = e6 at *
  generalize momAt ls j = e7 at *
  generalize momAt ls k = e8 at *
  obtain ⟨p1, p2⟩ := prod_bd (x := e1 - e3) (y := (q : Int) - p) (A := 2000) (B := 10) (by omega) (by omega) (by omega) (by omega) (by omega)
  obtain ⟨p3, p4⟩ := prod_bd (x := e4 - e2) (y := (j : Int) - k) (A := 2000) (B := 10) (by omega) (by omega) (by omega) (by omega) (by omega)
  obtain ⟨p5, p6⟩ := prod_bd (x := e5 - e6) (y := (j : Int) - k) (A := 190000) (B := 10) (by omega) (by omega) (by omega) (by omega) (by omega)
  obtain ⟨p7, p8⟩ := prod_bd (x := e7 - e8) (y := (q : Int) - p) (A := 190000) (B := 10) (by omega) (by omega) (by omega) (by omega) (by omega)
  have z1 : (0 : Int) ≤ (j : Int) := by omega
  have z2 : (0 : Int) ≤ (k : Int) := by omega
  have z3 : (0 : Int) ≤ (p : Int) := by omega
  have z4 : (0 : Int) ≤ (q : Int) := by omega
  have z5 : (j : Int) < (n1 : Int) := by omega
  have z6 : (k : Int) < (n1 : Int) := by omega
  have z7 : (p : Int) < (n1 : Int) := by omega
  have z8 : (q : Int) < (n1 : Int) := by omega
  have z9 : (k : Int) < (n2 : Int) := by omega
  have z10 : (q : Int) < (n2 : Int) := by omega
  clear hn2
  go_enter Try.func72, Try.ntmps72
  have s1 := IntWalk.i64_in (e1 - e3) (by omega)
  have s2 := IntWalk.i64_in ((q : Int) - (p : Int)) (by omega)
  have s3 := IntWalk.i64_in ((e1 - e3) * ((q : Int) - (p : Int))) (by omega)
  have s4 := IntWalk.i64_in (e4 - e2) (by omega)
  have s5 := IntWalk.i64_in ((j : Int) - (k : Int)) (by omega)
  have s6 := IntWalk.i64_in ((e4 - e2) * ((j : Int) - (k : Int))) (by omega)
  have s7 := IntWalk.i64_in ((e1 - e3) * ((q : Int) - (p : Int)) - (e4 - e2) * ((j : Int) - (k : Int))) (by omega)
  have s8 := IntWalk.i64_in (e5 - e6) (by omega)
  have s9 := IntWalk.i64_in ((e5 - e6) * ((j : Int) - (k : Int))) (by omega)
  have s10 := IntWalk.i64_in (e7 - e8) (by omega)
  have s11 := IntWalk.i64_in ((e7 - e8) * ((q : Int) - (p : Int))) (by omega)
  have s12 := IntWalk.i64_in ((e5 - e6) * ((j : Int) - (k : Int)) - (e7 - e8) * ((q : Int) - (p : Int))) (by omega)
  go_wp2
  refine wp_region_still_tail 64 (by kernel_rfl) (by kernel_rfl) ?_
  simp [List.take_succ_cons, List.drop_succ_cons]
  change wpStill _ _ (World.drew _) _ _ _
  repeat still_step
  refine wpStill_nil ?_
  change wpList _ _ _ _ _ (World.drew _)
  clear s1 s2 s3 s4 s5 s6 s7 s8 s9 s10 s11 s12
  go_wp2
  refine bodyPost_ret (v := .agg #[.int .i64 (j : Int), .int .i64 (k : Int), .int .i64 (p : Int), .int .i64 (q : Int), .int .i64 ((e1 - e3) * ((q : Int) - p) - (e4 - e2) * ((j : Int) - k)), .int .i64 ((e5 - e6) * ((j : Int) - k) - (e7 - e8) * ((q : Int) - p))]) (by simp [results, Try.results72, go_sem]) rfl ⟨rfl, ?_⟩
  exact (by repeat (first | exact Below.refl _ _ | assumption | refine Below.drew ?_ | refine below_drewN ?_ _ | refine Below.alloc ?_ (by first | omega | (simp; done) | (simp; omega)) _ | refine Below.setCell ?_ (by first | omega | (simp; done) | (simp; omega)) _))
end Go.Proofs.Ytklhaanapembdaa
