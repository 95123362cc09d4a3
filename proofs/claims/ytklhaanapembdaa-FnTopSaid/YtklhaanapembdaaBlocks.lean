/- Contracts of ValidBlocks and of moments, program and reference: what each call returns; memory as before, but for new blocks; condition: the slices can be read. -/
import Derived.Test.YtklhaanapembdaaM02

namespace Go.Proofs.Ytklhaanapembdaa
open Go.RowKit

/-- What a walk is told of three slices of integers: the loads, the lows, the highs. -/
def IsB (a0 a1 a2 : Option Addr) (n0 c0 n1 c1 n2 c2 : Nat) (ls lo hi : List Int) (w : World) : Prop := IsRow .i64 w a0 n0 c0 ls ∧ IsRow .i64 w a1 n1 c1 lo ∧ IsRow .i64 w a2 n2 c2 hi
theorem IsB.below {a0 a1 a2 : Option Addr} {n0 c0 n1 c1 n2 c2 : Nat} {ls lo hi : List Int} {w w' : World} (h : IsB a0 a1 a2 n0 c0 n1 c1 n2 c2 ls lo hi w) (hb : Below w.heap.size w w') : IsB a0 a1 a2 n0 c0 n1 c1 n2 c2 ls lo hi w' := ⟨h.1.below hb, h.2.1.below hb, h.2.2.below hb⟩
set_option maxHeartbeats 4000000 in
theorem validBlocks_any (a0 a1 a2 : Option Addr) (n0 c0 n1 c1 n2 c2 : Nat) (ls lo hi : List Int) (w : World) (h : IsB a0 a1 a2 n0 c0 n1 c1 n2 c2 ls lo hi w) :
    Calls Try.prog 43 #[.agg #[.slice a0 n0 c0, .slice a1 n1 c1, .slice a2 n2 c2]] w fun e w' => e = .returned (.bool (blkB ls lo hi)) ∧ Below w.heap.size w w' := by
  obtain ⟨h0, h1, h2⟩ := h
  have l0 := h0.1
  have l1 := h1.1
  have l2 := h2.1
  have hm1 : n1 ≤ maxLen := Nat.le_trans h1.2.1 h1.2.2.1
  have hm2 : n2 ≤ maxLen := Nat.le_trans h2.2.1 h2.2.2.1
  unfold maxLen at hm1 hm2
  have HR : Hid (blkB ls lo hi = (inB n0 2 10 && insB ls 1 1000 && decide (n1 = n0 + 1) && decide (n2 = n0 + 1) && insB lo (-1000) 1000 && insB hi (-1000) 1000 && leB lo hi)) := by show _ = _; unfold blkB; rw [l0, l1, l2]
  have H0 := Lib.hid h0
  have H1 := Lib.hid h1
  have H2 := Lib.hid h2
  have HW := Lib.hid (fun W => within_any (n0 : Int) 2 10 W)
  have HA := Lib.hid (fun W (hW : IsRow .i64 W a0 n0 c0 ls) => outside_any a0 n0 c0 ls 1 1000 W hW)
  have HB := Lib.hid (fun W (hW : IsRow .i64 W a1 n1 c1 lo) => outside_any a1 n1 c1 lo (-1000) 1000 W hW)
  have HC := Lib.hid (fun W (hW : IsRow .i64 W a2 n2 c2 hi) => outside_any a2 n2 c2 hi (-1000) 1000 W hW)
  have L0 := Lib.hid l0
  have L1 := Lib.hid l1
  have L2 := Lib.hid l2
  clear h0 h1 h2 l0 l1 l2
  cases E1 : inB (n0 : Int) 2 10
  · have X1 := Lib.hid E1
    rw [E1] at HW
    clear E1
    go_enter Try.func43, Try.ntmps43
    go_wp2_with fail
    refine (HW.out _).mono ?_
    rintro e1 w1 ⟨rfl, rfl⟩
    go_wp2
    go_ret
    exact ⟨ret_bool (by rw [HR.out]; simp [X1.out]), (by repeat (first | exact Below.refl _ _ | assumption | refine Below.drew ?_ | refine below_drewN ?_ _ | refine Below.alloc ?_ (by first | omega | (simp; done) | (simp; omega)) _ | refine Below.setCell ?_ (by first | omega | (simp; done) | (simp; omega)) _))⟩
  have X1 := Lib.hid E1
  rw [E1] at HW
  have B1 := inB_t E1
  obtain ⟨B1, B2⟩ := B1
  clear E1
  cases E2 : insB ls 1 1000
  · have X2 := Lib.hid E2
    rw [E2] at HA
    clear E2
    go_enter Try.func43, Try.ntmps43
    go_wp2_with fail
    refine (HW.out _).mono ?_
    rintro e1 w1 ⟨rfl, rfl⟩
    go_wp2_with fail
    refine (HA.out _ (H0.out.below (by repeat (first | exact Below.refl _ _ | assumption | refine Below.drew ?_ | refine below_drewN ?_ _ | refine Below.alloc ?_ (by first | omega | (simp; done) | (simp; omega)) _ | refine Below.setCell ?_ (by first | omega | (simp; done) | (simp; omega)) _)))).mono ?_
    rintro e2 w2 ⟨rfl, hb2⟩
    obtain ⟨hc2, hf2⟩ := bcell hb2
    have hz2 := hb2.size
    try simp at hz2
    have ha2 : Below w.heap.size w w2 := below_call (by repeat (first | exact Below.refl _ _ | assumption | refine Below.drew ?_ | refine below_drewN ?_ _ | refine Below.alloc ?_ (by first | omega | (simp; done) | (simp; omega)) _ | refine Below.setCell ?_ (by first | omega | (simp; done) | (simp; omega)) _)) hb2
    have F : Hid (w2.heap[w.heap.size]? = some _) := blk_call (by first | (refine blk_new' _ _ ?_; simp; done) | (refine blk_alloc (blk_new' _ _ ?_); simp; done) | (refine blk_alloc (blk_alloc (blk_new' _ _ ?_)); simp; done)) hb2
    have F_0 := cellOf F.out 0
    simp at F_0
    have F_1 := cellOf F.out 1
    simp at F_1
    have F_2 := cellOf F.out 2
    simp at F_2
    have F_lt := blk_lt F.out
    have F_le := Nat.le_of_lt F_lt
    have F_l1 := Nat.le_succ_of_le F_le
    go_wp2
    go_ret
    exact ⟨ret_bool (by rw [HR.out]; simp [X1.out, X2.out]), (by repeat (first | exact Below.refl _ _ | assumption | refine Below.drew ?_ | refine below_drewN ?_ _ | refine Below.alloc ?_ (by first | omega | (simp; done) | (simp; omega)) _ | refine Below.setCell ?_ (by first | omega | (simp; done) | (simp; omega)) _))⟩
  have X2 := Lib.hid E2
  rw [E2] at HA
  clear E2
  cases E3 : decide (n1 = n0 + 1)
  · have X3 := Lib.hid E3
    have T3 : ((n1 : Int) != (n0 : Int) + 1) = true := by have := of_decide_eq_false E3; simp; omega
    clear E3
    go_enter Try.func43, Try.ntmps43
    go_wp2_with fail
    refine (HW.out _).mono ?_
    rintro e1 w1 ⟨rfl, rfl⟩
    go_wp2_with fail
    refine (HA.out _ (H0.out.below (by repeat (first | exact Below.refl _ _ | assumption | refine Below.drew ?_ | refine below_drewN ?_ _ | refine Below.alloc ?_ (by first | omega | (simp; done) | (simp; omega)) _ | refine Below.setCell ?_ (by first | omega | (simp; done) | (simp; omega)) _)))).mono ?_
    rintro e2 w2 ⟨rfl, hb2⟩
    obtain ⟨hc2, hf2⟩ := bcell hb2
    have hz2 := hb2.size
    try simp at hz2
    have ha2 : Below w.heap.size w w2 := below_call (by repeat (first | exact Below.refl _ _ | assumption | refine Below.drew ?_ | refine below_drewN ?_ _ | refine Below.alloc ?_ (by first | omega | (simp; done) | (simp; omega)) _ | refine Below.setCell ?_ (by first | omega | (simp; done) | (simp; omega)) _)) hb2
    have F : Hid (w2.heap[w.heap.size]? = some _) := blk_call (by first | (refine blk_new' _ _ ?_; simp; done) | (refine blk_alloc (blk_new' _ _ ?_); simp; done) | (refine blk_alloc (blk_alloc (blk_new' _ _ ?_)); simp; done)) hb2
    have F_0 := cellOf F.out 0
    simp at F_0
    have F_1 := cellOf F.out 1
    simp at F_1
    have F_2 := cellOf F.out 2
    simp at F_2
    have F_lt := blk_lt F.out
    have F_le := Nat.le_of_lt F_lt
    have F_l1 := Nat.le_succ_of_le F_le
    go_wp2
    go_ret
    exact ⟨ret_bool (by rw [HR.out]; simp [X1.out, X2.out, X3.out]), (by repeat (first | exact Below.refl _ _ | assumption | refine Below.drew ?_ | refine below_drewN ?_ _ | refine Below.alloc ?_ (by first | omega | (simp; done) | (simp; omega)) _ | refine Below.setCell ?_ (by first | omega | (simp; done) | (simp; omega)) _))⟩
  have X3 := Lib.hid E3
  have T3 : ((n1 : Int) != (n0 : Int) + 1) = false := by have := of_decide_eq_true E3; simp; omega
  have U3 : (n1 : Int) = n0 + 1 := by have := of_decide_eq_true E3; omega
  have HU3 := Lib.hid U3
  clear U3
  clear E3
  cases E4 : decide (n2 = n0 + 1)
  · have X4 := Lib.hid E4
    have T4 : ((n2 : Int) != (n0 : Int) + 1) = true := by have := of_decide_eq_false E4; simp; omega
    clear E4
    go_enter Try.func43, Try.ntmps43
    go_wp2_with fail
    refine (HW.out _).mono ?_
    rintro e1 w1 ⟨rfl, rfl⟩
    go_wp2_with fail
    refine (HA.out _ (H0.out.below (by repeat (first | exact Below.refl _ _ | assumption | refine Below.drew ?_ | refine below_drewN ?_ _ | refine Below.alloc ?_ (by first | omega | (simp; done) | (simp; omega)) _ | refine Below.setCell ?_ (by first | omega | (simp; done) | (simp; omega)) _)))).mono ?_
    rintro e2 w2 ⟨rfl, hb2⟩
    obtain ⟨hc2, hf2⟩ := bcell hb2
    have hz2 := hb2.size
    try simp at hz2
    have ha2 : Below w.heap.size w w2 := below_call (by repeat (first | exact Below.refl _ _ | assumption | refine Below.drew ?_ | refine below_drewN ?_ _ | refine Below.alloc ?_ (by first | omega | (simp; done) | (simp; omega)) _ | refine Below.setCell ?_ (by first | omega | (simp; done) | (simp; omega)) _)) hb2
    have F : Hid (w2.heap[w.heap.size]? = some _) := blk_call (by first | (refine blk_new' _ _ ?_; simp; done) | (refine blk_alloc (blk_new' _ _ ?_); simp; done) | (refine blk_alloc (blk_alloc (blk_new' _ _ ?_)); simp; done)) hb2
    have F_0 := cellOf F.out 0
    simp at F_0
    have F_1 := cellOf F.out 1
    simp at F_1
    have F_2 := cellOf F.out 2
    simp at F_2
    have F_lt := blk_lt F.out
    have F_le := Nat.le_of_lt F_lt
    have F_l1 := Nat.le_succ_of_le F_le
    go_wp2
    go_ret
    exact ⟨ret_bool (by rw [HR.out]; simp [X1.out, X2.out, X3.out, X4.out]), (by repeat (first | exact Below.refl _ _ | assumption | refine Below.drew ?_ | refine below_drewN ?_ _ | refine Below.alloc ?_ (by first | omega | (simp; done) | (simp; omega)) _ | refine Below.setCell ?_ (by first | omega | (simp; done) | (simp; omega)) _))⟩
  have X4 := Lib.hid E4
  have T4 : ((n2 : Int) != (n0 : Int) + 1) = false := by have := of_decide_eq_true E4; simp; omega
  have U4 : (n2 : Int) = n0 + 1 := by have := of_decide_eq_true E4; omega
  have HU4 := Lib.hid U4
  clear U4
  clear E4
  cases E5 : insB lo (-1000) 1000
  · have X5 := Lib.hid E5
    rw [E5] at HB
    clear E5
    go_enter Try.func43, Try.ntmps43
    go_wp2_with fail
    refine (HW.out _).mono ?_
    rintro e1 w1 ⟨rfl, rfl⟩
    go_wp2_with fail
    refine (HA.out _ (H0.out.below (by repeat (first | exact Below.refl _ _ | assumption | refine Below.drew ?_ | refine below_drewN ?_ _ | refine Below.alloc ?_ (by first | omega | (simp; done) | (simp; omega)) _ | refine Below.setCell ?_ (by first | omega | (simp; done) | (simp; omega)) _)))).mono ?_
    rintro e2 w2 ⟨rfl, hb2⟩
    obtain ⟨hc2, hf2⟩ := bcell hb2
    have hz2 := hb2.size
    try simp at hz2
    have ha2 : Below w.heap.size w w2 := below_call (by repeat (first | exact Below.refl _ _ | assumption | refine Below.drew ?_ | refine below_drewN ?_ _ | refine Below.alloc ?_ (by first | omega | (simp; done) | (simp; omega)) _ | refine Below.setCell ?_ (by first | omega | (simp; done) | (simp; omega)) _)) hb2
    have F : Hid (w2.heap[w.heap.size]? = some _) := blk_call (by first | (refine blk_new' _ _ ?_; simp; done) | (refine blk_alloc (blk_new' _ _ ?_); simp; done) | (refine blk_alloc (blk_alloc (blk_new' _ _ ?_)); simp; done)) hb2
    have F_0 := cellOf F.out 0
    simp at F_0
    have F_1 := cellOf F.out 1
    simp at F_1
    have F_2 := cellOf F.out 2
    simp at F_2
    have F_lt := blk_lt F.out
    have F_le := Nat.le_of_lt F_lt
    have F_l1 := Nat.le_succ_of_le F_le
    go_wp2_with fail
    refine (HB.out _ (H1.out.below (by repeat (first | exact Below.refl _ _ | assumption | refine Below.drew ?_ | refine below_drewN ?_ _ | refine Below.alloc ?_ (by first | omega | (simp; done) | (simp; omega)) _ | refine Below.setCell ?_ (by first | omega | (simp; done) | (simp; omega)) _)))).mono ?_
    rintro e3 w3 ⟨rfl, hb3⟩
    obtain ⟨hc3, hf3⟩ := bcell hb3
    have hz3 := hb3.size
    try simp at hz3
    have ha3 : Below w.heap.size w w3 := below_call (by repeat (first | exact Below.refl _ _ | assumption | refine Below.drew ?_ | refine below_drewN ?_ _ | refine Below.alloc ?_ (by first | omega | (simp; done) | (simp; omega)) _ | refine Below.setCell ?_ (by first | omega | (simp; done) | (simp; omega)) _)) hb3
    replace F := Lib.hid (blk_call (by first | exact F.out | exact blk_alloc F.out | exact blk_alloc (blk_alloc F.out)) hb3)
    replace F_0 := cellOf F.out 0
    simp at F_0
    replace F_1 := cellOf F.out 1
    simp at F_1
    replace F_2 := cellOf F.out 2
    simp at F_2
    replace F_lt := blk_lt F.out
    replace F_le := Nat.le_of_lt F_lt
    replace F_l1 := Nat.le_succ_of_le F_le
    go_wp2
    go_ret
    exact ⟨ret_bool (by rw [HR.out]; simp [X1.out, X2.out, X3.out, X4.out, X5.out]), (by repeat (first | exact Below.refl _ _ | assumption | refine Below.drew ?_ | refine below_drewN ?_ _ | refine Below.alloc ?_ (by first | omega | (simp; done) | (simp; omega)) _ | refine Below.setCell ?_ (by first | omega | (simp; done) | (simp; omega)) _))⟩
  have X5 := Lib.hid E5
  rw [E5] at HB
  clear E5
  cases E6 : insB hi (-1000) 1000
  · have X6 := Lib.hid E6
    rw [E6] at HC
    clear E6
    go_enter Try.func43, Try.ntmps43
    go_wp2_with fail
    refine (HW.out _).mono ?_
    rintro e1 w1 ⟨rfl, rfl⟩
    go_wp2_with fail
    refine (HA.out _ (H0.out.below (by repeat (first | exact Below.refl _ _ | assumption | refine Below.drew ?_ | refine below_drewN ?_ _ | refine Below.alloc ?_ (by first | omega | (simp; done) | (simp; omega)) _ | refine Below.setCell ?_ (by first | omega | (simp; done) | (simp; omega)) _)))).mono ?_
    rintro e2 w2 ⟨rfl, hb2⟩
    obtain ⟨hc2, hf2⟩ := bcell hb2
    have hz2 := hb2.size
    try simp at hz2
    have ha2 : Below w.heap.size w w2 := below_call (by repeat (first | exact Below.refl _ _ | assumption | refine Below.drew ?_ | refine below_drewN ?_ _ | refine Below.alloc ?_ (by first | omega | (simp; done) | (simp; omega)) _ | refine Below.setCell ?_ (by first | omega | (simp; done) | (simp; omega)) _)) hb2
    have F : Hid (w2.heap[w.heap.size]? = some _) := blk_call (by first | (refine blk_new' _ _ ?_; simp; done) | (refine blk_alloc (blk_new' _ _ ?_); simp; done) | (refine blk_alloc (blk_alloc (blk_new' _ _ ?_)); simp; done)) hb2
    have F_0 := cellOf F.out 0
    simp at F_0
    have F_1 := cellOf F.out 1
    simp at F_1
    have F_2 := cellOf F.out 2
    simp at F_2
    have F_lt := blk_lt F.out
    have F_le := Nat.le_of_lt F_lt
    have F_l1 := Nat.le_succ_of_le F_le
    go_wp2_with fail
    refine (HB.out _ (H1.out.below (by repeat (first | exact Below.refl _ _ | assumption | refine Below.drew ?_ | refine below_drewN ?_ _ | refine Below.alloc ?_ (by first | omega | (simp; done) | (simp; omega)) _ | refine Below.setCell ?_ (by first | omega | (simp; done) | (simp; omega)) _)))).mono ?_
    rintro e3 w3 ⟨rfl, hb3⟩
    obtain ⟨hc3, hf3⟩ := bcell hb3
    have hz3 := hb3.size
    try simp at hz3
    have ha3 : Below w.heap.size w w3 := below_call (by repeat (first | exact Below.refl _ _ | assumption | refine Below.drew ?_ | refine below_drewN ?_ _ | refine Below.alloc ?_ (by first | omega | (simp; done) | (simp; omega)) _ | refine Below.setCell ?_ (by first | omega | (simp; done) | (simp; omega)) _)) hb3
    replace F := Lib.hid (blk_call (by first | exact F.out | exact blk_alloc F.out | exact blk_alloc (blk_alloc F.out)) hb3)
    replace F_0 := cellOf F.out 0
    simp at F_0
    replace F_1 := cellOf F.out 1
    simp at F_1
    replace F_2 := cellOf F.out 2
    simp at F_2
    replace F_lt := blk_lt F.out
    replace F_le := Nat.le_of_lt F_lt
    replace F_l1 := Nat.le_succ_of_le F_le
    go_wp2_with fail
    refine (HC.out _ (H2.out.below (by repeat (first | exact Below.refl _ _ | assumption | refine Below.drew ?_ | refine below_drewN ?_ _ | refine Below.alloc ?_ (by first | omega | (simp; done) | (simp; omega)) _ | refine Below.setCell ?_ (by first | omega | (simp; done) | (simp; omega)) _)))).mono ?_
    rintro e4 w4 ⟨rfl, hb4⟩
    obtain ⟨hc4, hf4⟩ := bcell hb4
    have hz4 := hb4.size
    try simp at hz4
    have ha4 : Below w.heap.size w w4 := below_call (by repeat (first | exact Below.refl _ _ | assumption | refine Below.drew ?_ | refine below_drewN ?_ _ | refine Below.alloc ?_ (by first | omega | (simp; done) | (simp; omega)) _ | refine Below.setCell ?_ (by first | omega | (simp; done) | (simp; omega)) _)) hb4
    replace F := Lib.hid (blk_call (by first | exact F.out | exact blk_alloc F.out | exact blk_alloc (blk_alloc F.out)) hb4)
    replace F_0 := cellOf F.out 0
    simp at F_0
    replace F_1 := cellOf F.out 1
    simp at F_1
    replace F_2 := cellOf F.out 2
    simp at F_2
    replace F_lt := blk_lt F.out
    replace F_le := Nat.le_of_lt F_lt
    replace F_l1 := Nat.le_succ_of_le F_le
    go_wp2
    go_ret
    exact ⟨ret_bool (by rw [HR.out]; simp [X1.out, X2.out, X3.out, X4.out, X5.out, X6.out]), (by repeat (first | exact Below.refl _ _ | assumption | refine Below.drew ?_ | refine below_drewN ?_ _ | refine Below.alloc ?_ (by first | omega | (simp; done) | (simp; omega)) _ | refine Below.setCell ?_ (by first | omega | (simp; done) | (simp; omega)) _))⟩
  have X6 := Lib.hid E6
  rw [E6] at HC
  clear E6
  go_enter Try.func43, Try.ntmps43
  go_wp2_with fail
  refine (HW.out _).mono ?_
  rintro e1 w1 ⟨rfl, rfl⟩
  go_wp2_with fail
  refine (HA.out _ (H0.out.below (by repeat (first | exact Below.refl _ _ | assumption | refine Below.drew ?_ | refine below_drewN ?_ _ | refine Below.alloc ?_ (by first | omega | (simp; done) | (simp; omega)) _ | refine Below.setCell ?_ (by first | omega | (simp; done) | (simp; omega)) _)))).mono ?_
  rintro e2 w2 ⟨rfl, hb2⟩
  obtain ⟨hc2, hf2⟩ := bcell hb2
  have hz2 := hb2.size
  try simp at hz2
  have ha2 : Below w.heap.size w w2 := below_call (by repeat (first | exact Below.refl _ _ | assumption | refine Below.drew ?_ | refine below_drewN ?_ _ | refine Below.alloc ?_ (by first | omega | (simp; done) | (simp; omega)) _ | refine Below.setCell ?_ (by first | omega | (simp; done) | (simp; omega)) _)) hb2
  have F : Hid (w2.heap[w.heap.size]? = some _) := blk_call (by first | (refine blk_new' _ _ ?_; simp; done) | (refine blk_alloc (blk_new' _ _ ?_); simp; done) | (refine blk_alloc (blk_alloc (blk_new' _ _ ?_)); simp; done)) hb2
  have F_0 := cellOf F.out 0
  simp at F_0
  have F_1 := cellOf F.out 1
  simp at F_1
  have F_2 := cellOf F.out 2
  simp at F_2
  have F_lt := blk_lt F.out
  have F_le := Nat.le_of_lt F_lt
  have F_l1 := Nat.le_succ_of_le F_le
  go_wp2_with fail
  refine (HB.out _ (H1.out.below (by repeat (first | exact Below.refl _ _ | assumption | refine Below.drew ?_ | refine below_drewN ?_ _ | refine Below.alloc ?_ (by first | omega | (simp; done) | (simp; omega)) _ | refine Below.setCell ?_ (by first | omega | (simp; done) | (simp; omega)) _)))).mono ?_
  rintro e3 w3 ⟨rfl, hb3⟩
  obtain ⟨hc3, hf3⟩ := bcell hb3
  have hz3 := hb3.size
  try simp at hz3
  have ha3 : Below w.heap.size w w3 := below_call (by repeat (first | exact Below.refl _ _ | assumption | refine Below.drew ?_ | refine below_drewN ?_ _ | refine Below.alloc ?_ (by first | omega | (simp; done) | (simp; omega)) _ | refine Below.setCell ?_ (by first | omega | (simp; done) | (simp; omega)) _)) hb3
  replace F := Lib.hid (blk_call (by first | exact F.out | exact blk_alloc F.out | exact blk_alloc (blk_alloc F.out)) hb3)
  replace F_0 := cellOf F.out 0
  simp at F_0
  replace F_1 := cellOf F.out 1
  simp at F_1
  replace F_2 := cellOf F.out 2
  simp at F_2
  replace F_lt := blk_lt F.out
  replace F_le := Nat.le_of_lt F_lt
  replace F_l1 := Nat.le_succ_of_le F_le
  go_wp2_with fail
  refine (HC.out _ (H2.out.below (by repeat (first | exact Below.refl _ _ | assumption | refine Below.drew ?_ | refine below_drewN ?_ _ | refine Below.alloc ?_ (by first | omega | (simp; done) | (simp; omega)) _ | refine Below.setCell ?_ (by first | omega | (simp; done) | (simp; omega)) _)))).mono ?_
  rintro e4 w4 ⟨rfl, hb4⟩
  obtain ⟨hc4, hf4⟩ := bcell hb4
  have hz4 := hb4.size
  try simp at hz4
  have ha4 : Below w.heap.size w w4 := below_call (by repeat (first | exact Below.refl _ _ | assumption | refine Below.drew ?_ | refine below_drewN ?_ _ | refine Below.alloc ?_ (by first | omega | (simp; done) | (simp; omega)) _ | refine Below.setCell ?_ (by first | omega | (simp; done) | (simp; omega)) _)) hb4
  replace F := Lib.hid (blk_call (by first | exact F.out | exact blk_alloc F.out | exact blk_alloc (blk_alloc F.out)) hb4)
  replace F_0 := cellOf F.out 0
  simp at F_0
  replace F_1 := cellOf F.out 1
  simp at F_1
  replace F_2 := cellOf F.out 2
  simp at F_2
  replace F_lt := blk_lt F.out
  replace F_le := Nat.le_of_lt F_lt
  replace F_l1 := Nat.le_succ_of_le F_le
  go_wp2_with fail
  go_loop [4, 5, 46] (fun _ _ i => ∃ k : Nat, k ≤ n1 ∧ i = .int .i64 (k : Int) ∧ (∀ m, m < k → lo.getD m 0 ≤ hi.getD m 0)) (fun _ _ i => (n1 - intOf i).toNat)
  case atStart => exact ⟨0, by omega, rfl, fun m hm => by omega⟩
  case round =>
    obtain ⟨k, hk, rfl, hI⟩ := hrel
    have HI := Lib.hid hI
    clear hI
    by_cases hlt : k < n1
    · have hlt' : (k : Int) < (n1 : Int) := by omega
      have hlt2 : (k : Int) < (n2 : Int) := by have := HU3.out; have := HU4.out; omega
      obtain ⟨b, o, rfl, hb', hc'⟩ := (H1.out.below ha4).cell hlt
      obtain ⟨b2, o2, rfl, hb2', hc2'⟩ := (H2.out.below ha4).cell (i := k) (by omega)
      by_cases hx : lo.getD k 0 ≤ hi.getD k 0
      · have HN : Hid (∀ m, m < k + 1 → lo.getD m 0 ≤ hi.getD m 0) := Lib.hid fun m hm => by
          rcases Nat.lt_succ_iff_lt_or_eq.1 hm with h | rfl
          · exact HI.out m h
          · exact hx
        generalize lo.getD k 0 = x at *
        generalize hi.getD k 0 = y at *
        have hx' : ¬ y < x := by omega
        go_wp2
        go_round
        case rel => exact ⟨k + 1, by omega, by go_num, HN.out⟩
        case measure => simp [intOf]; omega
      · have X7 : Hid (leB lo hi = false) := Lib.hid (leB_no (k := k) (by rw [L1.out]; exact hlt) hx)
        generalize lo.getD k 0 = x at *
        generalize hi.getD k 0 = y at *
        have hx' : y < x := by omega
        go_wp2
        go_ret
        exact ⟨ret_bool (by rw [HR.out]; simp [X7.out]), (by repeat (first | exact Below.refl _ _ | assumption | refine Below.drew ?_ | refine below_drewN ?_ _ | refine Below.alloc ?_ (by first | omega | (simp; done) | (simp; omega)) _ | refine Below.setCell ?_ (by first | omega | (simp; done) | (simp; omega)) _))⟩
    · obtain rfl : k = n1 := by omega
      have X7 : Hid (leB lo hi = true) := Lib.hid (leB_mk (fun m hm => HI.out m (by rw [L1.out] at hm; exact hm)))
      go_wp2
      go_ret
      exact ⟨ret_bool (by rw [HR.out, X1.out, X2.out, X3.out, X4.out, X5.out, X6.out, X7.out]; rfl), (by repeat (first | exact Below.refl _ _ | assumption | refine Below.drew ?_ | refine below_drewN ?_ _ | refine Below.alloc ?_ (by first | omega | (simp; done) | (simp; omega)) _ | refine Below.setCell ?_ (by first | omega | (simp; done) | (simp; omega)) _))⟩
/-- Blocks that lie in memory at block g. -/
def AtB (g : Nat) (a0 a1 a2 : Option Addr) (n0 c0 n1 c1 n2 c2 : Nat) (w : World) : Prop := w.heap[g]? = some (.cells #[.slice a0 n0 c0, .slice a1 n1 c1, .slice a2 n2 c2] 26 (0, 0))
theorem AtB.below {g : Nat} {a0 a1 a2 : Option Addr} {n0 c0 n1 c1 n2 c2 : Nat} {w w' : World} (h : AtB g a0 a1 a2 n0 c0 n1 c1 n2 c2 w) (hb : Below w.heap.size w w') : AtB g a0 a1 a2 n0 c0 n1 c1 n2 c2 w' := blk_call h hb
theorem AtB.cells {g : Nat} {a0 a1 a2 : Option Addr} {n0 c0 n1 c1 n2 c2 : Nat} {w : World} (h : AtB g a0 a1 a2 n0 c0 n1 c1 n2 c2 w) :
    w.cell? ⟨g, 0, none⟩ = some (.slice a0 n0 c0) ∧ w.cell? ⟨g, 1, none⟩ = some (.slice a1 n1 c1) ∧ w.cell? ⟨g, 2, none⟩ = some (.slice a2 n2 c2) ∧ g < w.heap.size := by
  refine ⟨?_, ?_, ?_, blk_lt h⟩
  · rw [cellOf h]; rfl
  · rw [cellOf h]; rfl
  · rw [cellOf h]; rfl
set_option maxHeartbeats 8000000 in
theorem l13Ok_any (g : Nat) (a0 a1 a2 : Option Addr) (n0 c0 n1 c1 n2 c2 : Nat) (ls lo hi : List Int) (w : World) (hg : AtB g a0 a1 a2 n0 c0 n1 c1 n2 c2 w) (h : IsB a0 a1 a2 n0 c0 n1 c1 n2 c2 ls lo hi w) :
    Calls Try.prog 91 #[.pointer (some ⟨g, 0, none⟩)] w fun e w' => e = .returned (.bool (blkB ls lo hi)) ∧ Below w.heap.size w w' := by
  obtain ⟨h0, h1, h2⟩ := h
  have l0 := h0.1
  have l1 := h1.1
  have l2 := h2.1
  have hm0 : n0 ≤ maxLen := Nat.le_trans h0.2.1 h0.2.2.1
  unfold maxLen at hm0
  have hm1 : n1 ≤ maxLen := Nat.le_trans h1.2.1 h1.2.2.1
  have hm2 : n2 ≤ maxLen := Nat.le_trans h2.2.1 h2.2.2.1
  unfold maxLen at hm1 hm2
  have HR : Hid (blkB ls lo hi = (inB n0 2 10 && insB ls 1 1000 && decide (n1 = n0 + 1) && decide (n2 = n0 + 1) && insB lo (-1000) 1000 && insB hi (-1000) 1000 && leB lo hi)) := by show _ = _; unfold blkB; rw [l0, l1, l2]
  have HG := Lib.hid hg
  obtain ⟨g0, g1, g2, glt⟩ := hg.cells
  have H0 := Lib.hid h0
  have H1 := Lib.hid h1
  have H2 := Lib.hid h2
  have HW := Lib.hid (fun W => l00In_any (n0 : Int) 2 10 W)
  have L0 := Lib.hid l0
  have L1 := Lib.hid l1
  have L2 := Lib.hid l2
  clear h0 h1 h2 l0 l1 l2 hg
  cases E1 : inB (n0 : Int) 2 10
  · have X1 := Lib.hid E1
    rw [E1] at HW
    clear E1
    go_enter Try.func91, Try.ntmps91
    go_wp2_with fail
    refine (HW.out _).mono ?_
    rintro e1 w1 ⟨rfl, rfl⟩
    go_wp2
    go_ret
    exact ⟨ret_bool (by rw [HR.out]; simp [X1.out]), (by repeat (first | exact Below.refl _ _ | assumption | refine Below.drew ?_ | refine below_drewN ?_ _ | refine Below.alloc ?_ (by first | omega | (simp; done) | (simp; omega)) _ | refine Below.setCell ?_ (by first | omega | (simp; done) | (simp; omega)) _))⟩
  have X1 := Lib.hid E1
  rw [E1] at HW
  have B1 := inB_t E1
  obtain ⟨B1, B2⟩ := B1
  clear E1
  cases E3 : decide (n1 = n0 + 1)
  · have X3 := Lib.hid E3
    have T3 : ((n1 : Int) != (n0 : Int) + 1) = true := by have := of_decide_eq_false E3; simp; omega
    clear E3
    go_enter Try.func91, Try.ntmps91
    go_wp2_with fail
    refine (HW.out _).mono ?_
    rintro e1 w1 ⟨rfl, rfl⟩
    go_wp2
    go_ret
    exact ⟨ret_bool (by rw [HR.out]; simp [X3.out]), (by repeat (first | exact Below.refl _ _ | assumption | refine Below.drew ?_ | refine below_drewN ?_ _ | refine Below.alloc ?_ (by first | omega | (simp; done) | (simp; omega)) _ | refine Below.setCell ?_ (by first | omega | (simp; done) | (simp; omega)) _))⟩
  have X3 := Lib.hid E3
  have T3 : ((n1 : Int) != (n0 : Int) + 1) = false := by have := of_decide_eq_true E3; simp; omega
  have HU3 := Lib.hid (of_decide_eq_true E3)
  clear E3
  cases E4 : decide (n2 = n0 + 1)
  · have X4 := Lib.hid E4
    have T4 : ((n2 : Int) != (n0 : Int) + 1) = true := by have := of_decide_eq_false E4; simp; omega
    clear E4
    go_enter Try.func91, Try.ntmps91
    go_wp2_with fail
    refine (HW.out _).mono ?_
    rintro e1 w1 ⟨rfl, rfl⟩
    go_wp2
    go_ret
    exact ⟨ret_bool (by rw [HR.out]; simp [X4.out]), (by repeat (first | exact Below.refl _ _ | assumption | refine Below.drew ?_ | refine below_drewN ?_ _ | refine Below.alloc ?_ (by first | omega | (simp; done) | (simp; omega)) _ | refine Below.setCell ?_ (by first | omega | (simp; done) | (simp; omega)) _))⟩
  have X4 := Lib.hid E4
  have T4 : ((n2 : Int) != (n0 : Int) + 1) = false := by have := of_decide_eq_true E4; simp; omega
  have HU4 := Lib.hid (of_decide_eq_true E4)
  clear E4
  go_enter Try.func91, Try.ntmps91
  go_wp2_with fail
  refine (HW.out _).mono ?_
  rintro e1 w1 ⟨rfl, rfl⟩
  go_wp2_with fail
  go_loop [4] (fun i => ∃ k : Nat, k ≤ n0 ∧ i = .int .i64 (k : Int) ∧ (∀ m, m < k → 1 ≤ ls.getD m 0 ∧ ls.getD m 0 ≤ 1000)) (fun i => (n0 - intOf i).toNat)
  case atStart => exact ⟨0, by omega, rfl, fun m hm => by omega⟩
  case round =>
    obtain ⟨k, hk, rfl, hI⟩ := hrel
    have HI := Lib.hid hI
    clear hI
    by_cases hlt : k < n0
    · have hlt' : (k : Int) < (n0 : Int) := by omega
      obtain ⟨b, o, rfl, hb', hc'⟩ := H0.out.cell hlt
      cases hx : inB (ls.getD k 0) 1 1000
      · have X2 : Hid (insB ls 1 1000 = false) := Lib.hid (insB_no (k := k) (by rw [L0.out]; exact hlt) hx)
        have HX := Lib.hid hx
        clear hx
        generalize ls.getD k 0 = x at *
        go_wp2_with fail
        refine (l00In_any _ _ _ _).mono ?_
        rintro e2 w2 ⟨rfl, rfl⟩
        rw [HX.out]
        go_wp2
        go_ret
        exact ⟨ret_bool (by rw [HR.out]; simp [X2.out]), (by repeat (first | exact Below.refl _ _ | assumption | refine Below.drew ?_ | refine below_drewN ?_ _ | refine Below.alloc ?_ (by first | omega | (simp; done) | (simp; omega)) _ | refine Below.setCell ?_ (by first | omega | (simp; done) | (simp; omega)) _))⟩
      · have HN : Hid (∀ m, m < k + 1 → 1 ≤ ls.getD m 0 ∧ ls.getD m 0 ≤ 1000) := Lib.hid fun m hm => by
          rcases Nat.lt_succ_iff_lt_or_eq.1 hm with h | rfl
          · exact HI.out m h
          · exact inB_t hx
        have HX := Lib.hid hx
        clear hx
        generalize ls.getD k 0 = x at *
        go_wp2_with fail
        refine (l00In_any _ _ _ _).mono ?_
        rintro e2 w2 ⟨rfl, rfl⟩
        rw [HX.out]
        go_wp2
        go_round
        case rel => exact ⟨k + 1, by omega, by go_num, HN.out⟩
        case measure => simp [intOf]; omega
    · obtain rfl : k = n0 := by omega
      have X2 : Hid (insB ls 1 1000 = true) := Lib.hid (insB_mk (fun m hm => HI.out m (by rw [L0.out] at hm; exact hm)))
      clear HI hlt hk
      go_wp2_with fail
      go_loopw [5] (fun i wr => ∃ j : Nat, j ≤ k + 1 ∧ i = .int .i64 (j : Int) ∧ (∀ m, m < j → (-1000 ≤ lo.getD m 0 ∧ lo.getD m 0 ≤ 1000) ∧ (lo.getD m 0 ≤ hi.getD m 0 ∧ hi.getD m 0 ≤ 1000)) ∧ Below w.heap.size w wr) (fun i _ => (k + 1 - intOf i).toNat)
      case atStart => exact ⟨0, by omega, rfl, fun m hm => by omega, Below.refl _ _⟩
      case round =>
        obtain ⟨j, hj, rfl, hI, hB⟩ := hrel
        have HI := Lib.hid hI
        clear hI g0 g1 g2 glt
        obtain ⟨g0, g1, g2, glt⟩ := (HG.out.below hB).cells
        have hz := hB.size
        by_cases hlt : j < k + 1
        · have hlt' : (j : Int) ≤ (k : Int) := by omega
          have hj1 : j < n1 := by have := HU3.out; omega
          have hj2 : j < n2 := by have := HU4.out; omega
          have hj1' : (j : Int) < (n1 : Int) := by omega
          have hj2' : (j : Int) < (n2 : Int) := by omega
          have hj0' : (0 : Int) ≤ (j : Int) := by omega
          obtain ⟨b1, o1, rfl, hb1', hc1'⟩ := (H1.out.below hB).cell hj1
          obtain ⟨b2, o2, rfl, hb2', hc2'⟩ := (H2.out.below hB).cell hj2
          cases hx : inB (lo.getD j 0) (-1000) 1000
          · have X5 : Hid (insB lo (-1000) 1000 = false) := Lib.hid (insB_no (k := j) (by rw [L1.out]; exact hj1) hx)
            have HX := Lib.hid hx
            clear hx
            generalize lo.getD j 0 = x at *
            generalize hi.getD j 0 = y at *
            go_wp2
            go_quiet ((go_at_call 92; exact Calls.quiet_of_same ((l00In_any _ _ _ _).mono fun _ _ h => ⟨h.1.trans (by rw [HX.out]), h.2.symm⟩)))
            go_wp2
            go_ret
            exact ⟨ret_bool (by rw [HR.out]; simp [X5.out]), (by repeat (first | exact Below.refl _ _ | assumption | refine Below.drew ?_ | refine below_drewN ?_ _ | refine Below.alloc ?_ (by first | omega | (simp; done) | (simp; omega)) _ | refine Below.setCell ?_ (by first | omega | (simp; done) | (simp; omega)) _))⟩
          · obtain ⟨y1, y2⟩ := inB_t hx
            have HX := Lib.hid hx
            clear hx
            cases hy : inB (hi.getD j 0) (lo.getD j 0) 1000
            · have X7 : Hid (leB lo hi = false ∨ insB hi (-1000) 1000 = false) := Lib.hid (by
                have hn := inB_f hy
                by_cases hle : lo.getD j 0 ≤ hi.getD j 0
                · right
                  exact insB_no (k := j) (by rw [L2.out]; exact hj2) (inB_no (by omega))
                · left
                  exact leB_no (k := j) (by rw [L1.out]; exact hj1) hle)
              have HY := Lib.hid hy
              clear hy y1 y2
              generalize lo.getD j 0 = x at *
              generalize hi.getD j 0 = y at *
              go_wp2
              go_quiet (first | (go_at_call 92; refine Calls.quiet_of_same (v := .bool true) ?_; (with_reducible refine (l00In_any x _ _ _).mono ?_); exact fun _ _ h => ⟨h.1.trans (by rw [HX.out]), h.2.symm⟩) | (go_at_call 92; refine Calls.quiet_of_same (v := .bool false) ?_; (with_reducible refine (l00In_any y x _ _).mono ?_); exact fun _ _ h => ⟨h.1.trans (by rw [HY.out]), h.2.symm⟩))
              go_wp2
              go_ret
              exact ⟨ret_bool (by rw [HR.out]; rcases X7.out with e | e <;> simp [e]), (by repeat (first | exact Below.refl _ _ | assumption | refine Below.drew ?_ | refine below_drewN ?_ _ | refine Below.alloc ?_ (by first | omega | (simp; done) | (simp; omega)) _ | refine Below.setCell ?_ (by first | omega | (simp; done) | (simp; omega)) _))⟩
            · obtain ⟨y3, y4⟩ := inB_t hy
              have HY := Lib.hid hy
              have HN : Hid (∀ m, m < j + 1 → (-1000 ≤ lo.getD m 0 ∧ lo.getD m 0 ≤ 1000) ∧ (lo.getD m 0 ≤ hi.getD m 0 ∧ hi.getD m 0 ≤ 1000)) := Lib.hid fun m hm => by
                rcases Nat.lt_succ_iff_lt_or_eq.1 hm with h | rfl
                · exact HI.out m h
                · exact ⟨⟨y1, y2⟩, y3, y4⟩
              clear hy y1 y2 y3 y4
              generalize lo.getD j 0 = x at *
              generalize hi.getD j 0 = y at *
              go_wp2
              go_quiet (first | (go_at_call 92; refine Calls.quiet_of_same (v := .bool true) ?_; (with_reducible refine (l00In_any x _ _ _).mono ?_); exact fun _ _ h => ⟨h.1.trans (by rw [HX.out]), h.2.symm⟩) | (go_at_call 92; refine Calls.quiet_of_same (v := .bool true) ?_; (with_reducible refine (l00In_any y x _ _).mono ?_); exact fun _ _ h => ⟨h.1.trans (by rw [HY.out]), h.2.symm⟩))
              go_wp2
              go_roundw
              case rel => exact ⟨j + 1, by omega, by go_num, HN.out, (by repeat (first | exact Below.refl _ _ | assumption | refine Below.drew ?_ | refine below_drewN ?_ _ | refine Below.alloc ?_ (by first | omega | (simp; done) | (simp; omega)) _ | refine Below.setCell ?_ (by first | omega | (simp; done) | (simp; omega)) _))⟩
              case measure => simp [intOf]; omega
        · obtain rfl : j = k + 1 := by omega
          have hlt' : ¬ ((k : Int) + 1 ≤ (k : Int)) := by omega
          have X5 : Hid (insB lo (-1000) 1000 = true) := Lib.hid (insB_mk (fun m hm => (HI.out m (by rw [L1.out] at hm; have := HU3.out; omega)).1))
          have X6 : Hid (insB hi (-1000) 1000 = true) := Lib.hid (insB_mk (fun m hm => by
            have := HI.out m (by rw [L2.out] at hm; have := HU4.out; omega)
            omega))
          have X7 : Hid (leB lo hi = true) := Lib.hid (leB_mk (fun m hm => (HI.out m (by rw [L1.out] at hm; have := HU3.out; omega)).2.1))
          go_wp2
          go_ret
          exact ⟨ret_bool (by rw [HR.out, X1.out, X2.out, X3.out, X4.out, X5.out, X6.out, X7.out]; rfl), (by repeat (first | exact Below.refl _ _ | assumption | refine Below.drew ?_ | refine below_drewN ?_ _ | refine Below.alloc ?_ (by first | omega | (simp; done) | (simp; omega)) _ | refine Below.setCell ?_ (by first | omega | (simp; done) | (simp; omega)) _))⟩
set_option maxHeartbeats 400000 in
theorem specValidBlocks_any (a0 a1 a2 : Option Addr) (n0 c0 n1 c1 n2 c2 : Nat) (ls lo hi : List Int) (w : World) (h : IsB a0 a1 a2 n0 c0 n1 c1 n2 c2 ls lo hi w) :
    Calls Try.prog 41 #[.agg #[.slice a0 n0 c0, .slice a1 n1 c1, .slice a2 n2 c2]] w fun e w' => e = .returned (.bool (blkB ls lo hi)) ∧ Below w.heap.size w w' := by
  have H := Lib.hid h
  clear h
  go_enter Try.func41, Try.ntmps41
  go_wp2_with fail
  refine (l13Ok_any _ _ _ _ _ _ _ _ _ _ _ _ _ _ (blk_new w _) (H.out.below (by repeat (first | exact Below.refl _ _ | assumption | refine Below.drew ?_ | refine below_drewN ?_ _ | refine Below.alloc ?_ (by first | omega | (simp; done) | (simp; omega)) _ | refine Below.setCell ?_ (by first | omega | (simp; done) | (simp; omega)) _)))).mono ?_
  rintro e1 w1 ⟨rfl, hb1⟩
  obtain ⟨hc1, hf1⟩ := bcell hb1
  have hz1 := hb1.size
  try simp at hz1
  have ha1 : Below w.heap.size w w1 := below_call (by repeat (first | exact Below.refl _ _ | assumption | refine Below.drew ?_ | refine below_drewN ?_ _ | refine Below.alloc ?_ (by first | omega | (simp; done) | (simp; omega)) _ | refine Below.setCell ?_ (by first | omega | (simp; done) | (simp; omega)) _)) hb1
  go_wp2
  go_ret
  exact ⟨rfl, (by repeat (first | exact Below.refl _ _ | assumption | refine Below.drew ?_ | refine below_drewN ?_ _ | refine Below.alloc ?_ (by first | omega | (simp; done) | (simp; omega)) _ | refine Below.setCell ?_ (by first | omega | (simp; done) | (simp; omega)) _))⟩
end Go.Proofs.Ytklhaanapembdaa
