/- Contract of the program's IsLine. -/
import Derived.Test.YtklhaanapembdaaIsLine
namespace Go.Proofs.Ytklhaanapembdaa
open Go.RowKit
set_option maxHeartbeats 8000000 in
theorem isLine_any (a0 a1 a2 : Option Addr) (n0 c0 n1 c1 n2 c2 : Nat) (ls lo hi : List Int) (a3 : Option Addr) (n3 c3 : Nat) (z : List Int) (d : Int) (w : World) (h : IsB a0 a1 a2 n0 c0 n1 c1 n2 c2 ls lo hi w) (hz : IsRow .i64 w a3 n3 c3 z) :
    Calls Try.prog 25 #[.agg #[.slice a0 n0 c0, .slice a1 n1 c1, .slice a2 n2 c2], .slice a3 n3 c3, .int .i64 d] w fun e w' => e = .returned (.tuple #[.bool (lineV ls lo hi z d), .int .i64 (lineC ls lo hi z d)]) ∧ Below w.heap.size w w' := by
  have H := Lib.hid h
  have HZ := Lib.hid hz
  have l0 := h.1.1
  have l1 := h.2.1.1
  have l2 := h.2.2.1
  have l3 := hz.1
  have hm3 : n3 ≤ maxLen := Nat.le_trans hz.2.1 hz.2.2.1
  unfold maxLen at hm3
  have hm1 : n1 ≤ maxLen := Nat.le_trans h.2.1.2.1 h.2.1.2.2.1
  unfold maxLen at hm1
  have HVB := Lib.hid (fun W hW => validBlocks_any a0 a1 a2 n0 c0 n1 c1 n2 c2 ls lo hi W hW)
  have HOU := Lib.hid (fun W hW => outside_any a3 n3 c3 z (-100000000000) 100000000000 W hW)
  have HWI := Lib.hid (fun W => within_any d 1 100000000 W)
  clear h hz
  cases g : blkB ls lo hi
  · have e := line_bad (z := z) (d := d) g
    rw [e.1, e.2]
    rw [g] at HVB
    clear g e l0 l1 l2 l3
    go_enter Try.func25, Try.ntmps25
    go_wp2_with fail
    refine (HVB.out _ (H.out.below (by repeat (first | exact Below.refl _ _ | assumption | refine Below.drew ?_ | refine below_drewN ?_ _ | refine Below.alloc ?_ (by first | omega | (simp; done) | (simp; omega)) _ | refine Below.setCell ?_ (by first | omega | (simp; done) | (simp; omega)) _)))).mono ?_
    rintro e1 w1 ⟨rfl, hb1⟩
    obtain ⟨hc1, hf1⟩ := bcell hb1
    have hz1 := hb1.size
    try simp at hz1
    have ha1 : Below w.heap.size w w1 := below_call (by repeat (first | exact Below.refl _ _ | assumption | refine Below.drew ?_ | refine below_drewN ?_ _ | refine Below.alloc ?_ (by first | omega | (simp; done) | (simp; omega)) _ | refine Below.setCell ?_ (by first | omega | (simp; done) | (simp; omega)) _)) hb1
    go_wp2
    go_ret2
    exact ⟨rfl, (by repeat (first | exact Below.refl _ _ | assumption | refine Below.drew ?_ | refine below_drewN ?_ _ | refine Below.alloc ?_ (by first | omega | (simp; done) | (simp; omega)) _ | refine Below.setCell ?_ (by first | omega | (simp; done) | (simp; omega)) _))⟩
  · obtain ⟨v1, v2, v3, v4, v5, v6, v7, v8⟩ := blkB_t g
    rw [g] at HVB
    cases e1 : decide (z.length = lo.length)
    · have e := line_range (z := z) (d := d) g (by rw [e1]; rfl)
      rw [e.1, e.2]
      have T1 : ((n3 : Int) != (n1 : Int)) = true := by have := of_decide_eq_false e1; simp; omega
      clear g e l0 l1 l2 l3 e1 v1 v2 v3 v4 v5 v6 v7 v8
      go_enter Try.func25, Try.ntmps25
      go_wp2_with fail
      refine (HVB.out _ (H.out.below (by repeat (first | exact Below.refl _ _ | assumption | refine Below.drew ?_ | refine below_drewN ?_ _ | refine Below.alloc ?_ (by first | omega | (simp; done) | (simp; omega)) _ | refine Below.setCell ?_ (by first | omega | (simp; done) | (simp; omega)) _)))).mono ?_
      rintro e1 w1 ⟨rfl, hb1⟩
      obtain ⟨hc1, hf1⟩ := bcell hb1
      have hz1 := hb1.size
      try simp at hz1
      have ha1 : Below w.heap.size w w1 := below_call (by repeat (first | exact Below.refl _ _ | assumption | refine Below.drew ?_ | refine below_drewN ?_ _ | refine Below.alloc ?_ (by first | omega | (simp; done) | (simp; omega)) _ | refine Below.setCell ?_ (by first | omega | (simp; done) | (simp; omega)) _)) hb1
      have F : Hid (w1.heap[w.heap.size]? = some _) := blk_call (by first | (refine blk_new' _ _ ?_; simp; done) | (refine blk_alloc (blk_new' _ _ ?_); simp; done) | (refine blk_alloc (blk_alloc (blk_new' _ _ ?_)); simp; done)) hb1
      have F_0 := cellOf F.out 0
      simp at F_0
      have F_1 := cellOf F.out 1
      simp at F_1
      have F_2 := cellOf F.out 2
      simp at F_2
      have F_lt := blk_lt F.out
      have F_le := Nat.le_of_lt F_lt
      have F_l1 := Nat.le_succ_of_le F_le
      go_wp2
      go_ret2
      exact ⟨rfl, (by repeat (first | exact Below.refl _ _ | assumption | refine Below.drew ?_ | refine below_drewN ?_ _ | refine Below.alloc ?_ (by first | omega | (simp; done) | (simp; omega)) _ | refine Below.setCell ?_ (by first | omega | (simp; done) | (simp; omega)) _))⟩
    · have T1 : ((n3 : Int) != (n1 : Int)) = false := by have := of_decide_eq_true e1; simp; omega
      have E1 := Lib.hid (show n3 = n1 by have := of_decide_eq_true e1; omega)
      cases e2 : insB z (-100000000000) 100000000000
      · have e := line_range (z := z) (d := d) g (by rw [e2]; simp)
        rw [e.1, e.2]
        rw [e2] at HOU
        clear g e l0 l1 l2 l3 e1 e2 v1 v2 v3 v4 v5 v6 v7 v8
        go_enter Try.func25, Try.ntmps25
        go_wp2_with fail
        refine (HVB.out _ (H.out.below (by repeat (first | exact Below.refl _ _ | assumption | refine Below.drew ?_ | refine below_drewN ?_ _ | refine Below.alloc ?_ (by first | omega | (simp; done) | (simp; omega)) _ | refine Below.setCell ?_ (by first | omega | (simp; done) | (simp; omega)) _)))).mono ?_
        rintro e1 w1 ⟨rfl, hb1⟩
        obtain ⟨hc1, hf1⟩ := bcell hb1
        have hz1 := hb1.size
        try simp at hz1
        have ha1 : Below w.heap.size w w1 := below_call (by repeat (first | exact Below.refl _ _ | assumption | refine Below.drew ?_ | refine below_drewN ?_ _ | refine Below.alloc ?_ (by first | omega | (simp; done) | (simp; omega)) _ | refine Below.setCell ?_ (by first | omega | (simp; done) | (simp; omega)) _)) hb1
        have F : Hid (w1.heap[w.heap.size]? = some _) := blk_call (by first | (refine blk_new' _ _ ?_; simp; done) | (refine blk_alloc (blk_new' _ _ ?_); simp; done) | (refine blk_alloc (blk_alloc (blk_new' _ _ ?_)); simp; done)) hb1
        have F_0 := cellOf F.out 0
        simp at F_0
        have F_1 := cellOf F.out 1
        simp at F_1
        have F_2 := cellOf F.out 2
        simp at F_2
        have F_lt := blk_lt F.out
        have F_le := Nat.le_of_lt F_lt
        have F_l1 := Nat.le_succ_of_le F_le
        go_wp2_with fail
        refine (HOU.out _ (HZ.out.below (by repeat (first | exact Below.refl _ _ | assumption | refine Below.drew ?_ | refine below_drewN ?_ _ | refine Below.alloc ?_ (by first | omega | (simp; done) | (simp; omega)) _ | refine Below.setCell ?_ (by first | omega | (simp; done) | (simp; omega)) _)))).mono ?_
        rintro e2 w2 ⟨rfl, hb2⟩
        obtain ⟨hc2, hf2⟩ := bcell hb2
        have hz2 := hb2.size
        try simp at hz2
        have ha2 : Below w.heap.size w w2 := below_call (by repeat (first | exact Below.refl _ _ | assumption | refine Below.drew ?_ | refine below_drewN ?_ _ | refine Below.alloc ?_ (by first | omega | (simp; done) | (simp; omega)) _ | refine Below.setCell ?_ (by first | omega | (simp; done) | (simp; omega)) _)) hb2
        go_wp2
        go_ret2
        exact ⟨rfl, (by repeat (first | exact Below.refl _ _ | assumption | refine Below.drew ?_ | refine below_drewN ?_ _ | refine Below.alloc ?_ (by first | omega | (simp; done) | (simp; omega)) _ | refine Below.setCell ?_ (by first | omega | (simp; done) | (simp; omega)) _))⟩
      · rw [e2] at HOU
        have HZB := Lib.hid (insB_t e2)
        cases e3 : inB d 1 100000000
        · have e := line_range (z := z) (d := d) g (by rw [e3]; simp)
          rw [e.1, e.2]
          rw [e3] at HWI
          clear g e l0 l1 l2 l3 e1 e2 e3 v1 v2 v3 v4 v5 v6 v7 v8
          go_enter Try.func25, Try.ntmps25
          go_wp2_with fail
          refine (HVB.out _ (H.out.below (by repeat (first | exact Below.refl _ _ | assumption | refine Below.drew ?_ | refine below_drewN ?_ _ | refine Below.alloc ?_ (by first | omega | (simp; done) | (simp; omega)) _ | refine Below.setCell ?_ (by first | omega | (simp; done) | (simp; omega)) _)))).mono ?_
          rintro e1 w1 ⟨rfl, hb1⟩
          obtain ⟨hc1, hf1⟩ := bcell hb1
          have hz1 := hb1.size
          try simp at hz1
          have ha1 : Below w.heap.size w w1 := below_call (by repeat (first | exact Below.refl _ _ | assumption | refine Below.drew ?_ | refine below_drewN ?_ _ | refine Below.alloc ?_ (by first | omega | (simp; done) | (simp; omega)) _ | refine Below.setCell ?_ (by first | omega | (simp; done) | (simp; omega)) _)) hb1
          have F : Hid (w1.heap[w.heap.size]? = some _) := blk_call (by first | (refine blk_new' _ _ ?_; simp; done) | (refine blk_alloc (blk_new' _ _ ?_); simp; done) | (refine blk_alloc (blk_alloc (blk_new' _ _ ?_)); simp; done)) hb1
          have F_0 := cellOf F.out 0
          simp at F_0
          have F_1 := cellOf F.out 1
          simp at F_1
          have F_2 := cellOf F.out 2
          simp at F_2
          have F_lt := blk_lt F.out
          have F_le := Nat.le_of_lt F_lt
          have F_l1 := Nat.le_succ_of_le F_le
          go_wp2_with fail
          refine (HOU.out _ (HZ.out.below (by repeat (first | exact Below.refl _ _ | assumption | refine Below.drew ?_ | refine below_drewN ?_ _ | refine Below.alloc ?_ (by first | omega | (simp; done) | (simp; omega)) _ | refine Below.setCell ?_ (by first | omega | (simp; done) | (simp; omega)) _)))).mono ?_
          rintro e2 w2 ⟨rfl, hb2⟩
          obtain ⟨hc2, hf2⟩ := bcell hb2
          have hz2 := hb2.size
          try simp at hz2
          have ha2 : Below w.heap.size w w2 := below_call (by repeat (first | exact Below.refl _ _ | assumption | refine Below.drew ?_ | refine below_drewN ?_ _ | refine Below.alloc ?_ (by first | omega | (simp; done) | (simp; omega)) _ | refine Below.setCell ?_ (by first | omega | (simp; done) | (simp; omega)) _)) hb2
          go_wp2_with fail
          refine (HWI.out _).mono ?_
          rintro e3 w3 ⟨rfl, rfl⟩
          go_wp2
          go_ret2
          exact ⟨rfl, (by repeat (first | exact Below.refl _ _ | assumption | refine Below.drew ?_ | refine below_drewN ?_ _ | refine Below.alloc ?_ (by first | omega | (simp; done) | (simp; omega)) _ | refine Below.setCell ?_ (by first | omega | (simp; done) | (simp; omega)) _))⟩
        · rw [e3] at HWI
          obtain ⟨d1, d2⟩ := inB_t e3
          have e := line_ok (z := z) (d := d) g (by rw [e1, e2, e3]; rfl)
          rw [e.1]
          have HV := Lib.hid e.2
          have G := Lib.hid g
          have L0 := Lib.hid l0
          have L1 := Lib.hid l1
          have L3 := Lib.hid l3
          have E2 := Lib.hid (show n2 = n1 by omega)
          have E0 := Lib.hid (show n1 = n0 + 1 by omega)
          rw [l0] at v1 v2
          have V3 := Lib.hid v3
          have V6 := Lib.hid v6
          have V7 := Lib.hid v7
          have b1 : n1 ≤ 11 := by omega
          have b3 : 3 ≤ n1 := by omega
          clear g e l0 l1 l2 l3 e1 e2 e3 v3 v4 v5 v6 v7 v8
          go_enter Try.func25, Try.ntmps25
          go_wp2_with fail
          refine (HVB.out _ (H.out.below (by repeat (first | exact Below.refl _ _ | assumption | refine Below.drew ?_ | refine below_drewN ?_ _ | refine Below.alloc ?_ (by first | omega | (simp; done) | (simp; omega)) _ | refine Below.setCell ?_ (by first | omega | (simp; done) | (simp; omega)) _)))).mono ?_
          rintro e1 w1 ⟨rfl, hb1⟩
          obtain ⟨hc1, hf1⟩ := bcell hb1
          have hz1 := hb1.size
          try simp at hz1
          have ha1 : Below w.heap.size w w1 := below_call (by repeat (first | exact Below.refl _ _ | assumption | refine Below.drew ?_ | refine below_drewN ?_ _ | refine Below.alloc ?_ (by first | omega | (simp; done) | (simp; omega)) _ | refine Below.setCell ?_ (by first | omega | (simp; done) | (simp; omega)) _)) hb1
          have F : Hid (w1.heap[w.heap.size]? = some _) := blk_call (by first | (refine blk_new' _ _ ?_; simp; done) | (refine blk_alloc (blk_new' _ _ ?_); simp; done) | (refine blk_alloc (blk_alloc (blk_new' _ _ ?_)); simp; done)) hb1
          have F_0 := cellOf F.out 0
          simp at F_0
          have F_1 := cellOf F.out 1
          simp at F_1
          have F_2 := cellOf F.out 2
          simp at F_2
          have F_lt := blk_lt F.out
          have F_le := Nat.le_of_lt F_lt
          have F_l1 := Nat.le_succ_of_le F_le
          clear hc1 hf1
          go_wp2_with fail
          refine (HOU.out _ (HZ.out.below (by repeat (first | exact Below.refl _ _ | assumption | refine Below.drew ?_ | refine below_drewN ?_ _ | refine Below.alloc ?_ (by first | omega | (simp; done) | (simp; omega)) _ | refine Below.setCell ?_ (by first | omega | (simp; done) | (simp; omega)) _)))).mono ?_
          rintro e2 w2 ⟨rfl, hb2⟩
          obtain ⟨hc2, hf2⟩ := bcell hb2
          have hz2 := hb2.size
          try simp at hz2
          have ha2 : Below w.heap.size w w2 := below_call (by repeat (first | exact Below.refl _ _ | assumption | refine Below.drew ?_ | refine below_drewN ?_ _ | refine Below.alloc ?_ (by first | omega | (simp; done) | (simp; omega)) _ | refine Below.setCell ?_ (by first | omega | (simp; done) | (simp; omega)) _)) hb2
          replace F := Lib.hid (blk_call (by first | exact F.out | exact blk_alloc F.out | exact blk_alloc (blk_alloc F.out)) hb2)
          replace F_0 := cellOf F.out 0
          simp at F_0
          replace F_1 := cellOf F.out 1
          simp at F_1
          replace F_2 := cellOf F.out 2
          simp at F_2
          replace F_lt := blk_lt F.out
          replace F_le := Nat.le_of_lt F_lt
          replace F_l1 := Nat.le_succ_of_le F_le
          clear hc2 hf2
          go_wp2_with fail
          refine (HWI.out _).mono ?_
          rintro e3 w3 ⟨rfl, rfl⟩
          go_wp2_with fail
          go_loop [8, 9, 35] (fun _ _ i => ∃ k : Nat, k ≤ n3 ∧ i = .int .i64 (k : Int) ∧ (∀ m, m < k → lo.getD m 0 * d ≤ z.getD m 0 ∧ z.getD m 0 ≤ hi.getD m 0 * d)) (fun _ _ i => (n3 - intOf i).toNat)
          case atStart => exact ⟨0, by omega, rfl, fun m hm => by omega⟩
          case round =>
            obtain ⟨k, hk, rfl, hI⟩ := hrel
            have HI := Lib.hid hI
            clear hI
            by_cases hlt : k < n3
            · have hlt' : (k : Int) < (n3 : Int) := by omega
              have hlt1 : (k : Int) < (n1 : Int) := by have := E1.out; omega
              have hlt2 : (k : Int) < (n2 : Int) := by have := E2.out; omega
              obtain ⟨b, o, rfl, hb', hc'⟩ := (HZ.out.below ha2).cell hlt
              obtain ⟨b4, o4, rfl, hb4', hc4'⟩ := (H.out.below ha2).2.1.cell (i := k) (by omega)
              obtain ⟨b5, o5, rfl, hb5', hc5'⟩ := (H.out.below ha2).2.2.cell (i := k) (by omega)
              obtain ⟨z1, z2⟩ := HZB.out k (by rw [L3.out]; exact hlt)
              obtain ⟨u1, u2⟩ := V6.out k (by rw [L0.out]; have := E0.out; omega)
              obtain ⟨u3, u4⟩ := V7.out k (by rw [L0.out]; have := E0.out; omega)
              obtain ⟨p1, p2⟩ := prod_bd (x := lo.getD k 0) (y := d) (A := 1000) (B := 100000000) u1 u2 (by omega) d2 (by omega)
              obtain ⟨p3, p4⟩ := prod_bd (x := hi.getD k 0) (y := d) (A := 1000) (B := 100000000) u3 u4 (by omega) d2 (by omega)
              by_cases hx : lo.getD k 0 * d ≤ z.getD k 0
              · by_cases hy : z.getD k 0 ≤ hi.getD k 0 * d
                · have HN : Hid (∀ m, m < k + 1 → lo.getD m 0 * d ≤ z.getD m 0 ∧ z.getD m 0 ≤ hi.getD m 0 * d) := Lib.hid fun m hm => by
                    rcases Nat.lt_succ_iff_lt_or_eq.1 hm with h | rfl
                    · exact HI.out m h
                    · exact ⟨hx, hy⟩
                  generalize lo.getD k 0 = x at *
                  generalize hi.getD k 0 = y at *
                  generalize z.getD k 0 = v at *
                  have hx' : decide (v < x * d) = false := decide_eq_false (by omega)
                  have hy' : decide (y * d < v) = false := decide_eq_false (by omega)
                  go_wp2
                  go_round
                  case rel => exact ⟨k + 1, by omega, by go_num, HN.out⟩
                  case measure => simp [intOf]; omega
                · have X7 : Hid (fitB lo hi z d = false) := Lib.hid (fitB_no (k := k) (by rw [L3.out]; exact hlt) (fun h => hy h.2))
                  generalize lo.getD k 0 = x at *
                  generalize hi.getD k 0 = y at *
                  generalize z.getD k 0 = v at *
                  have hx' : decide (v < x * d) = false := decide_eq_false (by omega)
                  have hy' : decide (y * d < v) = true := decide_eq_true (by omega)
                  go_wp2
                  go_ret2
                  exact ⟨by rw [HV.out, X7.out]; rfl, (by repeat (first | exact Below.refl _ _ | assumption | refine Below.drew ?_ | refine below_drewN ?_ _ | refine Below.alloc ?_ (by first | omega | (simp; done) | (simp; omega)) _ | refine Below.setCell ?_ (by first | omega | (simp; done) | (simp; omega)) _))⟩
              · have X7 : Hid (fitB lo hi z d = false) := Lib.hid (fitB_no (k := k) (by rw [L3.out]; exact hlt) (fun h => hx h.1))
                generalize lo.getD k 0 = x at *
                generalize hi.getD k 0 = y at *
                generalize z.getD k 0 = v at *
                have hx' : decide (v < x * d) = true := decide_eq_true (by omega)
                go_wp2
                go_ret2
                exact ⟨by rw [HV.out, X7.out]; rfl, (by repeat (first | exact Below.refl _ _ | assumption | refine Below.drew ?_ | refine below_drewN ?_ _ | refine Below.alloc ?_ (by first | omega | (simp; done) | (simp; omega)) _ | refine Below.setCell ?_ (by first | omega | (simp; done) | (simp; omega)) _))⟩
            · obtain rfl : k = n3 := by omega
              have X7 : Hid (fitB lo hi z d = true) := Lib.hid (fitB_mk (fun m hm => HI.out m (by rw [L3.out] at hm; exact hm)))
              clear HI
              go_wp2_with fail
              refine (moments_any _ _ _ _ _ _ _ _ _ _ _ _ _ (H.out.below ha2) G.out).mono ?_
              rintro e4 w4 ⟨am, cm, rfl, hO4, hb4⟩
              have ha4 : Below w.heap.size w w4 := below_call (by repeat (first | exact Below.refl _ _ | assumption | refine Below.drew ?_ | refine below_drewN ?_ _ | refine Below.alloc ?_ (by first | omega | (simp; done) | (simp; omega)) _ | refine Below.setCell ?_ (by first | omega | (simp; done) | (simp; omega)) _)) hb4
              have HM : Hid (IsRow .i64 w4 am n1 cm (moms ls n1)) := Lib.hid (by have := hO4.row; rwa [moms_len] at this)
              have HZ4 := Lib.hid (HZ.out.below ha4)
              rw [moms_len]
              have HMB : Hid (∀ i, i < n1 → -100000000000 ≤ (moms ls n1).getD i 0 ∧ (moms ls n1).getD i 0 ≤ 100000000000) := Lib.hid (fun i hi => by
                rw [moms_get _ _ _ hi]
                have := momAt_bd (ls := ls) (k := i) (by omega) (V3.out) (by rw [L0.out]; have := E0.out; omega)
                omega)
              have HMV : Hid (∀ i, 1 ≤ i → i + 1 < n1 → bendAt (moms ls n1) i = ls.getD (i - 1) 0 + ls.getD i 0) := Lib.hid (fun i h1 h2 => moms_bend ls n1 i h1 h2)
              have HZD : Hid (∀ i, i < n1 → -100000000000 ≤ z.getD i 0 ∧ z.getD i 0 ≤ 100000000000) := Lib.hid (fun i hi => HZB.out i (by rw [L3.out, E1.out]; exact hi))
              clear hO4
              have EK := Lib.hid E1.out
              have K3 : 3 ≤ k := by have := E1.out; omega
              have CL1 : Hid (∀ W, IsRow .i64 W a3 k c3 z → Calls Try.prog 76 #[.slice a3 k c3, .int .i64 1] W fun e w' => e = .returned (.int .i64 (bendAt z 1)) ∧ Below W.heap.size W w') := Lib.hid (fun W hW => bend_any a3 k c3 z 1 W hW (by omega) (by omega) (HZD.out _ (by have := EK.out; omega)) (HZD.out _ (by have := EK.out; omega)) (HZD.out _ (by have := EK.out; omega)))
              have CM1 : Hid (∀ W, IsRow .i64 W am n1 cm (moms ls n1) → Calls Try.prog 76 #[.slice am n1 cm, .int .i64 1] W fun e w' => e = .returned (.int .i64 (ls.getD 0 0 + ls.getD 1 0)) ∧ Below W.heap.size W w') := Lib.hid (fun W hW => by
                have := bend_any am n1 cm (moms ls n1) 1 W hW (by omega) (by omega) (HMB.out _ (by omega)) (HMB.out _ (by omega)) (HMB.out _ (by omega))
                rw [HMV.out 1 (by omega) (by omega)] at this
                exact this)
              obtain ⟨q1, q2⟩ := V3.out 0 (by rw [L0.out]; omega)
              obtain ⟨q3, q4⟩ := V3.out 1 (by rw [L0.out]; omega)
              obtain ⟨r1, r2⟩ := HZD.out 0 (by omega)
              obtain ⟨r3, r4⟩ := HZD.out 1 (by omega)
              obtain ⟨r5, r6⟩ := HZD.out 2 (by omega)
              have Y1 : -400000000000 ≤ bendAt z 1 ∧ bendAt z 1 ≤ 400000000000 := by unfold bendAt; show _ ≤ z.getD 2 0 - 2 * z.getD 1 0 + z.getD 0 0 ∧ z.getD 2 0 - 2 * z.getD 1 0 + z.getD 0 0 ≤ _; omega
              obtain ⟨y1, y2⟩ := Y1
              clear r1 r2 r3 r4 r5 r6
              go_wp2_with fail
              go_loopw [12] (fun i wr => ∃ j : Nat, 1 ≤ j ∧ j + 1 ≤ k ∧ i = .int .i64 (j : Int) ∧ (∀ m, m < j - 1 → bendAt z (m + 1) < 0 ∧ bendAt z (m + 1) * (ls.getD 0 0 + ls.getD 1 0) = bendAt z 1 * (ls.getD m 0 + ls.getD (m + 1) 0)) ∧ Below w4.heap.size w4 wr) (fun i _ => (k - intOf i).toNat)
              case atStart => exact ⟨1, by omega, by omega, rfl, fun m hm => by omega, Below.refl _ _⟩
              case round =>
                obtain ⟨j, hj1, hj2, rfl, hI, hB⟩ := hrel
                have HI := Lib.hid hI
                clear hI
                have HB := Lib.hid hB
                have haB : Below w.heap.size w wr := below_call ha4 hB
                have HZr := Lib.hid (HZ4.out.below hB)
                have HMr := Lib.hid (HM.out.below hB)
                by_cases hlj : j + 1 < k
                · have hlj' : (j : Int) + 1 < (k : Int) := by omega
                  have hjn : j - 1 < ls.length - 1 := by have := L0.out; have := E0.out; have := E1.out; omega
                  have CLj := Lib.hid (fun W (hW : IsRow .i64 W a3 k c3 z) => bend_any a3 k c3 z j W hW hj1 hlj (HZD.out _ (by have := EK.out; omega)) (HZD.out _ (by have := EK.out; omega)) (HZD.out _ (by have := EK.out; omega)))
                  have CMj : Hid (∀ W, IsRow .i64 W am n1 cm (moms ls n1) → Calls Try.prog 76 #[.slice am n1 cm, .int .i64 (j : Int)] W fun e w' => e = .returned (.int .i64 (ls.getD (j - 1) 0 + ls.getD j 0)) ∧ Below W.heap.size W w') := Lib.hid (fun W hW => by
                    have := bend_any am n1 cm (moms ls n1) j W hW hj1 (by have := EK.out; omega) (HMB.out _ (by have := EK.out; omega)) (HMB.out _ (by have := EK.out; omega)) (HMB.out _ (by have := EK.out; omega))
                    rw [HMV.out j hj1 (by have := EK.out; omega)] at this
                    exact this)
                  obtain ⟨s1, s2⟩ := V3.out (j - 1) (by omega)
                  obtain ⟨s3, s4⟩ := V3.out j (by omega)
                  have Yj : -400000000000 ≤ bendAt z j ∧ bendAt z j ≤ 400000000000 := by
                    have r1 := HZD.out (j - 1) (by have := EK.out; omega)
                    have r2 := HZD.out j (by have := EK.out; omega)
                    have r3 := HZD.out (j + 1) (by have := EK.out; omega)
                    unfold bendAt; omega
                  obtain ⟨x1, x2⟩ := Yj
                  have ej : j - 1 + 1 = j := by omega
                  by_cases hx : bendAt z j < 0
                  · have HBU : Hid (¬ bendAt z j * (ls.getD 0 0 + ls.getD 1 0) = bendAt z 1 * (ls.getD (j - 1) 0 + ls.getD j 0) → bendB ls z = false) := Lib.hid (fun hne => bendB_no (i := j - 1) hjn (by rw [ej]; exact hne))
                    have HN : Hid (bendAt z j * (ls.getD 0 0 + ls.getD 1 0) = bendAt z 1 * (ls.getD (j - 1) 0 + ls.getD j 0) → ∀ m, m < j + 1 - 1 → bendAt z (m + 1) < 0 ∧ bendAt z (m + 1) * (ls.getD 0 0 + ls.getD 1 0) = bendAt z 1 * (ls.getD m 0 + ls.getD (m + 1) 0)) := Lib.hid fun heq m hm => by
                      by_cases hmj : m < j - 1
                      · exact HI.out m hmj
                      · obtain rfl : m = j - 1 := by omega
                        rw [ej]
                        exact ⟨hx, heq⟩
                    have Bb : 0 ≤ ls.getD 0 0 + ls.getD 1 0 ∧ ls.getD 0 0 + ls.getD 1 0 ≤ 2000 := by omega
                    have Mb : 0 ≤ ls.getD (j - 1) 0 + ls.getD j 0 ∧ ls.getD (j - 1) 0 + ls.getD j 0 ≤ 2000 := by omega
                    clear q1 q2 q3 q4 s1 s2 s3 s4
                    generalize bendAt z j = x at *
                    generalize bendAt z 1 = y at *
                    generalize ls.getD 0 0 + ls.getD 1 0 = B at *
                    generalize ls.getD (j - 1) 0 + ls.getD j 0 = M at *
                    obtain ⟨Bb1, Bb2⟩ := Bb
                    obtain ⟨Mb1, Mb2⟩ := Mb
                    obtain ⟨t1, t2⟩ := prod_bd (x := x) (y := B) (A := 400000000000) (B := 2000) x1 x2 Bb1 Bb2 (by omega)
                    obtain ⟨t3, t4⟩ := prod_bd (x := y) (y := M) (A := 400000000000) (B := 2000) y1 y2 Mb1 Mb2 (by omega)
                    have hx' : decide (0 ≤ x) = false := decide_eq_false (by omega)
                    by_cases hne : x * B = y * M
                    · have HN2 := Lib.hid (HN.out hne)
                      have hq : (x * B != y * M) = false := by simpa using hne
                      clear hne HBU HN
                      go_wp2_with fail
                      refine (CLj.out _ (HZr.out.below (by repeat (first | exact Below.refl _ _ | assumption | refine Below.drew ?_ | refine below_drewN ?_ _ | refine Below.alloc ?_ (by first | omega | (simp; done) | (simp; omega)) _ | refine Below.setCell ?_ (by first | omega | (simp; done) | (simp; omega)) _)))).mono ?_
                      rintro e5 w5 ⟨rfl, hb5⟩
                      obtain ⟨hc5, hf5⟩ := bcell hb5
                      have hz5 := hb5.size
                      try simp at hz5
                      have ha5 : Below w.heap.size w w5 := below_call (by repeat (first | exact Below.refl _ _ | assumption | refine Below.drew ?_ | refine below_drewN ?_ _ | refine Below.alloc ?_ (by first | omega | (simp; done) | (simp; omega)) _ | refine Below.setCell ?_ (by first | omega | (simp; done) | (simp; omega)) _)) hb5
                      go_wp2_with fail
                      refine (CLj.out _ (HZr.out.below (by repeat (first | exact Below.refl _ _ | assumption | refine Below.drew ?_ | refine below_drewN ?_ _ | refine Below.alloc ?_ (by first | omega | (simp; done) | (simp; omega)) _ | refine Below.setCell ?_ (by first | omega | (simp; done) | (simp; omega)) _)))).mono ?_
                      rintro e6 w6 ⟨rfl, hb6⟩
                      have hy6 := hb6.size
                      replace hb6 := below_call hb5 hb6
                      clear hc5 hf5
                      obtain ⟨hc6, hf6⟩ := bcell hb6
                      have hz6 := hb6.size
                      try simp at hz6
                      have ha6 : Below w.heap.size w w6 := below_call (by repeat (first | exact Below.refl _ _ | assumption | refine Below.drew ?_ | refine below_drewN ?_ _ | refine Below.alloc ?_ (by first | omega | (simp; done) | (simp; omega)) _ | refine Below.setCell ?_ (by first | omega | (simp; done) | (simp; omega)) _)) hb6
                      go_wp2_with fail
                      refine (CM1.out _ (HMr.out.below (by repeat (first | exact Below.refl _ _ | assumption | refine Below.drew ?_ | refine below_drewN ?_ _ | refine Below.alloc ?_ (by first | omega | (simp; done) | (simp; omega)) _ | refine Below.setCell ?_ (by first | omega | (simp; done) | (simp; omega)) _)))).mono ?_
                      rintro e7 w7 ⟨rfl, hb7⟩
                      have hy7 := hb7.size
                      replace hb7 := below_call hb6 hb7
                      clear hc6 hf6
                      obtain ⟨hc7, hf7⟩ := bcell hb7
                      have hz7 := hb7.size
                      try simp at hz7
                      have ha7 : Below w.heap.size w w7 := below_call (by repeat (first | exact Below.refl _ _ | assumption | refine Below.drew ?_ | refine below_drewN ?_ _ | refine Below.alloc ?_ (by first | omega | (simp; done) | (simp; omega)) _ | refine Below.setCell ?_ (by first | omega | (simp; done) | (simp; omega)) _)) hb7
                      go_wp2_with fail
                      refine (CL1.out _ (HZr.out.below (by repeat (first | exact Below.refl _ _ | assumption | refine Below.drew ?_ | refine below_drewN ?_ _ | refine Below.alloc ?_ (by first | omega | (simp; done) | (simp; omega)) _ | refine Below.setCell ?_ (by first | omega | (simp; done) | (simp; omega)) _)))).mono ?_
                      rintro e8 w8 ⟨rfl, hb8⟩
                      have hy8 := hb8.size
                      replace hb8 := below_call hb7 hb8
                      clear hc7 hf7
                      obtain ⟨hc8, hf8⟩ := bcell hb8
                      have hz8 := hb8.size
                      try simp at hz8
                      have ha8 : Below w.heap.size w w8 := below_call (by repeat (first | exact Below.refl _ _ | assumption | refine Below.drew ?_ | refine below_drewN ?_ _ | refine Below.alloc ?_ (by first | omega | (simp; done) | (simp; omega)) _ | refine Below.setCell ?_ (by first | omega | (simp; done) | (simp; omega)) _)) hb8
                      go_wp2_with fail
                      refine (CMj.out _ (HMr.out.below (by repeat (first | exact Below.refl _ _ | assumption | refine Below.drew ?_ | refine below_drewN ?_ _ | refine Below.alloc ?_ (by first | omega | (simp; done) | (simp; omega)) _ | refine Below.setCell ?_ (by first | omega | (simp; done) | (simp; omega)) _)))).mono ?_
                      rintro e9 w9 ⟨rfl, hb9⟩
                      have hy9 := hb9.size
                      replace hb9 := below_call hb8 hb9
                      clear hc8 hf8
                      obtain ⟨hc9, hf9⟩ := bcell hb9
                      have hz9 := hb9.size
                      try simp at hz9
                      have ha9 : Below w.heap.size w w9 := below_call (by repeat (first | exact Below.refl _ _ | assumption | refine Below.drew ?_ | refine below_drewN ?_ _ | refine Below.alloc ?_ (by first | omega | (simp; done) | (simp; omega)) _ | refine Below.setCell ?_ (by first | omega | (simp; done) | (simp; omega)) _)) hb9
                      go_wp2
                      go_roundw
                      case rel => exact ⟨j + 1, by omega, by omega, by go_num, HN2.out, below_call HB.out hb9⟩
                      case measure => simp [intOf]; omega
                    · have X8 := Lib.hid (HBU.out hne)
                      have hq : (x * B != y * M) = true := by simpa using hne
                      clear hne HBU HN
                      go_wp2_with fail
                      refine (CLj.out _ (HZr.out.below (by repeat (first | exact Below.refl _ _ | assumption | refine Below.drew ?_ | refine below_drewN ?_ _ | refine Below.alloc ?_ (by first | omega | (simp; done) | (simp; omega)) _ | refine Below.setCell ?_ (by first | omega | (simp; done) | (simp; omega)) _)))).mono ?_
                      rintro e5 w5 ⟨rfl, hb5⟩
                      obtain ⟨hc5, hf5⟩ := bcell hb5
                      have hz5 := hb5.size
                      try simp at hz5
                      have ha5 : Below w.heap.size w w5 := below_call (by repeat (first | exact Below.refl _ _ | assumption | refine Below.drew ?_ | refine below_drewN ?_ _ | refine Below.alloc ?_ (by first | omega | (simp; done) | (simp; omega)) _ | refine Below.setCell ?_ (by first | omega | (simp; done) | (simp; omega)) _)) hb5
                      go_wp2_with fail
                      refine (CLj.out _ (HZr.out.below (by repeat (first | exact Below.refl _ _ | assumption | refine Below.drew ?_ | refine below_drewN ?_ _ | refine Below.alloc ?_ (by first | omega | (simp; done) | (simp; omega)) _ | refine Below.setCell ?_ (by first | omega | (simp; done) | (simp; omega)) _)))).mono ?_
                      rintro e6 w6 ⟨rfl, hb6⟩
                      have hy6 := hb6.size
                      replace hb6 := below_call hb5 hb6
                      clear hc5 hf5
                      obtain ⟨hc6, hf6⟩ := bcell hb6
                      have hz6 := hb6.size
                      try simp at hz6
                      have ha6 : Below w.heap.size w w6 := below_call (by repeat (first | exact Below.refl _ _ | assumption | refine Below.drew ?_ | refine below_drewN ?_ _ | refine Below.alloc ?_ (by first | omega | (simp; done) | (simp; omega)) _ | refine Below.setCell ?_ (by first | omega | (simp; done) | (simp; omega)) _)) hb6
                      go_wp2_with fail
                      refine (CM1.out _ (HMr.out.below (by repeat (first | exact Below.refl _ _ | assumption | refine Below.drew ?_ | refine below_drewN ?_ _ | refine Below.alloc ?_ (by first | omega | (simp; done) | (simp; omega)) _ | refine Below.setCell ?_ (by first | omega | (simp; done) | (simp; omega)) _)))).mono ?_
                      rintro e7 w7 ⟨rfl, hb7⟩
                      have hy7 := hb7.size
                      replace hb7 := below_call hb6 hb7
                      clear hc6 hf6
                      obtain ⟨hc7, hf7⟩ := bcell hb7
                      have hz7 := hb7.size
                      try simp at hz7
                      have ha7 : Below w.heap.size w w7 := below_call (by repeat (first | exact Below.refl _ _ | assumption | refine Below.drew ?_ | refine below_drewN ?_ _ | refine Below.alloc ?_ (by first | omega | (simp; done) | (simp; omega)) _ | refine Below.setCell ?_ (by first | omega | (simp; done) | (simp; omega)) _)) hb7
                      go_wp2_with fail
                      refine (CL1.out _ (HZr.out.below (by repeat (first | exact Below.refl _ _ | assumption | refine Below.drew ?_ | refine below_drewN ?_ _ | refine Below.alloc ?_ (by first | omega | (simp; done) | (simp; omega)) _ | refine Below.setCell ?_ (by first | omega | (simp; done) | (simp; omega)) _)))).mono ?_
                      rintro e8 w8 ⟨rfl, hb8⟩
                      have hy8 := hb8.size
                      replace hb8 := below_call hb7 hb8
                      clear hc7 hf7
                      obtain ⟨hc8, hf8⟩ := bcell hb8
                      have hz8 := hb8.size
                      try simp at hz8
                      have ha8 : Below w.heap.size w w8 := below_call (by repeat (first | exact Below.refl _ _ | assumption | refine Below.drew ?_ | refine below_drewN ?_ _ | refine Below.alloc ?_ (by first | omega | (simp; done) | (simp; omega)) _ | refine Below.setCell ?_ (by first | omega | (simp; done) | (simp; omega)) _)) hb8
                      go_wp2_with fail
                      refine (CMj.out _ (HMr.out.below (by repeat (first | exact Below.refl _ _ | assumption | refine Below.drew ?_ | refine below_drewN ?_ _ | refine Below.alloc ?_ (by first | omega | (simp; done) | (simp; omega)) _ | refine Below.setCell ?_ (by first | omega | (simp; done) | (simp; omega)) _)))).mono ?_
                      rintro e9 w9 ⟨rfl, hb9⟩
                      have hy9 := hb9.size
                      replace hb9 := below_call hb8 hb9
                      clear hc8 hf8
                      obtain ⟨hc9, hf9⟩ := bcell hb9
                      have hz9 := hb9.size
                      try simp at hz9
                      have ha9 : Below w.heap.size w w9 := below_call (by repeat (first | exact Below.refl _ _ | assumption | refine Below.drew ?_ | refine below_drewN ?_ _ | refine Below.alloc ?_ (by first | omega | (simp; done) | (simp; omega)) _ | refine Below.setCell ?_ (by first | omega | (simp; done) | (simp; omega)) _)) hb9
                      go_wp2
                      go_ret2
                      exact ⟨by rw [HV.out, X7.out, X8.out]; rfl, below_call haB hb9⟩
                  · have X8 : Hid (bendB ls z = false) := Lib.hid (bendB_up (i := j - 1) hjn (fun i hi => (V3.out i hi).1) (by rw [ej]; exact hx))
                    generalize bendAt z j = x at *
                    have hx' : decide (0 ≤ x) = true := decide_eq_true (by omega)
                    have hx2 : 0 ≤ x := by omega
                    go_wp2_with fail
                    refine (CLj.out _ (HZr.out.below (by repeat (first | exact Below.refl _ _ | assumption | refine Below.drew ?_ | refine below_drewN ?_ _ | refine Below.alloc ?_ (by first | omega | (simp; done) | (simp; omega)) _ | refine Below.setCell ?_ (by first | omega | (simp; done) | (simp; omega)) _)))).mono ?_
                    rintro e5 w5 ⟨rfl, hb5⟩
                    obtain ⟨hc5, hf5⟩ := bcell hb5
                    have hz5 := hb5.size
                    try simp at hz5
                    have ha5 : Below w.heap.size w w5 := below_call (by repeat (first | exact Below.refl _ _ | assumption | refine Below.drew ?_ | refine below_drewN ?_ _ | refine Below.alloc ?_ (by first | omega | (simp; done) | (simp; omega)) _ | refine Below.setCell ?_ (by first | omega | (simp; done) | (simp; omega)) _)) hb5
                    go_wp2
                    go_ret2
                    exact ⟨by rw [HV.out, X7.out, X8.out]; rfl, below_call haB hb5⟩
                · have hlj' : ¬ (j : Int) + 1 < (k : Int) := by omega
                  have X8 : Hid (bendB ls z = true) := Lib.hid (by
                    have hk : ls.length - 1 = j - 1 := by have := L0.out; have := E0.out; have := E1.out; omega
                    refine bendB_mk ?_ (fun i hi => (HI.out i (by omega)).2)
                    exact (HI.out 0 (by omega)).1)
                  go_wp2
                  go_ret2
                  exact ⟨by rw [HV.out, X7.out, X8.out]; rfl, haB⟩
end Go.Proofs.Ytklhaanapembdaa
