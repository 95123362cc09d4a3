/- Contract of the reference's IsLine. -/
import Derived.Test.YtklhaanapembdaaM04

namespace Go.Proofs.Ytklhaanapembdaa
open Go.RowKit
theorem IsRow.sameL {w : World} {b o len cap : Nat} {zs : List Int} (h : IsRow .i64 w (some ⟨b, o, none⟩) len cap zs) {i : Nat} (hi : i < len) : w.cell? ⟨b, o + i, none⟩ = some (.int .i64 (zs.getD i 0)) := by
  obtain ⟨b', o', e, _, hc⟩ := h.cell hi
  injection e with e
  injection e with e1 e2
  subst e1 e2
  exact hc
theorem IsRow.addrL {w : World} {a : Option Addr} {len cap : Nat} {zs : List Int} (h : IsRow .i64 w a len cap zs) (hi : 0 < len) : ∃ b o, a = some ⟨b, o, none⟩ := by
  obtain ⟨b', o', e, _⟩ := h.cell hi
  exact ⟨b', o', e⟩
set_option maxRecDepth 100000 in
set_option maxHeartbeats 8000000 in
theorem specIsLine_any (a0 a1 a2 : Option Addr) (n0 c0 n1 c1 n2 c2 : Nat) (ls lo hi : List Int) (a3 : Option Addr) (n3 c3 : Nat) (z : List Int) (d : Int) (w : World) (h : IsB a0 a1 a2 n0 c0 n1 c1 n2 c2 ls lo hi w) (hz : IsRow .i64 w a3 n3 c3 z) :
    Calls Try.prog 38 #[.agg #[.slice a0 n0 c0, .slice a1 n1 c1, .slice a2 n2 c2], .slice a3 n3 c3, .int .i64 d] w fun e w' => e = .returned (.tuple #[.bool (lineV ls lo hi z d), .int .i64 (lineC ls lo hi z d)]) ∧ Below w.heap.size w w' := by
  have H := Lib.hid h
  have HZ := Lib.hid hz
  have l0 := h.1.1
  have l1 := h.2.1.1
  have l2 := h.2.2.1
  have l3 := hz.1
  have hm3 : n3 ≤ maxLen := Nat.le_trans hz.2.1 hz.2.2.1
  unfold maxLen at hm3
  have hm1 : n1 ≤ maxLen := Nat.le_trans h.2.1.2.1 h.2.1.2.2.1
  unfold maxLen at hm1
  have HVB := Lib.hid (fun g W hg hW => l13Ok_any g a0 a1 a2 n0 c0 n1 c1 n2 c2 ls lo hi W hg hW)
  have HWI := Lib.hid (fun W => l00In_any d 1 100000000 W)
  clear h hz
  cases g : blkB ls lo hi
  · have e := line_bad (z := z) (d := d) g
    rw [e.1, e.2]
    rw [g] at HVB
    clear g e l0 l1 l2 l3
    go_enter Try.func38, Try.ntmps38
    go_wp2_with fail
    refine (HVB.out _ _ (blk_new w _) (H.out.below (by repeat (first | exact Below.refl _ _ | assumption | refine Below.drew ?_ | refine below_drewN ?_ _ | refine Below.alloc ?_ (by first | omega | (simp; done) | (simp; omega)) _ | refine Below.setCell ?_ (by first | omega | (simp; done) | (simp; omega)) _)))).mono ?_
    rintro e1 w1 ⟨rfl, hb1⟩
    obtain ⟨hc1, hf1⟩ := bcell hb1
    have hz1 := hb1.size
    try simp at hz1
    have ha1 : Below w.heap.size w w1 := below_call (by repeat (first | exact Below.refl _ _ | assumption | refine Below.drew ?_ | refine below_drewN ?_ _ | refine Below.alloc ?_ (by first | omega | (simp; done) | (simp; omega)) _ | refine Below.setCell ?_ (by first | omega | (simp; done) | (simp; omega)) _)) hb1
    go_wp2
    go_ret2
    exact ⟨rfl, (by repeat (first | exact Below.refl _ _ | assumption | refine Below.drew ?_ | refine below_drewN ?_ _ | refine Below.alloc ?_ (by first | omega | (simp; done) | (simp; omega)) _ | refine Below.setCell ?_ (by first | omega | (simp; done) | (simp; omega)) _))⟩
  · obtain ⟨v1, v2, v3, v4, v5, v6, v7, v8⟩ := blkB_t g
    rw [g] at HVB
    cases e1 : decide (z.length = lo.length)
    · have e := line_range (z := z) (d := d) g (by rw [e1]; rfl)
      rw [e.1, e.2]
      have T1 : ((n3 : Int) != (n1 : Int)) = true := by have := of_decide_eq_false e1; simp; omega
      clear g e l0 l1 l2 l3 e1 v1 v2 v3 v4 v5 v6 v7 v8
      go_enter Try.func38, Try.ntmps38
      go_wp2_with fail
      refine (HVB.out _ _ (blk_new w _) (H.out.below (by repeat (first | exact Below.refl _ _ | assumption | refine Below.drew ?_ | refine below_drewN ?_ _ | refine Below.alloc ?_ (by first | omega | (simp; done) | (simp; omega)) _ | refine Below.setCell ?_ (by first | omega | (simp; done) | (simp; omega)) _)))).mono ?_
      rintro e1 w1 ⟨rfl, hb1⟩
      obtain ⟨hc1, hf1⟩ := bcell hb1
      have hz1 := hb1.size
      try simp at hz1
      have ha1 : Below w.heap.size w w1 := below_call (by repeat (first | exact Below.refl _ _ | assumption | refine Below.drew ?_ | refine below_drewN ?_ _ | refine Below.alloc ?_ (by first | omega | (simp; done) | (simp; omega)) _ | refine Below.setCell ?_ (by first | omega | (simp; done) | (simp; omega)) _)) hb1
      have F : Hid (w1.heap[w.heap.size]? = some _) := blk_call (by first | (refine blk_new' _ _ ?_; simp; done) | (refine blk_alloc (blk_new' _ _ ?_); simp; done) | (refine blk_alloc (blk_alloc (blk_new' _ _ ?_)); simp; done)) hb1
      have F_0 := cellOf F.out 0
      simp at F_0
      have F_1 := cellOf F.out 1
      simp at F_1
      have F_2 := cellOf F.out 2
      simp at F_2
      have F_lt := blk_lt F.out
      have F_le := Nat.le_of_lt F_lt
      have F_l1 := Nat.le_succ_of_le F_le
      go_wp2
      go_ret2
      exact ⟨rfl, (by repeat (first | exact Below.refl _ _ | assumption | refine Below.drew ?_ | refine below_drewN ?_ _ | refine Below.alloc ?_ (by first | omega | (simp; done) | (simp; omega)) _ | refine Below.setCell ?_ (by first | omega | (simp; done) | (simp; omega)) _))⟩
    · have T1 : ((n3 : Int) != (n1 : Int)) = false := by have := of_decide_eq_true e1; simp; omega
      have E1 := Lib.hid (show n3 = n1 by have := of_decide_eq_true e1; omega)
      cases e3 : inB d 1 100000000
      · have e := line_range (z := z) (d := d) g (by rw [e3]; simp)
        rw [e.1, e.2]
        rw [e3] at HWI
        clear g e l0 l1 l2 l3 e1 e3 v1 v2 v3 v4 v5 v6 v7 v8
        go_enter Try.func38, Try.ntmps38
        go_wp2_with fail
        refine (HVB.out _ _ (blk_new w _) (H.out.below (by repeat (first | exact Below.refl _ _ | assumption | refine Below.drew ?_ | refine below_drewN ?_ _ | refine Below.alloc ?_ (by first | omega | (simp; done) | (simp; omega)) _ | refine Below.setCell ?_ (by first | omega | (simp; done) | (simp; omega)) _)))).mono ?_
        rintro e1 w1 ⟨rfl, hb1⟩
        obtain ⟨hc1, hf1⟩ := bcell hb1
        have hz1 := hb1.size
        try simp at hz1
        have ha1 : Below w.heap.size w w1 := below_call (by repeat (first | exact Below.refl _ _ | assumption | refine Below.drew ?_ | refine below_drewN ?_ _ | refine Below.alloc ?_ (by first | omega | (simp; done) | (simp; omega)) _ | refine Below.setCell ?_ (by first | omega | (simp; done) | (simp; omega)) _)) hb1
        have F : Hid (w1.heap[w.heap.size]? = some _) := blk_call (by first | (refine blk_new' _ _ ?_; simp; done) | (refine blk_alloc (blk_new' _ _ ?_); simp; done) | (refine blk_alloc (blk_alloc (blk_new' _ _ ?_)); simp; done)) hb1
        have F_0 := cellOf F.out 0
        simp at F_0
        have F_1 := cellOf F.out 1
        simp at F_1
        have F_2 := cellOf F.out 2
        simp at F_2
        have F_lt := blk_lt F.out
        have F_le := Nat.le_of_lt F_lt
        have F_l1 := Nat.le_succ_of_le F_le
        go_wp2_with fail
        refine (HWI.out _).mono ?_
        rintro e3 w3 ⟨rfl, rfl⟩
        go_wp2
        go_ret2
        exact ⟨rfl, (by repeat (first | exact Below.refl _ _ | assumption | refine Below.drew ?_ | refine below_drewN ?_ _ | refine Below.alloc ?_ (by first | omega | (simp; done) | (simp; omega)) _ | refine Below.setCell ?_ (by first | omega | (simp; done) | (simp; omega)) _))⟩
      · rw [e3] at HWI
        obtain ⟨d1, d2⟩ := inB_t e3
        have HNO : Hid (insB z (-100000000000) 100000000000 = false → lineC ls lo hi z d = 2 ∧ lineV ls lo hi z d = false) := Lib.hid (fun e2 => line_range g (by rw [e2]; simp))
        have HOK : Hid (insB z (-100000000000) 100000000000 = true → lineC ls lo hi z d = 0 ∧ lineV ls lo hi z d = (fitB lo hi z d && bendB ls z)) := Lib.hid (fun e2 => line_ok g (by rw [e1, e2, e3]; rfl))
        have G := Lib.hid g
        have L0 := Lib.hid l0
        have L1 := Lib.hid l1
        have L3 := Lib.hid l3
        have E2 := Lib.hid (show n2 = n1 by omega)
        have E0 := Lib.hid (show n1 = n0 + 1 by omega)
        rw [l0] at v1 v2
        have V3 := Lib.hid v3
        have V6 := Lib.hid v6
        have V7 := Lib.hid v7
        have b1 : n1 ≤ 11 := by omega
        have b3 : 3 ≤ n1 := by omega
        clear g l0 l1 l2 l3 e1 e3 v3 v4 v5 v6 v7 v8
        go_enter Try.func38, Try.ntmps38
        go_wp2_with fail
        refine (HVB.out _ _ (blk_new w _) (H.out.below (by repeat (first | exact Below.refl _ _ | assumption | refine Below.drew ?_ | refine below_drewN ?_ _ | refine Below.alloc ?_ (by first | omega | (simp; done) | (simp; omega)) _ | refine Below.setCell ?_ (by first | omega | (simp; done) | (simp; omega)) _)))).mono ?_
        rintro e1 w1 ⟨rfl, hb1⟩
        obtain ⟨hc1, hf1⟩ := bcell hb1
        have hz1 := hb1.size
        try simp at hz1
        have ha1 : Below w.heap.size w w1 := below_call (by repeat (first | exact Below.refl _ _ | assumption | refine Below.drew ?_ | refine below_drewN ?_ _ | refine Below.alloc ?_ (by first | omega | (simp; done) | (simp; omega)) _ | refine Below.setCell ?_ (by first | omega | (simp; done) | (simp; omega)) _)) hb1
        have F : Hid (w1.heap[w.heap.size]? = some _) := blk_call (by first | (refine blk_new' _ _ ?_; simp; done) | (refine blk_alloc (blk_new' _ _ ?_); simp; done) | (refine blk_alloc (blk_alloc (blk_new' _ _ ?_)); simp; done)) hb1
        have F_0 := cellOf F.out 0
        simp at F_0
        have F_1 := cellOf F.out 1
        simp at F_1
        have F_2 := cellOf F.out 2
        simp at F_2
        have F_lt := blk_lt F.out
        have F_le := Nat.le_of_lt F_lt
        have F_l1 := Nat.le_succ_of_le F_le
        clear hc1 hf1
        go_wp2_with fail
        refine (HWI.out _).mono ?_
        rintro e3 w3 ⟨rfl, rfl⟩
        go_wp2_with fail
        go_loop [8] (fun i => ∃ k : Nat, k ≤ n3 ∧ i = .int .i64 (k : Int) ∧ (∀ m, m < k → -100000000000 ≤ z.getD m 0 ∧ z.getD m 0 ≤ 100000000000)) (fun i => (n3 - intOf i).toNat)
        case atStart => exact ⟨0, by omega, rfl, fun m hm => by omega⟩
        case round =>
          obtain ⟨k, hk, rfl, hI⟩ := hrel
          have HI := Lib.hid hI
          clear hI
          by_cases hlt : k < n3
          · have hlt' : (k : Int) < (n3 : Int) := by omega
            obtain ⟨b, o, rfl, hb', hc'⟩ := (HZ.out.below ha1).cell hlt
            cases hx : inB (z.getD k 0) (-100000000000) 100000000000
            · have X2 := Lib.hid (HNO.out (insB_no (k := k) (by rw [L3.out]; exact hlt) hx))
              have HX := Lib.hid hx
              clear hx
              generalize z.getD k 0 = x at *
              go_wp2_with fail
              refine (l00In_any _ _ _ _).mono ?_
              rintro e4 w4 ⟨rfl, rfl⟩
              rw [HX.out]
              go_wp2
              go_ret2
              exact ⟨by rw [X2.out.1, X2.out.2]; rfl, (by repeat (first | exact Below.refl _ _ | assumption | refine Below.drew ?_ | refine below_drewN ?_ _ | refine Below.alloc ?_ (by first | omega | (simp; done) | (simp; omega)) _ | refine Below.setCell ?_ (by first | omega | (simp; done) | (simp; omega)) _))⟩
            · have HN : Hid (∀ m, m < k + 1 → -100000000000 ≤ z.getD m 0 ∧ z.getD m 0 ≤ 100000000000) := Lib.hid fun m hm => by
                rcases Nat.lt_succ_iff_lt_or_eq.1 hm with h | rfl
                · exact HI.out m h
                · exact inB_t hx
              have HX := Lib.hid hx
              clear hx
              generalize z.getD k 0 = x at *
              go_wp2_with fail
              refine (l00In_any _ _ _ _).mono ?_
              rintro e4 w4 ⟨rfl, rfl⟩
              rw [HX.out]
              go_wp2
              go_round
              case rel => exact ⟨k + 1, by omega, by go_num, HN.out⟩
              case measure => simp [intOf]; omega
          · obtain rfl : k = n3 := by omega
            have HV := Lib.hid (HOK.out (insB_mk (fun m hm => HI.out m (by rw [L3.out] at hm; exact hm))))
            have HZB := Lib.hid HI.out
            clear HI HNO HOK
            go_wp2_with fail
            go_loopw [9] (fun i wr => ∃ j : Nat, j ≤ k ∧ i = .int .i64 (j : Int) ∧ (∀ m, m < j → lo.getD m 0 * d ≤ z.getD m 0 ∧ z.getD m 0 ≤ hi.getD m 0 * d) ∧ Below w1.heap.size w1 wr) (fun i _ => (k - intOf i).toNat)
            case atStart => exact ⟨0, by omega, rfl, fun m hm => by omega, Below.refl _ _⟩
            case round =>
              obtain ⟨j, hj, rfl, hI, hB⟩ := hrel
              have HI := Lib.hid hI
              clear hI
              have haB : Below w.heap.size w wr := below_call ha1 hB
              have Fr := Lib.hid (blk_call F.out hB)
              have Fr_0 := cellOf Fr.out 0
              have Fr_1 := cellOf Fr.out 1
              have Fr_2 := cellOf Fr.out 2
              simp at Fr_0 Fr_1 Fr_2
              have Fr_lt := blk_lt Fr.out
              have HZr := Lib.hid (HZ.out.below haB)
              have Hr := Lib.hid (H.out.below haB)
              by_cases hlj : j < k
              · have hlj' : (j : Int) < (k : Int) := by omega
                have hlt1 : (j : Int) < (n1 : Int) := by have := E1.out; omega
                have hlt2 : (j : Int) < (n2 : Int) := by have := E2.out; omega
                have hj0 : (0 : Int) ≤ (j : Int) := by omega
                obtain ⟨b, o, rfl, hb', hc'⟩ := HZr.out.cell hlj
                obtain ⟨b4, o4, rfl, hb4', hc4'⟩ := Hr.out.2.1.cell (i := j) (by omega)
                obtain ⟨b5, o5, rfl, hb5', hc5'⟩ := Hr.out.2.2.cell (i := j) (by omega)
                obtain ⟨z1, z2⟩ := HZB.out j hlj
                obtain ⟨u1, u2⟩ := V6.out j (by rw [L0.out]; have := E0.out; omega)
                obtain ⟨u3, u4⟩ := V7.out j (by rw [L0.out]; have := E0.out; omega)
                obtain ⟨p1, p2⟩ := prod_bd (x := lo.getD j 0) (y := d) (A := 1000) (B := 100000000) u1 u2 (by omega) d2 (by omega)
                obtain ⟨p3, p4⟩ := prod_bd (x := hi.getD j 0) (y := d) (A := 1000) (B := 100000000) u3 u4 (by omega) d2 (by omega)
                have i1 := IntWalk.i64_in (lo.getD j 0 * d) (by omega)
                have i2 := IntWalk.i64_in (hi.getD j 0 * d) (by omega)
                by_cases hx : lo.getD j 0 * d ≤ z.getD j 0
                · by_cases hy : z.getD j 0 ≤ hi.getD j 0 * d
                  · have HN : Hid (∀ m, m < j + 1 → lo.getD m 0 * d ≤ z.getD m 0 ∧ z.getD m 0 ≤ hi.getD m 0 * d) := Lib.hid fun m hm => by
                      rcases Nat.lt_succ_iff_lt_or_eq.1 hm with h | rfl
                      · exact HI.out m h
                      · exact ⟨hx, hy⟩
                    generalize lo.getD j 0 = x at *
                    generalize hi.getD j 0 = y at *
                    generalize z.getD j 0 = v at *
                    have hx' : decide (v < x * d) = false := decide_eq_false (by omega)
                    have hy' : decide (y * d < v) = false := decide_eq_false (by omega)
                    go_wp2
                    go_quiet (fail)
                    clear i1 i2
                    go_wp2
                    go_roundw
                    case rel => exact ⟨j + 1, by omega, by go_num, HN.out, (by repeat (first | exact Below.refl _ _ | assumption | refine Below.drew ?_ | refine below_drewN ?_ _ | refine Below.alloc ?_ (by first | omega | (simp; done) | (simp; omega)) _ | refine Below.setCell ?_ (by first | omega | (simp; done) | (simp; omega)) _))⟩
                    case measure => simp [intOf]; omega
                  · have X7 : Hid (fitB lo hi z d = false) := Lib.hid (fitB_no (k := j) (by rw [L3.out]; exact hlj) (fun h => hy h.2))
                    generalize lo.getD j 0 = x at *
                    generalize hi.getD j 0 = y at *
                    generalize z.getD j 0 = v at *
                    have hx' : decide (v < x * d) = false := decide_eq_false (by omega)
                    have hy' : decide (y * d < v) = true := decide_eq_true (by omega)
                    go_wp2
                    go_quiet (fail)
                    clear i1 i2
                    go_wp2
                    go_ret2
                    exact ⟨by rw [HV.out.1, HV.out.2, X7.out]; rfl, (by repeat (first | exact Below.refl _ _ | assumption | refine Below.drew ?_ | refine below_drewN ?_ _ | refine Below.alloc ?_ (by first | omega | (simp; done) | (simp; omega)) _ | refine Below.setCell ?_ (by first | omega | (simp; done) | (simp; omega)) _))⟩
                · have X7 : Hid (fitB lo hi z d = false) := Lib.hid (fitB_no (k := j) (by rw [L3.out]; exact hlj) (fun h => hx h.1))
                  generalize lo.getD j 0 = x at *
                  generalize hi.getD j 0 = y at *
                  generalize z.getD j 0 = v at *
                  have hx' : decide (v < x * d) = true := decide_eq_true (by omega)
                  go_wp2
                  go_quiet (fail)
                  clear i1 i2
                  go_wp2
                  go_ret2
                  exact ⟨by rw [HV.out.1, HV.out.2, X7.out]; rfl, (by repeat (first | exact Below.refl _ _ | assumption | refine Below.drew ?_ | refine below_drewN ?_ _ | refine Below.alloc ?_ (by first | omega | (simp; done) | (simp; omega)) _ | refine Below.setCell ?_ (by first | omega | (simp; done) | (simp; omega)) _))⟩
              · obtain rfl : j = k := by omega
                have X7 : Hid (fitB lo hi z d = true) := Lib.hid (fitB_mk (fun m hm => HI.out m (by rw [L3.out] at hm; exact hm)))
                clear HI
                have K3 : 3 ≤ j := by have := E1.out; omega
                obtain ⟨b, o, rfl⟩ := HZr.out.addrL (by omega)
                have k0 := HZr.out.sameL (i := 0) (by omega)
                have k1 := HZr.out.sameL (i := 1) (by omega)
                have k2 := HZr.out.sameL (i := 2) (by omega)
                simp only [Nat.add_zero] at k0
                obtain ⟨x1, x2⟩ := HZB.out 0 (by omega)
                obtain ⟨x3, x4⟩ := HZB.out 1 (by omega)
                obtain ⟨x5, x6⟩ := HZB.out 2 (by omega)
                have HY : Hid (z.getD 0 0 - 2 * z.getD 1 0 + z.getD 2 0 = bendAt z 1) := Lib.hid (by show _ = z.getD 2 0 - 2 * z.getD 1 0 + z.getD 0 0; omega)
                generalize z.getD 0 0 = y0 at *
                generalize z.getD 1 0 = y1 at *
                generalize z.getD 2 0 = y2 at *
                have w1' := IntWalk.i64_in (2 * y1) (by omega)
                have w2' := IntWalk.i64_in (y0 - 2 * y1) (by omega)
                have w3' := IntWalk.i64_in (y0 - 2 * y1 + y2) (by omega)
                have s1 : (0 : Int) < (j : Int) := by have := E1.out; omega
                have s2 : (1 : Int) < (j : Int) := by have := E1.out; omega
                have s3 : (2 : Int) < (j : Int) := by have := E1.out; omega
                go_wp2
                go_quiet (fail)
                clear w1' w2' w3'
                rw [HY.out]
                obtain ⟨b6, o6, rfl⟩ := Hr.out.1.addrL (by omega)
                obtain ⟨q1, q2⟩ := V3.out 0 (by rw [L0.out]; omega)
                obtain ⟨q3, q4⟩ := V3.out 1 (by rw [L0.out]; omega)
                have Y1 : -400000000000 ≤ bendAt z 1 ∧ bendAt z 1 ≤ 400000000000 := by rw [← HY.out]; omega
                obtain ⟨f1, f2⟩ := Y1
                have HE0 : Hid (∀ m, m < 1 → bendAt z (m + 1) * (ls.getD 0 0 + ls.getD 1 0) = bendAt z 1 * (ls.getD m 0 + ls.getD (m + 1) 0)) := Lib.hid (fun m hm => by
                  obtain rfl : m = 0 := by omega
                  rfl)
                clear k0 k1 k2 x1 x2 x3 x4 x5 x6 HY
                obtain ⟨wo, rfl⟩ : ∃ wo : World, wo = wr := ⟨_, rfl⟩
                go_wp2_with fail
                go_loopw [11, 12] (fun i _ wq => ∃ t : Nat, 1 ≤ t ∧ t + 1 ≤ n0 ∧ i = .int .i64 (t : Int) ∧ (∀ m, m < t → bendAt z (m + 1) * (ls.getD 0 0 + ls.getD 1 0) = bendAt z 1 * (ls.getD m 0 + ls.getD (m + 1) 0)) ∧ Below wo.heap.size wo wq) (fun i _ _ => (n0 - intOf i).toNat)
                case atStart => exact ⟨1, by omega, by omega, rfl, HE0.out, (by repeat (first | exact Below.refl _ _ | assumption | refine Below.drew ?_ | refine below_drewN ?_ _ | refine Below.alloc ?_ (by first | omega | (simp; done) | (simp; omega)) _ | refine Below.setCell ?_ (by first | omega | (simp; done) | (simp; omega)) _))⟩
                case round =>
                  obtain ⟨t, ht1, ht2, rfl, hI, hB2⟩ := hrel
                  have HI := Lib.hid hI
                  clear hI
                  have haQ : Below w.heap.size w wr := below_call haB hB2
                  have Fq := Lib.hid (blk_call Fr.out hB2)
                  clear Fr_0 Fr_1 Fr_2
                  have Fq_0 := cellOf Fq.out 0
                  simp at Fq_0
                  have Fq_lt := blk_lt Fq.out
                  by_cases hlt : t + 1 < n0
                  · have hlt' : (t : Int) + 1 < (n0 : Int) := by omega
                    have HZq := Lib.hid (HZr.out.below hB2)
                    have Hq := Lib.hid (Hr.out.1.below hB2)
                    have k0 := HZq.out.sameL (i := t) (by have := E1.out; have := E0.out; omega)
                    have k1 := HZq.out.sameL (i := t + 1) (by have := E1.out; have := E0.out; omega)
                    have k2 := HZq.out.sameL (i := t + 2) (by have := E1.out; have := E0.out; omega)
                    have m0 := Hq.out.sameL (i := 0) (by omega)
                    have m1 := Hq.out.sameL (i := 1) (by omega)
                    have m2 := Hq.out.sameL (i := t) (by omega)
                    have m3 := Hq.out.sameL (i := t + 1) (by omega)
                    simp only [Nat.add_zero] at m0
                    have k1' : wr.cell? ⟨b, o + t + 1, none⟩ = some (.int .i64 (z.getD (t + 1) 0)) := k1
                    have k2' : wr.cell? ⟨b, o + t + 2, none⟩ = some (.int .i64 (z.getD (t + 2) 0)) := k2
                    have m3' : wr.cell? ⟨b6, o6 + t + 1, none⟩ = some (.int .i64 (ls.getD (t + 1) 0)) := m3
                    obtain ⟨x1, x2⟩ := HZB.out t (by have := E1.out; have := E0.out; omega)
                    obtain ⟨x3, x4⟩ := HZB.out (t + 1) (by have := E1.out; have := E0.out; omega)
                    obtain ⟨x5, x6⟩ := HZB.out (t + 2) (by have := E1.out; have := E0.out; omega)
                    obtain ⟨q5, q6⟩ := V3.out t (by rw [L0.out]; omega)
                    obtain ⟨q7, q8⟩ := V3.out (t + 1) (by rw [L0.out]; omega)
                    have hjn : t < ls.length - 1 := by rw [L0.out]; omega
                    have HNO : Hid (¬ (z.getD t 0 - 2 * z.getD (t + 1) 0 + z.getD (t + 2) 0) * (ls.getD 0 0 + ls.getD 1 0) = bendAt z 1 * (ls.getD t 0 + ls.getD (t + 1) 0) → bendB ls z = false) := Lib.hid (fun hne => bendB_no (i := t) hjn (by
                      have e : bendAt z (t + 1) = z.getD t 0 - 2 * z.getD (t + 1) 0 + z.getD (t + 2) 0 := by show z.getD (t + 2) 0 - 2 * z.getD (t + 1) 0 + z.getD t 0 = _; omega
                      rw [e]; exact hne))
                    have HN : Hid ((z.getD t 0 - 2 * z.getD (t + 1) 0 + z.getD (t + 2) 0) * (ls.getD 0 0 + ls.getD 1 0) = bendAt z 1 * (ls.getD t 0 + ls.getD (t + 1) 0) → ∀ m, m < t + 1 → bendAt z (m + 1) * (ls.getD 0 0 + ls.getD 1 0) = bendAt z 1 * (ls.getD m 0 + ls.getD (m + 1) 0)) := Lib.hid fun heq m hm => by
                      rcases Nat.lt_succ_iff_lt_or_eq.1 hm with h | rfl
                      · exact HI.out m h
                      · have e : bendAt z (m + 1) = z.getD m 0 - 2 * z.getD (m + 1) 0 + z.getD (m + 2) 0 := by show z.getD (m + 2) 0 - 2 * z.getD (m + 1) 0 + z.getD m 0 = _; omega
                        rw [e]; exact heq
                    generalize bendAt z 1 = y at *
                    generalize z.getD t 0 = z0 at *
                    generalize z.getD (t + 1) 0 = z1 at *
                    generalize z.getD (t + 2) 0 = z2 at *
                    generalize ls.getD 0 0 = g0 at *
                    generalize ls.getD 1 0 = g1 at *
                    generalize ls.getD t 0 = g2 at *
                    generalize ls.getD (t + 1) 0 = g3 at *
                    obtain ⟨r1, r2⟩ := prod_bd (x := z0 - 2 * z1 + z2) (y := g0 + g1) (A := 400000000000) (B := 2000) (by omega) (by omega) (by omega) (by omega) (by omega)
                    obtain ⟨r3, r4⟩ := prod_bd (x := y) (y := g2 + g3) (A := 400000000000) (B := 2000) f1 f2 (by omega) (by omega) (by omega)
                    have i1 := IntWalk.i64_in ((t : Int) + 1) (by omega)
                    have i2 := IntWalk.i64_in ((t : Int) + 2) (by omega)
                    have i3 := IntWalk.i64_in (2 * z1) (by omega)
                    have i4 := IntWalk.i64_in (z0 - 2 * z1) (by omega)
                    have i5 := IntWalk.i64_in (z0 - 2 * z1 + z2) (by omega)
                    have i6 := IntWalk.i64_in (g0 + g1) (by omega)
                    have i7 := IntWalk.i64_in (g2 + g3) (by omega)
                    have i8 := IntWalk.i64_in ((z0 - 2 * z1 + z2) * (g0 + g1)) (by omega)
                    have i9 := IntWalk.i64_in (y * (g2 + g3)) (by omega)
                    have a1 : (0 : Int) ≤ (t : Int) := by omega
                    have a2 : (0 : Int) ≤ (t : Int) + 1 := by omega
                    have a3' : (0 : Int) ≤ (t : Int) + 2 := by omega
                    have a4 : (t : Int) < (j : Int) := by have := E1.out; have := E0.out; omega
                    have a5 : (t : Int) + 1 < (j : Int) := by have := E1.out; have := E0.out; omega
                    have a6 : (t : Int) + 2 < (j : Int) := by have := E1.out; have := E0.out; omega
                    have a7 : (t : Int) < (n0 : Int) := by omega
                    have a8 : (0 : Int) < (n0 : Int) := by omega
                    have a9 : (1 : Int) < (n0 : Int) := by omega
                    have b7 : ((t : Int) + 1).toNat = t + 1 := by omega
                    have b8 : ((t : Int) + 2).toNat = t + 2 := by omega
                    by_cases hne : (z0 - 2 * z1 + z2) * (g0 + g1) = y * (g2 + g3)
                    · have HN2 := Lib.hid (HN.out hne)
                      have hq : ((z0 - 2 * z1 + z2) * (g0 + g1) != y * (g2 + g3)) = false := by simpa using hne
                      clear hne HNO HN
                      go_wp2
                      go_quiet (fail)
                      go_wp2
                      go_quiet (fail)
                      clear i1 i2 i3 i4 i5 i6 i7 i8 i9 b7 b8
                      go_wp2
                      go_roundw
                      case rel => exact ⟨t + 1, by omega, by omega, by go_num, HN2.out, (by repeat (first | exact Below.refl _ _ | assumption | refine Below.drew ?_ | refine below_drewN ?_ _ | refine Below.alloc ?_ (by first | omega | (simp; done) | (simp; omega)) _ | refine Below.setCell ?_ (by first | omega | (simp; done) | (simp; omega)) _))⟩
                      case measure => simp [intOf]; omega
                    · have X8 := Lib.hid (HNO.out hne)
                      have hq : ((z0 - 2 * z1 + z2) * (g0 + g1) != y * (g2 + g3)) = true := by simpa using hne
                      clear hne HNO HN
                      go_wp2
                      go_quiet (fail)
                      go_wp2
                      go_quiet (fail)
                      clear i1 i2 i3 i4 i5 i6 i7 i8 i9 b7 b8
                      go_wp2
                      go_ret2
                      exact ⟨by rw [HV.out.1, HV.out.2, X7.out, X8.out]; rfl, (by repeat (first | exact Below.refl _ _ | assumption | refine Below.drew ?_ | refine below_drewN ?_ _ | refine Below.alloc ?_ (by first | omega | (simp; done) | (simp; omega)) _ | refine Below.setCell ?_ (by first | omega | (simp; done) | (simp; omega)) _))⟩
                  · have hlt' : ¬ (t : Int) + 1 < (n0 : Int) := by omega
                    have X8 : Hid (bendB ls z = decide (bendAt z 1 < 0)) := Lib.hid (bendB_end (fun i hi => HI.out i (by rw [L0.out] at hi; omega)))
                    go_wp2
                    go_ret2
                    exact ⟨by rw [HV.out.1, HV.out.2, X7.out, X8.out]; rfl, (by repeat (first | exact Below.refl _ _ | assumption | refine Below.drew ?_ | refine below_drewN ?_ _ | refine Below.alloc ?_ (by first | omega | (simp; done) | (simp; omega)) _ | refine Below.setCell ?_ (by first | omega | (simp; done) | (simp; omega)) _))⟩
end Go.Proofs.Ytklhaanapembdaa
