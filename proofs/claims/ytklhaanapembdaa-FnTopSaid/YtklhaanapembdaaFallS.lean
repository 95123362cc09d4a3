/- Contract of the reference's ProvesFall; no old memory turns; condition: the slices can be read. -/
import Derived.Test.YtklhaanapembdaaFallI
import Derived.Test.YtklhaanapembdaaM06
import Derived.Test.YtklhaanapembdaaLess

namespace Go.Proofs.Ytklhaanapembdaa
set_option linter.unusedVariables false
set_option linter.unusedSimpArgs false
open Go.RowKit

/-- The reference's condition that lies at block g. -/
def CndS (W : World) (g : Nat) (a b : Int) (v : Value) : Prop := W.heap[g]? = some (.cells #[.int .i64 a, .int .i64 b, v] 117 (0, 0))
theorem CndS.cells {W : World} {g : Nat} {a b : Int} {v : Value} (h : CndS W g a b v) : W.cell? ⟨g, 0, none⟩ = some (.int .i64 a) ∧ W.cell? ⟨g, 1, none⟩ = some (.int .i64 b) ∧ W.cell? ⟨g, 2, none⟩ = some v := by
  refine ⟨?_, ?_, ?_⟩ <;> (rw [cellOf h]; rfl)
theorem cndS_store {W : World} {g : Nat} {u0 u1 u2 : Value} {a b : Int} {v : Value} (h : W.heap[g]? = some (.cells #[u0, u1, u2] 117 (0, 0))) :
    CndS (((W.setCell ⟨g, 0, none⟩ (.int .i64 a)).setCell ⟨g, 1, none⟩ (.int .i64 b)).setCell ⟨g, 2, none⟩ v) g a b v :=
  blk_set (blk_set (blk_set h 0 _) 1 _) 2 _
theorem three_row {W : World} {g bm om n c : Nat} {zs : List Int} {v0 v1 v2 : Value} (h : IsRow .i64 W (some ⟨bm, om, none⟩) n c zs) (hne : bm ≠ g) : IsRow .i64 (((W.setCell ⟨g, 0, none⟩ v0).setCell ⟨g, 1, none⟩ v1).setCell ⟨g, 2, none⟩ v2) (some ⟨bm, om, none⟩) n c zs := by
  have hn : ∀ i, ∀ ad, (some ⟨bm, om, none⟩ : Option Addr) = some ad → ad.block ≠ (⟨g, i, none⟩ : Addr).block := fun i ad e => by injection e with e; subst e; exact hne
  exact ((h.setFar (hn 0) v0).setFar (hn 1) v1).setFar (hn 2) v2
theorem three_blk {W : World} {g k : Nat} {o : Obj} {v0 v1 v2 : Value} (h : W.heap[k]? = some o) (hne : k ≠ g) : (((W.setCell ⟨g, 0, none⟩ v0).setCell ⟨g, 1, none⟩ v1).setCell ⟨g, 2, none⟩ v2).heap[k]? = some o :=
  blk_far (blk_far (blk_far h (p := ⟨g, 0, none⟩) hne v0) (p := ⟨g, 1, none⟩) hne v1) (p := ⟨g, 2, none⟩) hne v2
theorem three_below {a W : World} {B g : Nat} {v0 v1 v2 : Value} (h : Below B a W) (hne : B ≤ g) : Below B a (((W.setCell ⟨g, 0, none⟩ v0).setCell ⟨g, 1, none⟩ v1).setCell ⟨g, 2, none⟩ v2) :=
  ((h.setCell (p := ⟨g, 0, none⟩) hne v0).setCell (p := ⟨g, 1, none⟩) hne v1).setCell (p := ⟨g, 2, none⟩) hne v2
set_option maxRecDepth 100000 in
set_option maxHeartbeats 8000000 in
theorem specProvesFall_any (a0 a1 a2 : Option Addr) (n0 c0 n1 c1 n2 c2 : Nat) (ls lo hi : List Int) (a3 : Option Addr) (n3 c3 : Nat) (zl : List Int) (a4 : Option Addr) (n4 c4 : Nat) (zh : List Int) (w : World) (h : IsB a0 a1 a2 n0 c0 n1 c1 n2 c2 ls lo hi w) (hl : IsRow .i64 w a3 n3 c3 zl) (hh : IsRow .i64 w a4 n4 c4 zh) :
    Calls Try.prog 39 #[.agg #[.slice a0 n0 c0, .slice a1 n1 c1, .slice a2 n2 c2], .slice a3 n3 c3, .slice a4 n4 c4] w fun e w' => e = .returned (.tuple #[.bool (pfV ls lo hi zl zh), .int .i64 (pfC ls lo hi zl zh)]) ∧ Below w.heap.size w w' := by
  have H := Lib.hid h
  have HL := Lib.hid hl
  have HH := Lib.hid hh
  have hlo : lo.length = n1 := h.2.1.1
  have hls : ls.length = n0 := h.1.1
  have hll : zl.length = n3 := hl.1
  have hm3 : n3 ≤ maxLen := Nat.le_trans hl.2.1 hl.2.2.1
  unfold maxLen at hm3
  cases g : blkB ls lo hi
  · obtain ⟨e1, e2⟩ := pf_bad (zl := zl) (zh := zh) g
    rw [e1, e2]
    have G := Lib.hid g
    clear h hl hh hlo hll g e1 e2 hls
    go_enter Try.func39, Try.ntmps39
    go_wp2_with fail
    refine (l13Ok_any _ _ _ _ _ _ _ _ _ _ _ _ _ _ (blk_new w _) (H.out.below (by repeat (first | exact Below.refl _ _ | assumption | refine Below.drew ?_ | refine below_drewN ?_ _ | refine Below.alloc ?_ (by first | omega | (simp; done) | (simp; omega)) _ | refine Below.setCell ?_ (by first | omega | (simp; done) | (simp; omega)) _)))).mono ?_
    rintro e1 w1 ⟨rfl, hb1⟩
    obtain ⟨hc1, hf1⟩ := bcell hb1
    have hz1 := hb1.size
    try simp at hz1
    have ha1 : Below w.heap.size w w1 := below_call (by repeat (first | exact Below.refl _ _ | assumption | refine Below.drew ?_ | refine below_drewN ?_ _ | refine Below.alloc ?_ (by first | omega | (simp; done) | (simp; omega)) _ | refine Below.setCell ?_ (by first | omega | (simp; done) | (simp; omega)) _)) hb1
    rw [G.out]
    go_wp2
    go_ret2
    exact ⟨rfl, (by repeat (first | exact Below.refl _ _ | assumption | refine Below.drew ?_ | refine below_drewN ?_ _ | refine Below.alloc ?_ (by first | omega | (simp; done) | (simp; omega)) _ | refine Below.setCell ?_ (by first | omega | (simp; done) | (simp; omega)) _))⟩
  · have G := Lib.hid g
    obtain ⟨v1, v2, v3, v4, _⟩ := blkB_t g
    have hn11 : n1 ≤ 11 := by omega
    have hn0 : 0 < n1 := by omega
    have h01 : (n1 : Int) - 1 = (n0 : Int) := by omega
    have HJL := Lib.hid (fun W hW => l13Four_any a3 n3 c3 zl (n0 : Int) W hW)
    have HJH := Lib.hid (fun W hW => l13Four_any a4 n4 c4 zh (n0 : Int) W hW)
    have HOK := Lib.hid (fun W hF hW => l13Ok_any w.heap.size a0 a1 a2 n0 c0 n1 c1 n2 c2 ls lo hi W hF hW)
    rw [g] at HOK
    cases hfh : fourB zh (n0 : Int)
    · obtain ⟨e1, e2⟩ := pf_high (zl := zl) g (by rw [hlo, h01]; exact hfh)
      rw [e1, e2]
      rw [hfh] at HJH
      clear h hl hh hlo hll g e1 e2 hfh HJL h01 v1 v2 v3 v4 hls hn11 hn0
      go_enter Try.func39, Try.ntmps39
      go_wp2_with fail
      refine (HOK.out _ (blk_new w _) (H.out.below (by repeat (first | exact Below.refl _ _ | assumption | refine Below.drew ?_ | refine below_drewN ?_ _ | refine Below.alloc ?_ (by first | omega | (simp; done) | (simp; omega)) _ | refine Below.setCell ?_ (by first | omega | (simp; done) | (simp; omega)) _)))).mono ?_
      rintro e1 w1 ⟨rfl, hb1⟩
      obtain ⟨hc1, hf1⟩ := bcell hb1
      have hz1 := hb1.size
      try simp at hz1
      have ha1 : Below w.heap.size w w1 := below_call (by repeat (first | exact Below.refl _ _ | assumption | refine Below.drew ?_ | refine below_drewN ?_ _ | refine Below.alloc ?_ (by first | omega | (simp; done) | (simp; omega)) _ | refine Below.setCell ?_ (by first | omega | (simp; done) | (simp; omega)) _)) hb1
      have F : Hid (w1.heap[w.heap.size]? = some _) := blk_call (by first | (refine blk_new' _ _ ?_; simp; done) | (refine blk_alloc (blk_new' _ _ ?_); simp; done) | (refine blk_alloc (blk_alloc (blk_new' _ _ ?_)); simp; done)) hb1
      have F_0 := cellOf F.out 0
      simp at F_0
      have F_1 := cellOf F.out 1
      simp at F_1
      have F_2 := cellOf F.out 2
      simp at F_2
      have F_lt := blk_lt F.out
      have F_le := Nat.le_of_lt F_lt
      have F_l1 := Nat.le_succ_of_le F_le
      go_wp2_with fail
      refine (HJH.out _ (HH.out.below (by repeat (first | exact Below.refl _ _ | assumption | refine Below.drew ?_ | refine below_drewN ?_ _ | refine Below.alloc ?_ (by first | omega | (simp; done) | (simp; omega)) _ | refine Below.setCell ?_ (by first | omega | (simp; done) | (simp; omega)) _)))).mono ?_
      rintro e w2 ⟨rfl, mq, rfl⟩
      go_wp2
      go_ret2
      exact ⟨rfl, (by repeat (first | exact Below.refl _ _ | assumption | refine Below.drew ?_ | refine below_drewN ?_ _ | refine Below.alloc ?_ (by first | omega | (simp; done) | (simp; omega)) _ | refine Below.setCell ?_ (by first | omega | (simp; done) | (simp; omega)) _))⟩
    · rw [hfh] at HJH
      by_cases hbadl : n3 ≠ 0 ∧ fourB zl (n0 : Int) = false
      · obtain ⟨e1, e2⟩ := pf_low (zl := zl) (zh := zh) g (by have := hbadl.1; omega) (by rw [hlo, h01]; exact hbadl.2)
        rw [e1, e2]
        rw [hbadl.2] at HJL
        have y1 : decide ((0 : Int) < (n3 : Int)) = true := decide_eq_true (by have := hbadl.1; omega)
        have y2 : 0 < n3 := by have := hbadl.1; omega
        clear h hl hh hlo hll g e1 e2 hbadl hfh h01 v1 v2 v3 v4 hls hn11 hn0
        go_enter Try.func39, Try.ntmps39
        go_wp2_with fail
        refine (HOK.out _ (blk_new w _) (H.out.below (by repeat (first | exact Below.refl _ _ | assumption | refine Below.drew ?_ | refine below_drewN ?_ _ | refine Below.alloc ?_ (by first | omega | (simp; done) | (simp; omega)) _ | refine Below.setCell ?_ (by first | omega | (simp; done) | (simp; omega)) _)))).mono ?_
        rintro e1 w1 ⟨rfl, hb1⟩
        obtain ⟨hc1, hf1⟩ := bcell hb1
        have hz1 := hb1.size
        try simp at hz1
        have ha1 : Below w.heap.size w w1 := below_call (by repeat (first | exact Below.refl _ _ | assumption | refine Below.drew ?_ | refine below_drewN ?_ _ | refine Below.alloc ?_ (by first | omega | (simp; done) | (simp; omega)) _ | refine Below.setCell ?_ (by first | omega | (simp; done) | (simp; omega)) _)) hb1
        have F : Hid (w1.heap[w.heap.size]? = some _) := blk_call (by first | (refine blk_new' _ _ ?_; simp; done) | (refine blk_alloc (blk_new' _ _ ?_); simp; done) | (refine blk_alloc (blk_alloc (blk_new' _ _ ?_)); simp; done)) hb1
        have F_0 := cellOf F.out 0
        simp at F_0
        have F_1 := cellOf F.out 1
        simp at F_1
        have F_2 := cellOf F.out 2
        simp at F_2
        have F_lt := blk_lt F.out
        have F_le := Nat.le_of_lt F_lt
        have F_l1 := Nat.le_succ_of_le F_le
        go_wp2_with fail
        refine (HJH.out _ (HH.out.below (by repeat (first | exact Below.refl _ _ | assumption | refine Below.drew ?_ | refine below_drewN ?_ _ | refine Below.alloc ?_ (by first | omega | (simp; done) | (simp; omega)) _ | refine Below.setCell ?_ (by first | omega | (simp; done) | (simp; omega)) _)))).mono ?_
        rintro e w2 ⟨rfl, mq, rfl⟩
        go_wp2_with fail
        refine (HJL.out _ (HL.out.below (by repeat (first | exact Below.refl _ _ | assumption | refine Below.drew ?_ | refine below_drewN ?_ _ | refine Below.alloc ?_ (by first | omega | (simp; done) | (simp; omega)) _ | refine Below.setCell ?_ (by first | omega | (simp; done) | (simp; omega)) _)))).mono ?_
        rintro e w2 ⟨rfl, mr, rfl⟩
        go_wp2
        go_ret2
        exact ⟨rfl, (by repeat (first | exact Below.refl _ _ | assumption | refine Below.drew ?_ | refine below_drewN ?_ _ | refine Below.alloc ?_ (by first | omega | (simp; done) | (simp; omega)) _ | refine Below.setCell ?_ (by first | omega | (simp; done) | (simp; omega)) _))⟩
      · have hokl : n3 = 0 ∨ fourB zl (n0 : Int) = true := by
          by_cases e : n3 = 0
          · exact .inl e
          · cases q : fourB zl (n0 : Int)
            · exact absurd ⟨e, q⟩ hbadl
            · exact .inr rfl
        clear hbadl
        obtain ⟨e1, e2⟩ := pf_ok (zl := zl) (zh := zh) g (by rw [hlo, hll, h01]; exact hokl) (by rw [hlo, h01]; exact hfh)
        rw [e1, e2]
        obtain ⟨j, k, p, q, rfl, hk, hj, hp, hq, hcz⟩ := four_rng (ls := ls) (hi := hi) (z := zh) (by rw [hlo, h01]; exact hfh)
        have hj' : j < n1 := by omega
        have hq' : q < n1 := by omega
        have HCO := Lib.hid (fun W am cm hF hW hRow => l13Condition_any w.heap.size a0 a1 a2 n0 c0 n1 c1 n2 c2 ls lo hi am cm j k p q W hF hW hRow g hj' hk hq' hp)
        obtain ⟨x1, x2, x3, x4⟩ := cnd_good g (j := j) (k := k) (p := p) (q := q) (by omega) hk (by omega) hp
        rw [hcz, show cnd ls lo hi j k p q = ⟨j, k, p, q, cA lo hi j k p q, cB (momAt ls) j k p q⟩ from rfl]
        simp only [cnd] at x1 x2 x3 x4
        generalize cA lo hi j k p q = ya at *
        generalize cB (momAt ls) j k p q = yb at *
        obtain ⟨b4, o4, rfl, t4⟩ := hh.addr (by have : 4 = n4 := hh.1; omega)
        have q40 : n4 = 4 := hh.1.symm
        have q41 : (0 : Int) < (n4 : Int) := by omega
        have q45 : 0 < n4 := by omega
        have q42 : (1 : Int) < (n4 : Int) := by omega
        have q43 : (2 : Int) < (n4 : Int) := by omega
        have q44 : (3 : Int) < (n4 : Int) := by omega
        have HMO := Lib.hid (fun W hF hW => l13Moments_any w.heap.size a0 a1 a2 n0 c0 n1 c1 n2 c2 ls lo hi W hF hW g)
        have HM1 := Lib.hid (show (moms ls n1).length = n1 from moms_len _ _)
        obtain ⟨R, hR⟩ : ∃ R, pfY zl (cndZ ls lo hi zl) ⟨j, k, p, q, ya, yb⟩ = R := ⟨_, rfl⟩
        rw [hR]
        have HPF := Lib.hid hR
        clear hR
        by_cases hn3 : n3 = 0
        · have HZ0 := Lib.hid (show zl.length = 0 by omega)
          have y1 : decide ((0 : Int) < (n3 : Int)) = false := decide_eq_false (by omega)
          have y2 : ¬ 0 < n3 := by omega
          have y3 : ((n3 : Int) == 0) = true := by simp; omega
          have y4 : decide ((n3 : Int) = 0) = true := decide_eq_true (by omega)
          clear h hl hh hlo hll g e1 e2 hfh hokl hcz v1 v2 v3 v4 hn11 HJL hk hj hp hq hj' hq' q40 hls h01
          go_enter Try.func39, Try.ntmps39
          go_wp2_with fail
          refine (HOK.out _ (blk_new w _) (H.out.below (by repeat (first | exact Below.refl _ _ | assumption | refine Below.drew ?_ | refine below_drewN ?_ _ | refine Below.alloc ?_ (by first | omega | (simp; done) | (simp; omega)) _ | refine Below.setCell ?_ (by first | omega | (simp; done) | (simp; omega)) _)))).mono ?_
          rintro e1 w1 ⟨rfl, hb1⟩
          obtain ⟨hc1, hf1⟩ := bcell hb1
          have hz1 := hb1.size
          try simp at hz1
          have ha1 : Below w.heap.size w w1 := below_call (by repeat (first | exact Below.refl _ _ | assumption | refine Below.drew ?_ | refine below_drewN ?_ _ | refine Below.alloc ?_ (by first | omega | (simp; done) | (simp; omega)) _ | refine Below.setCell ?_ (by first | omega | (simp; done) | (simp; omega)) _)) hb1
          have F : Hid (w1.heap[w.heap.size]? = some _) := blk_call (by first | (refine blk_new' _ _ ?_; simp; done) | (refine blk_alloc (blk_new' _ _ ?_); simp; done) | (refine blk_alloc (blk_alloc (blk_new' _ _ ?_)); simp; done)) hb1
          have F_0 := cellOf F.out 0
          simp at F_0
          have F_1 := cellOf F.out 1
          simp at F_1
          have F_2 := cellOf F.out 2
          simp at F_2
          have F_lt := blk_lt F.out
          have F_le := Nat.le_of_lt F_lt
          have F_l1 := Nat.le_succ_of_le F_le
          go_wp2_with fail
          refine (HJH.out _ (HH.out.below (by repeat (first | exact Below.refl _ _ | assumption | refine Below.drew ?_ | refine below_drewN ?_ _ | refine Below.alloc ?_ (by first | omega | (simp; done) | (simp; omega)) _ | refine Below.setCell ?_ (by first | omega | (simp; done) | (simp; omega)) _)))).mono ?_
          rintro e w2 ⟨rfl, mq, rfl⟩
          go_wp2_with fail
          refine (HMO.out _ (blk_call F.out (below_drewN (Below.refl _ _) _)) (H.out.below (by repeat (first | exact Below.refl _ _ | assumption | refine Below.drew ?_ | refine below_drewN ?_ _ | refine Below.alloc ?_ (by first | omega | (simp; done) | (simp; omega)) _ | refine Below.setCell ?_ (by first | omega | (simp; done) | (simp; omega)) _)))).mono ?_
          rintro e w3 ⟨am, cm, rfl, hOm, hb3⟩
          have hz3 := hb3.size
          have ha3 : Below w.heap.size w w3 := below_call (by repeat (first | exact Below.refl _ _ | assumption | refine Below.drew ?_ | refine below_drewN ?_ _ | refine Below.alloc ?_ (by first | omega | (simp; done) | (simp; omega)) _ | refine Below.setCell ?_ (by first | omega | (simp; done) | (simp; omega)) _)) hb3
          have hRow := hOm.row
          rw [HM1.out] at hRow ⊢
          obtain ⟨bm, om, rfl, htm⟩ := hRow.addr hn0
          have HROW := Lib.hid hRow
          have HF := Lib.hid (blk_call (blk_call F.out (below_drewN (Below.refl _ _) _)) hb3)
          have hlt := blk_lt HF.out
          clear hc1 hf1 F_0 F_1 F_2 F_lt F_le F_l1 hOm hRow hb3
          go_wp2_with fail
          go_cut [10] (fun s10 wx => ∃ (g9 : Nat) (v9 : Value), s10 = .pointer (some ⟨g9, 0, none⟩) ∧ CndS wx g9 ya yb v9 ∧ wx.heap[w.heap.size]? = some (.cells #[.slice a0 n0 c0, .slice a1 n1 c1, .slice a2 n2 c2] 26 (0, 0)) ∧ IsRow .i64 wx (some ⟨bm, om, none⟩) n1 cm (moms ls n1) ∧ Below w.heap.size w wx ∧ w.heap.size < g9)
          case first =>
            obtain ⟨d0, d1, d2, d3⟩ := four_cells (HH.out.below ha3)
            have hltz := World.block_lt_of_cell? _ _ d0
            simp only at hltz
            have ne1 : w3.heap.size ≠ b4 := by omega
            have hFD : AtB w.heap.size a0 a1 a2 n0 c0 n1 c1 n2 c2 w3.drew := blkD HF.out
            have hFA : ∀ o, AtB w.heap.size a0 a1 a2 n0 c0 n1 c1 n2 c2 (w3.alloc o).drew := fun o => blkD (blk_alloc HF.out)
            have q9 : w3.drew.cell? ⟨b4, o4, none⟩ = some (Value.int .i64 (j : Int)) ∧ w3.drew.cell? ⟨b4, o4 + 1, none⟩ = some (Value.int .i64 (k : Int)) ∧ w3.drew.cell? ⟨b4, o4 + 2, none⟩ = some (Value.int .i64 (p : Int)) ∧ w3.drew.cell? ⟨b4, o4 + 3, none⟩ = some (Value.int .i64 (q : Int)) := ⟨d0, d1, d2, d3⟩
            go_region_held3 (fun w' => w'.cell? ⟨b4, o4, none⟩ = some (Value.int .i64 (j : Int)) ∧ w'.cell? ⟨b4, o4 + 1, none⟩ = some (Value.int .i64 (k : Int)) ∧ w'.cell? ⟨b4, o4 + 2, none⟩ = some (Value.int .i64 (p : Int)) ∧ w'.cell? ⟨b4, o4 + 3, none⟩ = some (Value.int .i64 (q : Int))) (first | (with_reducible assumption) | (with_reducible exact q9) | (refine ⟨?_, ?_, ?_, ?_⟩ <;> (repeat (first | (with_reducible assumption) | (with_reducible refine keepD ?_) | (with_reducible refine keepA ?_) | (with_reducible refine keep1S ?_ (by first | (with_reducible exact ne1) | (with_reducible exact ne3))))) <;> first | (with_reducible assumption) | (with_reducible exact hS.1) | (with_reducible exact hS.2.1) | (with_reducible exact hS.2.2.1) | (with_reducible exact hS.2.2.2)))
              ((go_at_call 95; (with_reducible refine (HCO.out _ _ _ (by first | exact hFD | exact hFA _) (H.out.below (by repeat (first | exact Below.refl _ _ | assumption | refine Below.drew ?_ | refine below_drewN ?_ _ | refine Below.alloc ?_ (by first | omega | (simp; done) | (simp; omega)) _ | refine Below.setCell ?_ (by first | omega | (simp; done) | (simp; omega)) _))) (HROW.out.below (by repeat (first | exact Below.refl _ _ | assumption | refine Below.drew ?_ | refine below_drewN ?_ _ | refine Below.alloc ?_ (by first | omega | (simp; done) | (simp; omega)) _ | refine Below.setCell ?_ (by first | omega | (simp; done) | (simp; omega)) _)))).mono ?_); rintro e wx ⟨rfl, hjx, hbx⟩; clear hjx; have hzx := hbx.size; (try simp at hzx); (have ne3 : wx.heap.size ≠ b4 := by omega); have hS : wx.cell? ⟨b4, o4, none⟩ = some (Value.int .i64 (j : Int)) ∧ wx.cell? ⟨b4, o4 + 1, none⟩ = some (Value.int .i64 (k : Int)) ∧ wx.cell? ⟨b4, o4 + 2, none⟩ = some (Value.int .i64 (p : Int)) ∧ wx.cell? ⟨b4, o4 + 3, none⟩ = some (Value.int .i64 (q : Int)) := by { refine ⟨?_, ?_, ?_, ?_⟩ <;> refine keep1 hbx ?_ <;> first | (with_reducible assumption) | exact d0 | exact d1 | exact d2 | exact d3 | exact keepA d0 | exact keepA d1 | exact keepA d2 | exact keepA d3 }; have hBx : Below w.heap.size w wx := below_callB (by repeat (first | exact Below.refl _ _ | assumption | refine Below.drew ?_ | refine below_drewN ?_ _ | refine Below.alloc ?_ (by first | omega | (simp; done) | (simp; omega)) _ | refine Below.setCell ?_ (by first | omega | (simp; done) | (simp; omega)) _)) (by first | omega | (simp; done) | (simp; omega)) hbx; have hFx := blk_call (by first | exact hFD | exact hFA _) hbx; have hRx := IsRow.below (by first | exact HROW.out.below (by repeat (first | exact Below.refl _ _ | assumption | refine Below.drew ?_ | refine below_drewN ?_ _ | refine Below.alloc ?_ (by first | omega | (simp; done) | (simp; omega)) _ | refine Below.setCell ?_ (by first | omega | (simp; done) | (simp; omega)) _)) | exact HROW.out) hbx; (try (have hNx : wx.heap[w3.heap.size]? = some (.cells #[.int .i64 0, .int .i64 0, .slice none 0 0] 117) := blk_call (blkD (blk_new _ _)) hbx; have m0 := cellOf hNx 0; have m1 := cellOf hNx 1; have m2 := cellOf hNx 2; simp at m0 m1 m2; have mf := frozenOf hNx))))
            all_goals
              go_wp2_with fail
              go_meet
            · exact ⟨_, _, rfl, blk_new _ _, blk_alloc hFx, hRx.below (by repeat (first | exact Below.refl _ _ | assumption | refine Below.drew ?_ | refine below_drewN ?_ _ | refine Below.alloc ?_ (by first | omega | (simp; done) | (simp; omega)) _ | refine Below.setCell ?_ (by first | omega | (simp; done) | (simp; omega)) _)), hBx.alloc hBx.size _, by omega⟩
            · exact ⟨_, _, rfl, cndS_store hNx, three_blk hFx (by omega), three_row hRx (by omega), three_below hBx (by omega), by omega⟩
          case rest =>
            obtain ⟨g9, v9, rfl, hC9, hF9, hR9, hB9, hlt9⟩ := hcut
            obtain ⟨m0, m1, m2⟩ := hC9.cells
            have hB9z := hB9.size
            rcases Int.lt_trichotomy yb 0 with hyb | hyb | hyb
            · have s1 : decide (0 < yb) = false := decide_eq_false (by omega)
              have s2 : decide (yb = 0) = false := decide_eq_false (by omega)
              have s3 : (yb == 0) = false := by simp; omega
              by_cases hya : 0 ≤ ya
              · have s5 : decide (0 ≤ ya) = true := decide_eq_true hya
                have hR : R = true := HPF.out.symm.trans (by unfold pfY; rw [if_neg (show ¬ 0 < yb by omega), if_neg (show ¬ yb = 0 by omega), if_pos hya])
                subst hR
                go_wp2
                go_ret2
                exact ⟨rfl, (by repeat (first | exact Below.refl _ _ | assumption | refine Below.drew ?_ | refine below_drewN ?_ _ | refine Below.alloc ?_ (by first | omega | (simp; done) | (simp; omega)) _ | refine Below.setCell ?_ (by first | omega | (simp; done) | (simp; omega)) _))⟩
              · have s5 : decide (0 ≤ ya) = false := decide_eq_false hya
                have hR : R = false := HPF.out.symm.trans (by unfold pfY; rw [if_neg (show ¬ 0 < yb by omega), if_neg (show ¬ yb = 0 by omega), if_neg hya, if_pos HZ0.out])
                subst hR
                go_wp2
                go_ret2
                exact ⟨rfl, (by repeat (first | exact Below.refl _ _ | assumption | refine Below.drew ?_ | refine below_drewN ?_ _ | refine Below.alloc ?_ (by first | omega | (simp; done) | (simp; omega)) _ | refine Below.setCell ?_ (by first | omega | (simp; done) | (simp; omega)) _))⟩
            · have s1 : decide (0 < yb) = false := decide_eq_false (by omega)
              have s2 : decide (yb = 0) = true := decide_eq_true hyb
              have s3 : (yb == 0) = true := by simp; omega
              have hR : R = decide (0 < ya) := HPF.out.symm.trans (by unfold pfY; rw [if_neg (show ¬ 0 < yb by omega), if_pos (show yb = 0 from hyb)])
              subst hR
              clear hyb
              go_wp2
              go_ret2
              exact ⟨rfl, (by repeat (first | exact Below.refl _ _ | assumption | refine Below.drew ?_ | refine below_drewN ?_ _ | refine Below.alloc ?_ (by first | omega | (simp; done) | (simp; omega)) _ | refine Below.setCell ?_ (by first | omega | (simp; done) | (simp; omega)) _))⟩
            · have s1 : decide (0 < yb) = true := decide_eq_true hyb
              have hR : R = false := HPF.out.symm.trans (by unfold pfY; rw [if_pos (show 0 < yb from hyb)])
              subst hR
              go_wp2
              go_ret2
              exact ⟨rfl, (by repeat (first | exact Below.refl _ _ | assumption | refine Below.drew ?_ | refine below_drewN ?_ _ | refine Below.alloc ?_ (by first | omega | (simp; done) | (simp; omega)) _ | refine Below.setCell ?_ (by first | omega | (simp; done) | (simp; omega)) _))⟩
        · have hfl : fourB zl (n0 : Int) = true := hokl.resolve_left hn3
          rw [hfl] at HJL
          obtain ⟨j2, k2, p2, q2, rfl, hk2, hj2, hp2, hq2, hcz2⟩ := four_rng (ls := ls) (hi := hi) (z := zl) (by rw [hlo, h01]; exact hfl)
          have hj2' : j2 < n1 := by omega
          have hq2' : q2 < n1 := by omega
          have HC2 := Lib.hid (fun W am cm hF hW hRow => l13Condition_any w.heap.size a0 a1 a2 n0 c0 n1 c1 n2 c2 ls lo hi am cm j2 k2 p2 q2 W hF hW hRow g hj2' hk2 hq2' hp2)
          obtain ⟨x5, x6, x7, x8⟩ := cnd_good g (j := j2) (k := k2) (p := p2) (q := q2) (by omega) hk2 (by omega) hp2
          rw [hcz2, show cnd ls lo hi j2 k2 p2 q2 = ⟨j2, k2, p2, q2, cA lo hi j2 k2 p2 q2, cB (momAt ls) j2 k2 p2 q2⟩ from rfl] at HPF
          simp only [cnd] at x5 x6 x7 x8
          generalize cA lo hi j2 k2 p2 q2 = xa at *
          generalize cB (momAt ls) j2 k2 p2 q2 = xb at *
          obtain ⟨b3, o3, rfl, t3⟩ := hl.addr (by omega)
          have q31 : (0 : Int) < (n3 : Int) := by have : 4 = n3 := hl.1; omega
          have q32 : (1 : Int) < (n3 : Int) := by have : 4 = n3 := hl.1; omega
          have q33 : (2 : Int) < (n3 : Int) := by have : 4 = n3 := hl.1; omega
          have q34 : (3 : Int) < (n3 : Int) := by have : 4 = n3 := hl.1; omega
          have q35 : 0 < n3 := by omega
          have y1 : decide ((0 : Int) < (n3 : Int)) = true := decide_eq_true (by omega)
          have y3 : ((n3 : Int) == 0) = false := by simp; omega
          have y4 : decide ((n3 : Int) = 0) = false := decide_eq_false (by omega)
          clear hfl hcz2 hj2 hq2 hk2 hp2 hj2' hq2' hn3
          clear h hl hh hlo hll g e1 e2 hfh hokl hcz v1 v2 v3 v4 hn11 hk hj hp hq hj' hq' q40 hls h01
          go_enter Try.func39, Try.ntmps39
          go_wp2_with fail
          refine (HOK.out _ (blk_new w _) (H.out.below (by repeat (first | exact Below.refl _ _ | assumption | refine Below.drew ?_ | refine below_drewN ?_ _ | refine Below.alloc ?_ (by first | omega | (simp; done) | (simp; omega)) _ | refine Below.setCell ?_ (by first | omega | (simp; done) | (simp; omega)) _)))).mono ?_
          rintro e1 w1 ⟨rfl, hb1⟩
          obtain ⟨hc1, hf1⟩ := bcell hb1
          have hz1 := hb1.size
          try simp at hz1
          have ha1 : Below w.heap.size w w1 := below_call (by repeat (first | exact Below.refl _ _ | assumption | refine Below.drew ?_ | refine below_drewN ?_ _ | refine Below.alloc ?_ (by first | omega | (simp; done) | (simp; omega)) _ | refine Below.setCell ?_ (by first | omega | (simp; done) | (simp; omega)) _)) hb1
          have F : Hid (w1.heap[w.heap.size]? = some _) := blk_call (by first | (refine blk_new' _ _ ?_; simp; done) | (refine blk_alloc (blk_new' _ _ ?_); simp; done) | (refine blk_alloc (blk_alloc (blk_new' _ _ ?_)); simp; done)) hb1
          have F_0 := cellOf F.out 0
          simp at F_0
          have F_1 := cellOf F.out 1
          simp at F_1
          have F_2 := cellOf F.out 2
          simp at F_2
          have F_lt := blk_lt F.out
          have F_le := Nat.le_of_lt F_lt
          have F_l1 := Nat.le_succ_of_le F_le
          go_wp2_with fail
          refine (HJH.out _ (HH.out.below (by repeat (first | exact Below.refl _ _ | assumption | refine Below.drew ?_ | refine below_drewN ?_ _ | refine Below.alloc ?_ (by first | omega | (simp; done) | (simp; omega)) _ | refine Below.setCell ?_ (by first | omega | (simp; done) | (simp; omega)) _)))).mono ?_
          rintro e w2 ⟨rfl, mq, rfl⟩
          go_wp2_with fail
          refine (HJL.out _ (HL.out.below (by repeat (first | exact Below.refl _ _ | assumption | refine Below.drew ?_ | refine below_drewN ?_ _ | refine Below.alloc ?_ (by first | omega | (simp; done) | (simp; omega)) _ | refine Below.setCell ?_ (by first | omega | (simp; done) | (simp; omega)) _)))).mono ?_
          rintro e w2 ⟨rfl, mr, rfl⟩
          go_wp2_with fail
          refine (HMO.out _ (blk_call F.out (below_drewN (Below.refl _ _) _)) (H.out.below (by repeat (first | exact Below.refl _ _ | assumption | refine Below.drew ?_ | refine below_drewN ?_ _ | refine Below.alloc ?_ (by first | omega | (simp; done) | (simp; omega)) _ | refine Below.setCell ?_ (by first | omega | (simp; done) | (simp; omega)) _)))).mono ?_
          rintro e w3 ⟨am, cm, rfl, hOm, hb3⟩
          have hz3 := hb3.size
          have ha3 : Below w.heap.size w w3 := below_call (by repeat (first | exact Below.refl _ _ | assumption | refine Below.drew ?_ | refine below_drewN ?_ _ | refine Below.alloc ?_ (by first | omega | (simp; done) | (simp; omega)) _ | refine Below.setCell ?_ (by first | omega | (simp; done) | (simp; omega)) _)) hb3
          have hRow := hOm.row
          rw [HM1.out] at hRow ⊢
          obtain ⟨bm, om, rfl, htm⟩ := hRow.addr hn0
          have HROW := Lib.hid hRow
          have HF := Lib.hid (blk_call (blk_call F.out (below_drewN (Below.refl _ _) _)) hb3)
          have hlt := blk_lt HF.out
          clear hc1 hf1 F_0 F_1 F_2 F_lt F_le F_l1 hOm hRow hb3
          go_wp2_with fail
          go_cut [10] (fun s10 wx => ∃ (g9 : Nat) (v9 : Value), s10 = .pointer (some ⟨g9, 0, none⟩) ∧ CndS wx g9 ya yb v9 ∧ wx.heap[w.heap.size]? = some (.cells #[.slice a0 n0 c0, .slice a1 n1 c1, .slice a2 n2 c2] 26 (0, 0)) ∧ IsRow .i64 wx (some ⟨bm, om, none⟩) n1 cm (moms ls n1) ∧ Below w.heap.size w wx ∧ w.heap.size < g9)
          case first =>
            obtain ⟨d0, d1, d2, d3⟩ := four_cells (HH.out.below ha3)
            have hltz := World.block_lt_of_cell? _ _ d0
            simp only at hltz
            have ne1 : w3.heap.size ≠ b4 := by omega
            have hFD : AtB w.heap.size a0 a1 a2 n0 c0 n1 c1 n2 c2 w3.drew := blkD HF.out
            have hFA : ∀ o, AtB w.heap.size a0 a1 a2 n0 c0 n1 c1 n2 c2 (w3.alloc o).drew := fun o => blkD (blk_alloc HF.out)
            have q9 : w3.drew.cell? ⟨b4, o4, none⟩ = some (Value.int .i64 (j : Int)) ∧ w3.drew.cell? ⟨b4, o4 + 1, none⟩ = some (Value.int .i64 (k : Int)) ∧ w3.drew.cell? ⟨b4, o4 + 2, none⟩ = some (Value.int .i64 (p : Int)) ∧ w3.drew.cell? ⟨b4, o4 + 3, none⟩ = some (Value.int .i64 (q : Int)) := ⟨d0, d1, d2, d3⟩
            go_region_held3 (fun w' => w'.cell? ⟨b4, o4, none⟩ = some (Value.int .i64 (j : Int)) ∧ w'.cell? ⟨b4, o4 + 1, none⟩ = some (Value.int .i64 (k : Int)) ∧ w'.cell? ⟨b4, o4 + 2, none⟩ = some (Value.int .i64 (p : Int)) ∧ w'.cell? ⟨b4, o4 + 3, none⟩ = some (Value.int .i64 (q : Int))) (first | (with_reducible assumption) | (with_reducible exact q9) | (refine ⟨?_, ?_, ?_, ?_⟩ <;> (repeat (first | (with_reducible assumption) | (with_reducible refine keepD ?_) | (with_reducible refine keepA ?_) | (with_reducible refine keep1S ?_ (by first | (with_reducible exact ne1) | (with_reducible exact ne3))))) <;> first | (with_reducible assumption) | (with_reducible exact hS.1) | (with_reducible exact hS.2.1) | (with_reducible exact hS.2.2.1) | (with_reducible exact hS.2.2.2)))
              ((go_at_call 95; (with_reducible refine (HCO.out _ _ _ (by first | exact hFD | exact hFA _) (H.out.below (by repeat (first | exact Below.refl _ _ | assumption | refine Below.drew ?_ | refine below_drewN ?_ _ | refine Below.alloc ?_ (by first | omega | (simp; done) | (simp; omega)) _ | refine Below.setCell ?_ (by first | omega | (simp; done) | (simp; omega)) _))) (HROW.out.below (by repeat (first | exact Below.refl _ _ | assumption | refine Below.drew ?_ | refine below_drewN ?_ _ | refine Below.alloc ?_ (by first | omega | (simp; done) | (simp; omega)) _ | refine Below.setCell ?_ (by first | omega | (simp; done) | (simp; omega)) _)))).mono ?_); rintro e wx ⟨rfl, hjx, hbx⟩; clear hjx; have hzx := hbx.size; (try simp at hzx); (have ne3 : wx.heap.size ≠ b4 := by omega); have hS : wx.cell? ⟨b4, o4, none⟩ = some (Value.int .i64 (j : Int)) ∧ wx.cell? ⟨b4, o4 + 1, none⟩ = some (Value.int .i64 (k : Int)) ∧ wx.cell? ⟨b4, o4 + 2, none⟩ = some (Value.int .i64 (p : Int)) ∧ wx.cell? ⟨b4, o4 + 3, none⟩ = some (Value.int .i64 (q : Int)) := by { refine ⟨?_, ?_, ?_, ?_⟩ <;> refine keep1 hbx ?_ <;> first | (with_reducible assumption) | exact d0 | exact d1 | exact d2 | exact d3 | exact keepA d0 | exact keepA d1 | exact keepA d2 | exact keepA d3 }; have hBx : Below w.heap.size w wx := below_callB (by repeat (first | exact Below.refl _ _ | assumption | refine Below.drew ?_ | refine below_drewN ?_ _ | refine Below.alloc ?_ (by first | omega | (simp; done) | (simp; omega)) _ | refine Below.setCell ?_ (by first | omega | (simp; done) | (simp; omega)) _)) (by first | omega | (simp; done) | (simp; omega)) hbx; have hFx := blk_call (by first | exact hFD | exact hFA _) hbx; have hRx := IsRow.below (by first | exact HROW.out.below (by repeat (first | exact Below.refl _ _ | assumption | refine Below.drew ?_ | refine below_drewN ?_ _ | refine Below.alloc ?_ (by first | omega | (simp; done) | (simp; omega)) _ | refine Below.setCell ?_ (by first | omega | (simp; done) | (simp; omega)) _)) | exact HROW.out) hbx; (try (have hNx : wx.heap[w3.heap.size]? = some (.cells #[.int .i64 0, .int .i64 0, .slice none 0 0] 117) := blk_call (blkD (blk_new _ _)) hbx; have m0 := cellOf hNx 0; have m1 := cellOf hNx 1; have m2 := cellOf hNx 2; simp at m0 m1 m2; have mf := frozenOf hNx))))
            all_goals
              go_wp2_with fail
              go_meet
            · exact ⟨_, _, rfl, blk_new _ _, blk_alloc hFx, hRx.below (by repeat (first | exact Below.refl _ _ | assumption | refine Below.drew ?_ | refine below_drewN ?_ _ | refine Below.alloc ?_ (by first | omega | (simp; done) | (simp; omega)) _ | refine Below.setCell ?_ (by first | omega | (simp; done) | (simp; omega)) _)), hBx.alloc hBx.size _, by omega⟩
            · exact ⟨_, _, rfl, cndS_store hNx, three_blk hFx (by omega), three_row hRx (by omega), three_below hBx (by omega), by omega⟩
          case rest =>
            obtain ⟨g9, v9, rfl, hC9, hF9, hR9, hB9, hlt9⟩ := hcut
            obtain ⟨m0, m1, m2⟩ := hC9.cells
            have hB9z := hB9.size
            rcases Int.lt_trichotomy yb 0 with hyb | hyb | hyb
            · have s1 : decide (0 < yb) = false := decide_eq_false (by omega)
              have s2 : decide (yb = 0) = false := decide_eq_false (by omega)
              have s3 : (yb == 0) = false := by simp; omega
              by_cases hya : 0 ≤ ya
              · have s5 : decide (0 ≤ ya) = true := decide_eq_true hya
                have hR : R = true := HPF.out.symm.trans (by unfold pfY; rw [if_neg (show ¬ 0 < yb by omega), if_neg (show ¬ yb = 0 by omega), if_pos hya])
                subst hR
                go_wp2
                go_ret2
                exact ⟨rfl, (by repeat (first | exact Below.refl _ _ | assumption | refine Below.drew ?_ | refine below_drewN ?_ _ | refine Below.alloc ?_ (by first | omega | (simp; done) | (simp; omega)) _ | refine Below.setCell ?_ (by first | omega | (simp; done) | (simp; omega)) _))⟩
              · have s5 : decide (0 ≤ ya) = false := decide_eq_false hya
                have HRV := Lib.hid (HPF.out.symm.trans (show pfY [(j2 : Int), (k2 : Int), (p2 : Int), (q2 : Int)] ⟨j2, k2, p2, q2, xa, xb⟩ ⟨j, k, p, q, ya, yb⟩ = (decide (0 < xb) && lessC ya yb xa xb) by unfold pfY; rw [if_neg (show ¬ 0 < yb by omega), if_neg (show ¬ yb = 0 by omega), if_neg hya, if_neg (by simp)]))
                have HC9 := Lib.hid hC9
                have HF9 := Lib.hid hF9
                have HR9 := Lib.hid hR9
                clear hC9 hF9 hR9
                go_wp2_with fail
                go_cut [11] (fun s11 wx => ∃ (g10 : Nat) (v10 : Value), s11 = .pointer (some ⟨g10, 0, none⟩) ∧ CndS wx g10 xa xb v10 ∧ CndS wx g9 ya yb v9 ∧ Below w.heap.size w wx)
                case first =>
                  clear m0 m1 m2
                  have hlt9' := blk_lt HC9.out
                  obtain ⟨d0, d1, d2, d3⟩ := four_cells (HL.out.below hB9)
                  have hltz := World.block_lt_of_cell? _ _ d0
                  simp only at hltz
                  have ne1 : wc.heap.size ≠ b3 := by omega
                  have hFD : AtB w.heap.size a0 a1 a2 n0 c0 n1 c1 n2 c2 wc.drew := blkD HF9.out
                  have hFA : ∀ o, AtB w.heap.size a0 a1 a2 n0 c0 n1 c1 n2 c2 (wc.alloc o).drew := fun o => blkD (blk_alloc HF9.out)
                  have q9 : wc.drew.cell? ⟨b3, o3, none⟩ = some (Value.int .i64 (j2 : Int)) ∧ wc.drew.cell? ⟨b3, o3 + 1, none⟩ = some (Value.int .i64 (k2 : Int)) ∧ wc.drew.cell? ⟨b3, o3 + 2, none⟩ = some (Value.int .i64 (p2 : Int)) ∧ wc.drew.cell? ⟨b3, o3 + 3, none⟩ = some (Value.int .i64 (q2 : Int)) := ⟨d0, d1, d2, d3⟩
                  go_region_held3 (fun w' => w'.cell? ⟨b3, o3, none⟩ = some (Value.int .i64 (j2 : Int)) ∧ w'.cell? ⟨b3, o3 + 1, none⟩ = some (Value.int .i64 (k2 : Int)) ∧ w'.cell? ⟨b3, o3 + 2, none⟩ = some (Value.int .i64 (p2 : Int)) ∧ w'.cell? ⟨b3, o3 + 3, none⟩ = some (Value.int .i64 (q2 : Int))) (first | (with_reducible assumption) | (with_reducible exact q9) | (refine ⟨?_, ?_, ?_, ?_⟩ <;> (repeat (first | (with_reducible assumption) | (with_reducible refine keepD ?_) | (with_reducible refine keepA ?_) | (with_reducible refine keep1S ?_ (by first | (with_reducible exact ne1) | (with_reducible exact ne3))))) <;> first | (with_reducible assumption) | (with_reducible exact hS.1) | (with_reducible exact hS.2.1) | (with_reducible exact hS.2.2.1) | (with_reducible exact hS.2.2.2)))
                    ((go_at_call 95; (with_reducible refine (HC2.out _ _ _ (by first | exact hFD | exact hFA _) (H.out.below (by repeat (first | exact Below.refl _ _ | assumption | refine Below.drew ?_ | refine below_drewN ?_ _ | refine Below.alloc ?_ (by first | omega | (simp; done) | (simp; omega)) _ | refine Below.setCell ?_ (by first | omega | (simp; done) | (simp; omega)) _))) (HR9.out.below (by repeat (first | exact Below.refl _ _ | assumption | refine Below.drew ?_ | refine below_drewN ?_ _ | refine Below.alloc ?_ (by first | omega | (simp; done) | (simp; omega)) _ | refine Below.setCell ?_ (by first | omega | (simp; done) | (simp; omega)) _)))).mono ?_); rintro e wx ⟨rfl, hjx, hbx⟩; clear hjx; have hzx := hbx.size; (try simp at hzx); (have ne3 : wx.heap.size ≠ b3 := by omega); have hS : wx.cell? ⟨b3, o3, none⟩ = some (Value.int .i64 (j2 : Int)) ∧ wx.cell? ⟨b3, o3 + 1, none⟩ = some (Value.int .i64 (k2 : Int)) ∧ wx.cell? ⟨b3, o3 + 2, none⟩ = some (Value.int .i64 (p2 : Int)) ∧ wx.cell? ⟨b3, o3 + 3, none⟩ = some (Value.int .i64 (q2 : Int)) := by { refine ⟨?_, ?_, ?_, ?_⟩ <;> refine keep1 hbx ?_ <;> first | (with_reducible assumption) | exact d0 | exact d1 | exact d2 | exact d3 | exact keepA d0 | exact keepA d1 | exact keepA d2 | exact keepA d3 }; have hBx : Below w.heap.size w wx := below_callB (by repeat (first | exact Below.refl _ _ | assumption | refine Below.drew ?_ | refine below_drewN ?_ _ | refine Below.alloc ?_ (by first | omega | (simp; done) | (simp; omega)) _ | refine Below.setCell ?_ (by first | omega | (simp; done) | (simp; omega)) _)) (by first | omega | (simp; done) | (simp; omega)) hbx; have hFx := blk_call (by first | exact hFD | exact hFA _) hbx; have hY9 : CndS wx g9 ya yb v9 := blk_call (by first | exact (blkD HC9.out) | exact blk_alloc (blkD HC9.out)) hbx; (try (have hNx : wx.heap[wc.heap.size]? = some (.cells #[.int .i64 0, .int .i64 0, .slice none 0 0] 117) := blk_call (blkD (blk_new _ _)) hbx; have m0 := cellOf hNx 0; have m1 := cellOf hNx 1; have m2 := cellOf hNx 2; simp at m0 m1 m2; have mf := frozenOf hNx))))
                  all_goals
                    go_wp2_with fail
                    go_meet
                  · exact ⟨_, _, rfl, blk_new _ _, blk_alloc hY9, hBx.alloc hBx.size _⟩
                  · exact ⟨_, _, rfl, cndS_store hNx, three_blk hY9 (by omega), three_below hBx (by omega)⟩
                case rest =>
                  obtain ⟨g10, v10, rfl, hC10, hC9, hB10⟩ := hcut
                  obtain ⟨m0, m1, m2⟩ := hC9.cells
                  obtain ⟨r0, r1, r2⟩ := hC10.cells
                  have hB10z := hB10.size
                  clear hC9 hC10
                  by_cases hxb : 0 < xb
                  · have s6 : decide (0 < xb) = true := decide_eq_true hxb
                    have HLB := Lib.hid (fun W o1 o2 => l13Less_any ya yb xa xb o1 o2 W x1 x2 x3 x4 x5 x6 x7 x8)
                    obtain ⟨L, hL⟩ : ∃ L, lessC ya yb xa xb = L := ⟨_, rfl⟩
                    rw [hL] at HLB
                    have hR : R = L := HRV.out.trans (by rw [s6, hL]; rfl)
                    subst hR
                    clear hL
                    go_wp2_with fail
                    refine (HLB.out _ _ _).mono ?_
                    rintro e7 w7 ⟨rfl, hb7⟩
                    have ha7 : Below w.heap.size w w7 := below_callB (by repeat (first | exact Below.refl _ _ | assumption | refine Below.drew ?_ | refine below_drewN ?_ _ | refine Below.alloc ?_ (by first | omega | (simp; done) | (simp; omega)) _ | refine Below.setCell ?_ (by first | omega | (simp; done) | (simp; omega)) _)) (by first | omega | (simp; done) | (simp; omega)) hb7
                    go_wp2
                    go_ret2
                    exact ⟨rfl, (by repeat (first | exact Below.refl _ _ | assumption | refine Below.drew ?_ | refine below_drewN ?_ _ | refine Below.alloc ?_ (by first | omega | (simp; done) | (simp; omega)) _ | refine Below.setCell ?_ (by first | omega | (simp; done) | (simp; omega)) _))⟩
                  · have s6 : decide (0 < xb) = false := decide_eq_false hxb
                    have hR : R = false := HRV.out.trans (by rw [s6]; rfl)
                    subst hR
                    go_wp2
                    go_ret2
                    exact ⟨rfl, (by repeat (first | exact Below.refl _ _ | assumption | refine Below.drew ?_ | refine below_drewN ?_ _ | refine Below.alloc ?_ (by first | omega | (simp; done) | (simp; omega)) _ | refine Below.setCell ?_ (by first | omega | (simp; done) | (simp; omega)) _))⟩
            · have s1 : decide (0 < yb) = false := decide_eq_false (by omega)
              have s2 : decide (yb = 0) = true := decide_eq_true hyb
              have s3 : (yb == 0) = true := by simp; omega
              have hR : R = decide (0 < ya) := HPF.out.symm.trans (by unfold pfY; rw [if_neg (show ¬ 0 < yb by omega), if_pos (show yb = 0 from hyb)])
              subst hR
              clear hyb
              go_wp2
              go_ret2
              exact ⟨rfl, (by repeat (first | exact Below.refl _ _ | assumption | refine Below.drew ?_ | refine below_drewN ?_ _ | refine Below.alloc ?_ (by first | omega | (simp; done) | (simp; omega)) _ | refine Below.setCell ?_ (by first | omega | (simp; done) | (simp; omega)) _))⟩
            · have s1 : decide (0 < yb) = true := decide_eq_true hyb
              have hR : R = false := HPF.out.symm.trans (by unfold pfY; rw [if_pos (show 0 < yb from hyb)])
              subst hR
              go_wp2
              go_ret2
              exact ⟨rfl, (by repeat (first | exact Below.refl _ _ | assumption | refine Below.drew ?_ | refine below_drewN ?_ _ | refine Below.alloc ?_ (by first | omega | (simp; done) | (simp; omega)) _ | refine Below.setCell ?_ (by first | omega | (simp; done) | (simp; omega)) _))⟩
end Go.Proofs.Ytklhaanapembdaa
