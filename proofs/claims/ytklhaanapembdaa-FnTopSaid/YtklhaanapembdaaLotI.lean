/- Contract of the program's LineOfThrust; no old memory turns; condition: the slices can be read. -/
import Derived.OwnWalk
import Derived.Test.YtklhaanapembdaaM22
import Derived.Test.YtklhaanapembdaaSlope
import Derived.Test.YtklhaanapembdaaCurvJ

namespace Go.Proofs.Ytklhaanapembdaa
open Go.RowKit
theorem below_drew1 {W wy : World} (h : Below W.drew.heap.size W.drew wy) : Below W.heap.size W wy := (below_drewN (Below.refl W.heap.size W) 1).trans h
theorem below_alloc1 {W wy : World} {o : Obj} (h : Below (W.alloc o).drew.heap.size (W.alloc o).drew wy) : Below W.heap.size W wy := by
  have h1 : Below W.heap.size W (W.alloc o).drew := (by repeat (first | exact Below.refl _ _ | assumption | refine Below.drew ?_ | refine below_drewN ?_ _ | refine Below.alloc ?_ (by first | omega | (simp; done) | (simp; omega)) _ | refine Below.setCell ?_ (by first | omega | (simp; done) | (simp; omega)) _))
  exact h1.trans (h.mono (by simp [World.drew]))
theorem row_set {W : World} {b o n c g i : Nat} {zs : List Int} {v0 : Value} (h : IsRow .i64 W (some ⟨b, o, none⟩) n c zs) (hg : g ≠ b) : IsRow .i64 (W.setCell ⟨g, i, none⟩ v0) (some ⟨b, o, none⟩) n c zs := by
  obtain ⟨h1, h2, h3, h4, h5⟩ := h
  refine ⟨h1, h2, h3, h4, fun h0 => ?_⟩
  obtain ⟨b', o', e, hlt, hc⟩ := h5 h0
  injection e with e
  injection e with e1 e2
  subst e1 e2
  exact ⟨_, _, rfl, by simpa [World.setCell] using hlt, fun i n hi => keep1S (hc i n hi) hg⟩
theorem ownI_of {W : World} {base n : Nat} {v : Value} {zs : List Int} (hl : zs.length = n) (h : W.ownsRow base 2 1 v n (zs.map (Value.int .i64))) : OwnI W base v zs := by
  unfold OwnI; rw [hl]; exact h
theorem row_two {W : World} {b o n c g : Nat} {zs : List Int} {v0 v1 : Value} (h : IsRow .i64 W (some ⟨b, o, none⟩) n c zs) (hg : g ≠ b) : IsRow .i64 ((W.setCell ⟨g, 0, none⟩ v0).setCell ⟨g, 1, none⟩ v1) (some ⟨b, o, none⟩) n c zs :=
  row_set (row_set h hg) hg

set_option maxRecDepth 100000 in
set_option maxHeartbeats 8000000 in
theorem lineOfThrust_any (a0 a1 a2 : Option Addr) (n0 c0 n1 c1 n2 c2 : Nat) (ls lo hi : List Int) (w : World) (h : IsB a0 a1 a2 n0 c0 n1 c1 n2 c2 ls lo hi w) :
    Calls Try.prog 22 #[.agg #[.slice a0 n0 c0, .slice a1 n1 c1, .slice a2 n2 c2]] w (NewD w (lotI ls lo hi) (lotD ls lo hi) (csC ls lo hi)) := by
  have H := Lib.hid h
  have HS := Lib.hid (fun W hW => curvatureBounds_any a0 a1 a2 n0 c0 n1 c1 n2 c2 ls lo hi W hW)
  rcases csC_cases ls lo hi with ⟨g, hc⟩ | ⟨g, hc⟩
  · obtain ⟨e1, e2, e3, e4, _, _⟩ := cv_yes g
    obtain ⟨v, hs⟩ := canV_t g
    obtain ⟨k1, k2⟩ := lot_yes g
    rw [k1, k2, hc]
    rw [e1, e2, e3, e4, hc] at HS
    have hl1 : lo.length = n1 := h.2.1.1
    have hl0 : ls.length = n0 := h.1.1
    have hl2 : hi.length = n2 := h.2.2.1
    obtain ⟨v1, v2, v3, v4, v5, _⟩ := blkB_t v
    have hn1 : n1 ≤ 11 := by omega
    have hn3 : 3 ≤ n1 := by omega
    have HN2 := Lib.hid (show n2 = n1 by omega)
    obtain ⟨q1, q2, q3, q4⟩ := s_sharp v hs
    have HLT := Lib.hid (lt_bd v hs)
    have HSC := Lib.hid (scB_impl v hs)
    have HTF := Lib.hid (tdiv_fac q3 (lt_bd v hs).1)
    have HMO := Lib.hid (fun W hW => moments_any a0 a1 a2 n0 c0 n1 c1 n2 c2 ls lo hi W hW v)
    have HV := Lib.hid v
    have HL1 := Lib.hid hl1
    have HML := Lib.hid (moms_len ls n1)
    have HSL := Lib.hid (show ltS ls lo hi = slA (slO ls lo hi (sN (bfind ls lo hi)) (sD (bfind ls lo hi))) lo.length from rfl)
    have HLM := Lib.hid (show ltM ls lo hi = deI (sD (bfind ls lo hi)) (ltS ls lo hi).2 from rfl)
    have HLA := Lib.hid (show ltA ls lo hi = (ltS ls lo hi).1 * (ltM ls lo hi).tdiv (ltS ls lo hi).2 from rfl)
    have HLB := Lib.hid (show ltB ls lo hi = sN (bfind ls lo hi) * (ltM ls lo hi).tdiv (sD (bfind ls lo hi)) from rfl)
    clear h e1 e2 e3 e4 g hc k1 k2 hs v v1 v2 v3 v4 v5 hl0 hl1 hl2
    generalize sN (bfind ls lo hi) = sn at *
    generalize sD (bfind ls lo hi) = sd at *
    generalize loN (bfind ls lo hi) = ln at *
    generalize loD (bfind ls lo hi) = ld at *
    go_enter Try.func22, Try.ntmps22
    go_wp2_with fail
    refine (HS.out _ (H.out.below (by repeat (first | exact Below.refl _ _ | assumption | refine Below.drew ?_ | refine below_drewN ?_ _ | refine Below.alloc ?_ (by first | omega | (simp; done) | (simp; omega)) _ | refine Below.setCell ?_ (by first | omega | (simp; done) | (simp; omega)) _)))).mono ?_
    rintro e w1 ⟨rfl, hb1⟩
    have hz1 := hb1.size
    simp at hz1
    have ha1 : Below w.heap.size w w1 := below_call (by repeat (first | exact Below.refl _ _ | assumption | refine Below.drew ?_ | refine below_drewN ?_ _ | refine Below.alloc ?_ (by first | omega | (simp; done) | (simp; omega)) _ | refine Below.setCell ?_ (by first | omega | (simp; done) | (simp; omega)) _)) hb1
    have hF1 : AtB w.heap.size a0 a1 a2 n0 c0 n1 c1 n2 c2 w1 := blk_call (blk_new w _) hb1
    obtain ⟨W1, hW1⟩ : ∃ W1, (w1.alloc (.cells #[.int .i64 ln, .int .i64 ld] 31)).alloc (.cells #[.int .i64 sn, .int .i64 sd] 31) = W1 := ⟨_, rfl⟩
    have hF2 : AtB w.heap.size a0 a1 a2 n0 c0 n1 c1 n2 c2 W1 := by rw [← hW1]; exact blk_alloc (blk_alloc hF1)
    have hA6 : FrAt W1 (w1.heap.size + 1) sn sd := by rw [← hW1]; exact blk_new' _ _ (by simp)
    have hB1 : Below w.heap.size w W1 := by rw [← hW1]; exact (by repeat (first | exact Below.refl _ _ | assumption | refine Below.drew ?_ | refine below_drewN ?_ _ | refine Below.alloc ?_ (by first | omega | (simp; done) | (simp; omega)) _ | refine Below.setCell ?_ (by first | omega | (simp; done) | (simp; omega)) _))
    have hZ1 : w1.heap.size + 1 < W1.heap.size := by rw [← hW1]; simp
    go_wp2_with fail
    (try rw [hW1])
    clear hW1 hF1 ha1 hb1
    obtain ⟨f0, f1, f2, _⟩ := hF2.cells
    have q9 : W1.drew.cell? ⟨w.heap.size, 0, none⟩ = some (Value.slice a0 n0 c0) ∧ W1.drew.cell? ⟨w.heap.size, 1, none⟩ = some (Value.slice a1 n1 c1) ∧ W1.drew.cell? ⟨w.heap.size, 2, none⟩ = some (Value.slice a2 n2 c2) := ⟨f0, f1, f2⟩
    go_region_held3 (fun w' => w'.cell? ⟨w.heap.size, 0, none⟩ = some (Value.slice a0 n0 c0) ∧ w'.cell? ⟨w.heap.size, 1, none⟩ = some (Value.slice a1 n1 c1) ∧ w'.cell? ⟨w.heap.size, 2, none⟩ = some (Value.slice a2 n2 c2)) (first | (with_reducible assumption) | (with_reducible exact q9))
      ((go_at_call 68; (with_reducible refine (HMO.out _ (H.out.below (by repeat (first | exact Below.refl _ _ | assumption | refine Below.drew ?_ | refine below_drewN ?_ _ | refine Below.alloc ?_ (by first | omega | (simp; done) | (simp; omega)) _ | refine Below.setCell ?_ (by first | omega | (simp; done) | (simp; omega)) _)))).mono ?_); rintro e wx ⟨am, cm, rfl, hOm, hbx⟩; have hS := keep3 hbx (by first | (with_reducible assumption) | exact q9); have hBx : Below w.heap.size w wx := below_callB (by repeat (first | exact Below.refl _ _ | assumption | refine Below.drew ?_ | refine below_drewN ?_ _ | refine Below.alloc ?_ (by first | omega | (simp; done) | (simp; omega)) _ | refine Below.setCell ?_ (by first | omega | (simp; done) | (simp; omega)) _)) (by first | omega | (simp; done) | (simp; omega)) hbx; have A6 : FrAt wx (w1.heap.size + 1) sn sd := blk_call (blkD hA6) hbx; have hFx : AtB w.heap.size a0 a1 a2 n0 c0 n1 c1 n2 c2 wx := blk_call (blkD hF2) hbx; have hRx := hOm.row; have hzx := hbx.size; (try simp at hzx)))
    all_goals
      rw [HML.out] at hRx ⊢
      obtain ⟨b3, o3, rfl, r3⟩ := hRx.addr (by omega)
      go_wp2_with fail
      clear q9 f0 f1 f2 hS hOm
      obtain ⟨W2, hW2⟩ : ∃ W2, wx.alloc (.cells #[.int .i64 0, .int .i64 0] 31) = W2 := ⟨_, rfl⟩
      have HF3 : Hid (AtB w.heap.size a0 a1 a2 n0 c0 n1 c1 n2 c2 W2) := Lib.hid (by rw [← hW2]; exact blk_alloc hFx)
      have HA3 : Hid (FrAt W2 (w1.heap.size + 1) sn sd) := Lib.hid (by rw [← hW2]; exact blk_alloc A6)
      have HA10 : Hid (FrAt W2 wx.heap.size 0 0) := Lib.hid (by rw [← hW2]; exact blk_new _ _)
      have HR3 : Hid (IsRow .i64 W2 (some ⟨b3, o3, none⟩) n1 cm (moms ls n1)) := Lib.hid (by rw [← hW2]; exact hRx.below (by repeat (first | exact Below.refl _ _ | assumption | refine Below.drew ?_ | refine below_drewN ?_ _ | refine Below.alloc ?_ (by first | omega | (simp; done) | (simp; omega)) _ | refine Below.setCell ?_ (by first | omega | (simp; done) | (simp; omega)) _)))
      have HB3 : Hid (Below w.heap.size w W2) := Lib.hid (by rw [← hW2]; exact hBx.alloc hBx.size _)
      have hZ3 : wx.heap.size < W2.heap.size := by rw [← hW2]; simp
      (try rw [hW2])
      clear hW2 hFx A6 hRx hBx
      have HSB := Lib.hid (fun n (hn : n ≤ n1) => slB_A (f := slO ls lo hi sn sd) n fun j k hj hk => (slO_bd HV.out q1 q2 q3 q4 (by have := HL1.out; omega) hk).1)
      go_loopw [11, 40] (fun fs i wr => ∃ (j : Nat) (bb : Bool), j ≤ n1 ∧ i = .int .i64 (j : Int) ∧ fs = .bool bb ∧ bb = decide ((slA (slO ls lo hi sn sd) j).2 ≠ 0) ∧ FrAt wr wx.heap.size (slA (slO ls lo hi sn sd) j).1 (slA (slO ls lo hi sn sd) j).2 ∧ FrAt wr (w1.heap.size + 1) sn sd ∧ AtB w.heap.size a0 a1 a2 n0 c0 n1 c1 n2 c2 wr ∧ IsRow .i64 wr (some ⟨b3, o3, none⟩) n1 cm (moms ls n1) ∧ Below w.heap.size w wr) (fun _ i _ => (n1 - intOf i).toNat)
      case atStart => exact ⟨0, _, by omega, rfl, rfl, rfl, HA10.out, HA3.out, HF3.out, HR3.out, HB3.out⟩
      case round =>
        obtain ⟨j, bb, hj, rfl, rfl, hbb, hA10, hA6', hF, hR, hB⟩ := hrel
        by_cases hlj : j < n1
        · have hlj' : (j : Int) < (n1 : Int) := by omega
          obtain ⟨wo, rfl⟩ : ∃ wo : World, wo = wr := ⟨_, rfl⟩
          have hsb := HSB.out j (by omega)
          have HSA := Lib.hid (show slA (slO ls lo hi sn sd) (j + 1) = slR (slO ls lo hi sn sd) j (slA (slO ls lo hi sn sd) j) j from rfl)
          have HBR := Lib.hid (fun k (hk : k ≤ j) => slB_R (f := slO ls lo hi sn sd) (j := j) hsb k fun k' hk' => (slO_bd HV.out q1 q2 q3 q4 (by rw [HL1.out]; omega) (by omega)).1)
          generalize slA (slO ls lo hi sn sd) j = s0 at *
          have HBB := Lib.hid hbb
          have HA10 := Lib.hid hA10
          have HA6 := Lib.hid hA6'
          have HF := Lib.hid hF
          have HR := Lib.hid hR
          have HB := Lib.hid hB
          clear hsb hbb hA10 hA6' hF hR hB
          go_wp2_with fail
          go_loopw [11, 44] (fun fs i wr => ∃ (k : Nat) (bb : Bool), k ≤ j ∧ i = .int .i64 (k : Int) ∧ fs = .bool bb ∧ bb = decide ((slR (slO ls lo hi sn sd) j s0 k).2 ≠ 0) ∧ FrAt wr wx.heap.size (slR (slO ls lo hi sn sd) j s0 k).1 (slR (slO ls lo hi sn sd) j s0 k).2 ∧ FrAt wr (w1.heap.size + 1) sn sd ∧ AtB w.heap.size a0 a1 a2 n0 c0 n1 c1 n2 c2 wr ∧ IsRow .i64 wr (some ⟨b3, o3, none⟩) n1 cm (moms ls n1) ∧ Below w.heap.size w wr) (fun _ i _ => (j - intOf i).toNat)
          case atStart => exact ⟨0, _, by omega, rfl, rfl, HBB.out, HA10.out, HA6.out, HF.out, HR.out, HB.out⟩
          case round =>
            clear HBB HA10 HA6 HF HR HB
            obtain ⟨k, bb, hk, rfl, rfl, hbb, hA10, hA6', hF, hR, hB⟩ := hrel
            by_cases hlk : k < j
            · have hlk' : (k : Int) < (j : Int) := by omega
              have HNX := Lib.hid (show slR (slO ls lo hi sn sd) j s0 (k + 1) = slS (slR (slO ls lo hi sn sd) j s0 k) (slO ls lo hi sn sd j k) from rfl)
              obtain ⟨hs1, hs2, hs3, hs4⟩ := HBR.out k hk
              obtain ⟨⟨ho1, ho2, ho3, ho4⟩, ho5, k1, k2, k3, k4⟩ := slO_bd HV.out q1 q2 q3 q4 (j := j) (k := k) (by rw [HL1.out]; omega) hlk
              have HSO := Lib.hid (show slO ls lo hi sn sd j k = (lwN (slN ls lo hi sn sd j k) (slD sd j k), lwD (slN ls lo hi sn sd j k) (slD sd j k)) from rfl)
              have HMK := Lib.hid (fun W => lowest_any (slN ls lo hi sn sd j k) (slD sd j k) W (by omega) (by omega) (by omega) (by omega))
              have HEN := Lib.hid (show slN ls lo hi sn sd j k = (lo.getD j 0 - hi.getD k 0) * sd + sn * (momAt ls j - momAt ls k) from rfl)
              have HED := Lib.hid (show slD sd j k = sd * ((j : Int) - k) from rfl)
              rw [HSO.out] at ho1 ho2 ho3 ho4 ho5 HNX
              simp only at ho1 ho2 ho3 ho4 ho5
              generalize lwN (slN ls lo hi sn sd j k) (slD sd j k) = ON at *
              generalize lwD (slN ls lo hi sn sd j k) (slD sd j k) = OD at *
              generalize slR (slO ls lo hi sn sd) j s0 k = s at *
              rw [HEN.out, HED.out] at HMK
              rw [HEN.out] at k3 k4
              rw [HED.out] at k1 k2
              have hn2e := HN2.out
              obtain ⟨b1, o1, rfl, r1⟩ := H.out.2.1.addr (by omega)
              obtain ⟨b2, o2, rfl, r2⟩ := H.out.2.2.addr (by omega)
              obtain ⟨q0', q0, q1', _⟩ := hF.cells
              have d1 := keep1 hB (H.out.2.1.same (i := j) (by omega))
              have d2 := keep1 hB (H.out.2.2.same (i := k) (by omega))
              have d3 := (moms_get ls n1 j (by omega)) ▸ hR.same (i := j) (by omega)
              have d4 := (moms_get ls n1 k (by omega)) ▸ hR.same (i := k) (by omega)
              obtain ⟨v1, v2, v3, v4, v5, v6, v7, v8⟩ := blkB_t HV.out
              have hl1 := HL1.out
              obtain ⟨x1, x2⟩ := v6 j (by omega)
              obtain ⟨x3, x4⟩ := v7 k (by omega)
              obtain ⟨y1, y2⟩ := momAt_bd (ls := ls) (k := j) (by omega) v3 (by omega)
              obtain ⟨y3, y4⟩ := momAt_bd (ls := ls) (k := k) (by omega) v3 (by omega)
              have zz4 : (k : Int) < (n2 : Int) := by omega
              clear v1 v2 v3 v4 v5 v6 v7 v8 hl1 hn2e q0'
              generalize lo.getD j 0 = e1 at *
              generalize hi.getD k 0 = e2 at *
              generalize momAt ls j = e3 at *
              generalize momAt ls k = e4 at *
              obtain ⟨m1, m2⟩ := prod_bd (x := e1 - e2) (y := sd) (A := 2000) (B := 3800000) (by omega) (by omega) (by omega) (by omega) (by omega)
              obtain ⟨p0, p1, pf⟩ := hA6'.cells
              have zz1 : (0 : Int) ≤ (j : Int) := by omega
              have zz2 : (0 : Int) ≤ (k : Int) := by omega
              have zz5 : (k : Int) < (n1 : Int) := by omega
              have l1 := blk_lt hA10
              have l2 := blk_lt hA6'
              have l3 := blk_lt hF
              have l4 : b1 < wr.heap.size := by have := hB.size; omega
              have l5 : b2 < wr.heap.size := by have := hB.size; omega
              have HA10 := Lib.hid hA10
              have HA6 := Lib.hid hA6'
              have HAF := Lib.hid hF
              have HAR := Lib.hid hR
              have HBB := Lib.hid hbb
              clear hA10 hA6' hF hR hbb
              have i1 := IntWalk.i64_in (e1 - e2) (by omega)
              have i2 := IntWalk.i64_in ((e1 - e2) * sd) (by omega)
              have i3 := IntWalk.i64_in (e3 - e4) (by omega)
              have i4 := IntWalk.i64_in (sn * (e3 - e4)) (by omega)
              have i5 := IntWalk.i64_in ((e1 - e2) * sd + sn * (e3 - e4)) (by omega)
              have i6 := IntWalk.i64_in ((j : Int) - (k : Int)) (by omega)
              have i7 := IntWalk.i64_in (sd * ((j : Int) - (k : Int))) (by omega)
              have ne1 : wr.heap.size ≠ w.heap.size := by omega
              have ne2 : wr.heap.size ≠ b1 := by omega
              have ne3 : wr.heap.size ≠ b2 := by omega
              have ne4 : wr.heap.size ≠ b3 := by omega
              have ne5 : wr.heap.size ≠ w1.heap.size + 1 := by omega
              go_wp2_with fail
              (try simp only [List.append_eq, List.cons_append, List.nil_append])
              go_cut [14] (fun s14 wy => ∃ g14 : Nat, s14 = .pointer (some ⟨g14, 0, none⟩) ∧ FrAt wy g14 ON OD ∧ FrAt wy wx.heap.size s.1 s.2 ∧ FrAt wy (w1.heap.size + 1) sn sd ∧ AtB w.heap.size a0 (some ⟨b1, o1, none⟩) (some ⟨b2, o2, none⟩) n0 c0 n1 c1 n2 c2 wy ∧ IsRow .i64 wy (some ⟨b3, o3, none⟩) n1 cm (moms ls n1) ∧ Below w.heap.size w wy ∧ wr.heap.size ≤ g14)
              case first =>
                have q9 : wr.drew.cell? ⟨w.heap.size, 1, none⟩ = some (Value.slice (some ⟨b1, o1, none⟩) n1 c1) ∧ wr.drew.cell? ⟨w.heap.size, 2, none⟩ = some (Value.slice (some ⟨b2, o2, none⟩) n2 c2) ∧ wr.drew.cell? ⟨b1, o1 + j, none⟩ = some (Value.int .i64 e1) ∧ wr.drew.cell? ⟨b2, o2 + k, none⟩ = some (Value.int .i64 e2) ∧ wr.drew.cell? ⟨b3, o3 + j, none⟩ = some (Value.int .i64 e3) ∧ wr.drew.cell? ⟨b3, o3 + k, none⟩ = some (Value.int .i64 e4) ∧ wr.drew.cell? ⟨w1.heap.size + 1, 0, none⟩ = some (Value.int .i64 sn) ∧ wr.drew.cell? ⟨w1.heap.size + 1, 1, none⟩ = some (Value.int .i64 sd) := ⟨q0, q1', d1, d2, d3, d4, p0, p1⟩
                go_region_held3 (fun w' => w'.cell? ⟨w.heap.size, 1, none⟩ = some (Value.slice (some ⟨b1, o1, none⟩) n1 c1) ∧ w'.cell? ⟨w.heap.size, 2, none⟩ = some (Value.slice (some ⟨b2, o2, none⟩) n2 c2) ∧ w'.cell? ⟨b1, o1 + j, none⟩ = some (Value.int .i64 e1) ∧ w'.cell? ⟨b2, o2 + k, none⟩ = some (Value.int .i64 e2) ∧ w'.cell? ⟨b3, o3 + j, none⟩ = some (Value.int .i64 e3) ∧ w'.cell? ⟨b3, o3 + k, none⟩ = some (Value.int .i64 e4) ∧ w'.cell? ⟨w1.heap.size + 1, 0, none⟩ = some (Value.int .i64 sn) ∧ w'.cell? ⟨w1.heap.size + 1, 1, none⟩ = some (Value.int .i64 sd)) (first | (with_reducible assumption) | (with_reducible exact q9) | (refine ⟨?_, ?_, ?_, ?_, ?_, ?_, ?_, ?_⟩ <;> (repeat (first | (with_reducible assumption) | (with_reducible refine keepD ?_) | (with_reducible refine keepA ?_) | (with_reducible refine keep1S ?_ (by first | (with_reducible exact ne1) | (with_reducible exact ne2) | (with_reducible exact ne3) | (with_reducible exact ne4) | (with_reducible exact ne5) | (with_reducible exact nf1) | (with_reducible exact nf2) | (with_reducible exact nf3) | (with_reducible exact nf4) | (with_reducible exact nf5))))) <;> first | (with_reducible assumption) | (with_reducible exact hS.1) | (with_reducible exact hS.2.1) | (with_reducible exact hS.2.2.1) | (with_reducible exact hS.2.2.2.1) | (with_reducible exact hS.2.2.2.2.1) | (with_reducible exact hS.2.2.2.2.2.1) | (with_reducible exact hS.2.2.2.2.2.2.1) | (with_reducible exact hS.2.2.2.2.2.2.2)))
                  ((go_at_call 66; (with_reducible refine (HMK.out _).mono ?_); rintro e wy ⟨rfl, hby⟩; have hzy := hby.size; (try simp at hzy); (have nf1 : wy.heap.size ≠ w.heap.size := by omega); (have nf2 : wy.heap.size ≠ b1 := by omega); (have nf3 : wy.heap.size ≠ b2 := by omega); (have nf4 : wy.heap.size ≠ b3 := by omega); (have nf5 : wy.heap.size ≠ w1.heap.size + 1 := by omega); have hS : wy.cell? ⟨w.heap.size, 1, none⟩ = some (Value.slice (some ⟨b1, o1, none⟩) n1 c1) ∧ wy.cell? ⟨w.heap.size, 2, none⟩ = some (Value.slice (some ⟨b2, o2, none⟩) n2 c2) ∧ wy.cell? ⟨b1, o1 + j, none⟩ = some (Value.int .i64 e1) ∧ wy.cell? ⟨b2, o2 + k, none⟩ = some (Value.int .i64 e2) ∧ wy.cell? ⟨b3, o3 + j, none⟩ = some (Value.int .i64 e3) ∧ wy.cell? ⟨b3, o3 + k, none⟩ = some (Value.int .i64 e4) ∧ wy.cell? ⟨w1.heap.size + 1, 0, none⟩ = some (Value.int .i64 sn) ∧ wy.cell? ⟨w1.heap.size + 1, 1, none⟩ = some (Value.int .i64 sd) := by { (refine ⟨?_, ?_, ?_, ?_, ?_, ?_, ?_, ?_⟩ <;> refine keep1 hby ?_ <;> first | (with_reducible assumption) | exact q0 | exact q1' | exact d1 | exact d2 | exact d3 | exact d4 | exact p0 | exact p1 | exact keepA q0 | exact keepA q1' | exact keepA d1 | exact keepA d2 | exact keepA d3 | exact keepA d4 | exact keepA p0 | exact keepA p1) }; have hBy : Below w.heap.size w wy := below_callB (by repeat (first | exact Below.refl _ _ | assumption | refine Below.drew ?_ | refine below_drewN ?_ _ | refine Below.alloc ?_ (by first | omega | (simp; done) | (simp; omega)) _ | refine Below.setCell ?_ (by first | omega | (simp; done) | (simp; omega)) _)) (by first | omega | (simp; done) | (simp; omega)) hby; have A10 := (by first | exact blk_call (blkD HA10.out) hby | exact blk_call (blkD (blk_alloc HA10.out)) hby : FrAt wy wx.heap.size s.1 s.2); have A6 := (by first | exact blk_call (blkD HA6.out) hby | exact blk_call (blkD (blk_alloc HA6.out)) hby : FrAt wy (w1.heap.size + 1) sn sd); have AF := (by first | exact blk_call (blkD HAF.out) hby | exact blk_call (blkD (blk_alloc HAF.out)) hby : AtB w.heap.size a0 (some ⟨b1, o1, none⟩) (some ⟨b2, o2, none⟩) n0 c0 n1 c1 n2 c2 wy); have AR := (by first | exact HAR.out.below (below_drew1 hby) | exact (HAR.out.below (below_alloc1 hby)) : IsRow .i64 wy (some ⟨b3, o3, none⟩) n1 cm (moms ls n1)); (try (have hN : FrAt wy wr.heap.size 0 0 := blk_call (blkD (blk_new wr _)) hby; obtain ⟨u0, u1, uf⟩ := hN.cells))))
                all_goals
                  go_wp2_with fail
                  go_meet
                · exact ⟨_, rfl, blk_new _ _, blk_alloc A10, blk_alloc A6, blk_alloc AF, AR.below (by repeat (first | exact Below.refl _ _ | assumption | refine Below.drew ?_ | refine below_drewN ?_ _ | refine Below.alloc ?_ (by first | omega | (simp; done) | (simp; omega)) _ | refine Below.setCell ?_ (by first | omega | (simp; done) | (simp; omega)) _)), hBy.alloc hBy.size _, by omega⟩
                · exact ⟨_, rfl, blk_set (blk_set hN 0 _) 1 _, two_far A10 (by omega), two_far A6 (by omega), two_far AF (by omega), row_two AR (by omega), two_below hBy (by omega), by omega⟩
              case rest =>
                obtain ⟨g14, rfl, hA14, hA10, hA6', hF, hR, hB', hlt14⟩ := hcut
                clear i1 i2 i3 i4 i5 i6 i7 ne1 ne2 ne3 ne4 ne5 d1 d2 d3 d4 q0 q1' p0 p1 pf m1 m2 HA10 HA6 HAF HAR
                obtain ⟨u0, u1, uf⟩ := hA14.cells
                obtain ⟨t0', t1', tf⟩ := hA10.cells
                have hz14 := blk_lt hA14
                obtain ⟨M1, M2⟩ := prod_bd (x := ON) (y := s.2) (A := 20000000000) (B := 38000000) (by omega) (by omega) (by omega) (by omega) (by omega)
                obtain ⟨M3, M4⟩ := prod_bd (x := s.1) (y := OD) (A := 20000000000) (B := 38000000) (by omega) (by omega) (by omega) (by omega) (by omega)
                have HST := Lib.hid (show slS s (ON, OD) = if s.2 = 0 ∨ s.1 * OD < ON * s.2 then (ON, OD) else s from rfl)
                have hgb := hB.size
                have hy : (s.2 = 0 ∨ (s.2 ≠ 0 ∧ s.1 * OD < ON * s.2)) ∨ (s.2 ≠ 0 ∧ ¬ s.1 * OD < ON * s.2) := by omega
                rcases hy with (hy | hy) | hy
                · obtain rfl : bb = false := HBB.out.trans (decide_eq_false (fun h => h hy))
                  rw [if_pos (Or.inl hy)] at HST
                  clear hy HBB
                  go_wp2
                  go_roundw
                  case rel => exact ⟨k + 1, _, by omega, by go_num, rfl, by rw [HNX.out, HST.out]; exact (decide_eq_true (by simp only; omega)).symm, by rw [HNX.out, HST.out]; exact blk_set (blk_set hA10 0 _) 1 _, two_far hA6' (by omega), two_far hF (by omega), row_two hR (by omega), two_below hB' (by omega)⟩
                  case measure => first | (simp [intOf]; done) | (simp [intOf]; omega)
                · obtain rfl : bb = true := HBB.out.trans (decide_eq_true hy.1)
                  have y3 : decide (s.1 * OD < ON * s.2) = true := decide_eq_true hy.2
                  rw [if_pos (Or.inr hy.2)] at HST
                  clear hy HBB
                  go_wp2
                  go_roundw
                  case rel => exact ⟨k + 1, _, by omega, by go_num, rfl, by rw [HNX.out, HST.out]; exact (decide_eq_true (by simp only; omega)).symm, by rw [HNX.out, HST.out]; exact blk_set (blk_set hA10 0 _) 1 _, two_far hA6' (by omega), two_far hF (by omega), row_two hR (by omega), two_below hB' (by omega)⟩
                  case measure => first | (simp [intOf]; done) | (simp [intOf]; omega)
                · obtain rfl : bb = true := HBB.out.trans (decide_eq_true hy.1)
                  have y3 : decide (s.1 * OD < ON * s.2) = false := decide_eq_false hy.2
                  rw [if_neg (by omega)] at HST
                  clear hy
                  go_wp2
                  go_roundw
                  case rel => exact ⟨k + 1, _, by omega, by go_num, rfl, by rw [HNX.out, HST.out]; exact HBB.out, by rw [HNX.out, HST.out]; exact hA10, hA6', hF, hR, hB'⟩
                  case measure => first | (simp [intOf]; done) | (simp [intOf]; omega)
            · obtain rfl : j = k := by omega
              have HBB := Lib.hid hbb
              clear hbb
              go_wp2
              go_roundw
              case rel => exact ⟨j + 1, _, by omega, by go_num, rfl, by rw [HSA.out]; exact HBB.out, by rw [HSA.out]; exact hA10, hA6', hF, hR, hB⟩
              case measure => first | (simp [intOf]; done) | (simp [intOf]; omega)
        · obtain rfl : n1 = j := by omega
          have hlt' : ¬ (n1 : Int) < (n1 : Int) := by omega
          have HS1 : Hid (slA (slO ls lo hi sn sd) n1 = ltS ls lo hi) := Lib.hid (by rw [HSL.out, HL1.out])
          rw [HS1.out] at hA10
          clear HSL HS1 HSB hbb HN2 HA10 HA3 HF3 HR3 HB3
          obtain ⟨l1, l2, l3, l4, l5, l6⟩ := HLT.out
          obtain ⟨f1, f2, f3, f4⟩ := HTF.out
          rw [← HLM.out] at f1 f2 f3 f4
          clear HLT HTF
          have HLN := HL1.out
          rw [HLN]
          have HNB := Lib.hid (fun k (hk : k < n1) => neV_bd HSC.out HV.out (k := k) (by rw [HL1.out]; exact hk))
          have HLEB := Lib.hid (fun k (hk : k ≤ n1) => leV_bd HSC.out HV.out k (by rw [HL1.out]; exact hk))
          have HPB := Lib.hid (fun k (hk : k < n1) => scB_parts HSC.out HV.out (k := k) (by rw [HL1.out]; exact hk))
          have HOB := Lib.hid (fun k (hk : k < n1) => (HL1.out ▸ ouV_bd HSC.out HV.out (k := k) (by rw [HL1.out]; exact hk) : -2600000000000000000 ≤ ouV ls lo (ltM ls lo hi) (ltA ls lo hi) (ltB ls lo hi) n1 k ∧ ouV ls lo (ltM ls lo hi) (ltA ls lo hi) (ltB ls lo hi) n1 k ≤ 2600000000000000000))
          have HCB := Lib.hid (fun k => coV_bd HSC.out ls lo n1 k)
          have HAB := Lib.hid HSC.out
          clear HSC HLN
          generalize (ltS ls lo hi).1 = cN at *
          generalize (ltS ls lo hi).2 = cD at *
          generalize ltM ls lo hi = M at *
          generalize ltA ls lo hi = A at *
          generalize ltB ls lo hi = B at *
          have hg1 := gcd_ge sd cD (by omega)
          obtain ⟨G, hG⟩ : ∃ G : Int, (Int.gcd sd cD : Int) = G := ⟨_, rfl⟩
          have HGC := Lib.hid (fun W => gcd_any sd cD W (by omega) (by omega) (by omega) (by omega))
          have HDE : Hid (sd.tdiv G * cD = M) := Lib.hid (by rw [HLM.out, ← hG]; rfl)
          rw [hG] at HGC hg1
          clear HLM hG
          obtain ⟨t1, t2⟩ := tdiv_bd (z := sd) (C := G) (M := 3800000) (by omega) (by omega) (by omega)
          have i1 := IntWalk.i64_in (sd.tdiv G) (by omega)
          have i2 := IntWalk.i64_in (sd.tdiv G * cD) (by rw [HDE.out]; omega)
          have hgne : G ≠ 0 := by omega
          have hgne' : (G == 0) = false := by simpa using hgne
          obtain ⟨p0, p1, pf⟩ := hA6'.cells
          obtain ⟨r0, r1, rf⟩ := hA10.cells
          obtain ⟨wo, rfl⟩ : ∃ wo : World, wo = wr := ⟨_, rfl⟩
          have HA10 := Lib.hid hA10
          have HA6 := Lib.hid hA6'
          have HAF := Lib.hid hF
          have HAR := Lib.hid hR
          have HB := Lib.hid hB
          have hBs := hB.size
          clear hA10 hA6' hF hR hB
          go_wp2_with fail
          have q9 : wo.drew.cell? ⟨w1.heap.size + 1, 1, none⟩ = some (Value.int .i64 sd) ∧ wo.drew.cell? ⟨wx.heap.size, 1, none⟩ = some (Value.int .i64 cD) := ⟨p1, r1⟩
          go_region_held3 (fun w' => w'.cell? ⟨w1.heap.size + 1, 1, none⟩ = some (Value.int .i64 sd) ∧ w'.cell? ⟨wx.heap.size, 1, none⟩ = some (Value.int .i64 cD)) (first | (with_reducible assumption) | (with_reducible exact q9))
            ((go_at_call 69; (with_reducible refine (HGC.out _).mono ?_); rintro e wy ⟨rfl, hby⟩; have hzy := hby.size; (try simp at hzy); have hS : wy.cell? ⟨w1.heap.size + 1, 1, none⟩ = some (Value.int .i64 sd) ∧ wy.cell? ⟨wx.heap.size, 1, none⟩ = some (Value.int .i64 cD) := ⟨keep1 hby q9.1, keep1 hby q9.2⟩; have hBy : Below w.heap.size w wy := below_callB (by repeat (first | exact Below.refl _ _ | assumption | refine Below.drew ?_ | refine below_drewN ?_ _ | refine Below.alloc ?_ (by first | omega | (simp; done) | (simp; omega)) _ | refine Below.setCell ?_ (by first | omega | (simp; done) | (simp; omega)) _)) (by first | omega | (simp; done) | (simp; omega)) hby; have A10 : FrAt wy wx.heap.size cN cD := blk_call (blkD HA10.out) hby; have A6 : FrAt wy (w1.heap.size + 1) sn sd := blk_call (blkD HA6.out) hby; have AF : AtB w.heap.size a0 a1 a2 n0 c0 n1 c1 n2 c2 wy := blk_call (blkD HAF.out) hby; have AR : IsRow .i64 wy (some ⟨b3, o3, none⟩) n1 cm (moms ls n1) := HAR.out.below (below_drew1 hby)))
          all_goals
            clear i1 i2 q9 hS p0 p1 pf r0 r1 rf HA10 HA6 HAF HAR HB t1 t2
            (try rw [HDE.out])
            obtain ⟨hd1, hd2, ha1, ha2, hbb1, hbb2⟩ := HAB.out
            obtain ⟨i0, hi, hi0, hi1, hi2⟩ := info_parts info_i64
            have hBys := hBy.size
            have HY := Lib.hid hBy
            have HA10 := Lib.hid A10
            have HA6 := Lib.hid A6
            have HAF := Lib.hid AF
            have HAR := Lib.hid AR
            have HFN := Lib.hid (show liV ls lo M A B n1 = (ouL ls lo M A B n1 n1).map (fun z => z.tdiv (coV ls lo M A B n1 n1)) by unfold liV ouL; rw [List.map_map]; rfl)
            have HFD := Lib.hid (show ldV ls lo M A B n1 = M.tdiv (coV ls lo M A B n1 n1) from rfl)
            clear hBy A10 A6 AF AR HMO HS HML hby
            go_wp2_with fail
            go_loopw [16, 17, 112] (fun os bs i wr => ∃ (k : Nat) (vo : Value), k ≤ n1 ∧ vo = os ∧ i = .int .i64 (k : Int) ∧ bs = .int .i64 (leV ls lo M A B k) ∧ OwnI wr wy.heap.size vo (owL ls A B k) ∧ Below wy.heap.size wy wr) (fun _ _ i _ => (n1 - intOf i).toNat)
            case atStart => exact ⟨0, _, by omega, rfl, rfl, rfl, ownI_empty _ _ (Nat.le_refl _), (by repeat (first | exact Below.refl _ _ | assumption | refine Below.drew ?_ | refine below_drewN ?_ _ | refine Below.alloc ?_ (by first | omega | (simp; done) | (simp; omega)) _ | refine Below.setCell ?_ (by first | omega | (simp; done) | (simp; omega)) _))⟩
            case round =>
              obtain ⟨k, vo, hk, rfl, rfl, rfl, hO, hB⟩ := hrel
              by_cases hlt : k < n1
              · have hlt' : (k : Int) < (n1 : Int) := by omega
                have hk0 : (0 : Int) ≤ (k : Int) := by omega
                obtain ⟨b1', b2'⟩ := HNB.out k hlt
                obtain ⟨b3', b4'⟩ := HLEB.out k hk
                obtain ⟨⟨c1', c2'⟩, ⟨c3', c4'⟩, ⟨c5', c6'⟩, ⟨c7', c8'⟩⟩ := HPB.out k hlt
                have HNX := Lib.hid (leV_next ls lo M A B k)
                have HNE := Lib.hid (show neV ls lo M A B k = lo.getD k 0 * M - (A * (k : Int) - B * momAt ls k) from rfl)
                have HON := Lib.hid (owL_next ls A B k)
                have HOW := Lib.hid (show owV ls A B k = A * (k : Int) - B * momAt ls k from rfl)
                have HLn := Lib.hid (owL_len ls A B k)
                obtain ⟨b1, o1, rfl, r1⟩ := H.out.2.1.addr (by omega)
                have d1 := keep1 hB (keep1 HY.out (H.out.2.1.same (i := k) hlt))
                have d3 := keep1 hB ((moms_get ls n1 k hlt) ▸ HAR.out.same (i := k) hlt)
                have q0 := keep1 hB HAF.out.cells.2.1
                obtain ⟨p0', p1', pf⟩ := HA6.out.cells
                obtain ⟨r0', r1', rf⟩ := HA10.out.cells
                have p0 := keep1 hB p0'
                have p1 := keep1 hB p1'
                have r0 := keep1 hB r0'
                have r1 := keep1 hB r1'
                clear p0' p1' pf r0' r1' rf
                rw [HOW.out] at HON
                rw [HNE.out] at b1' b2' HNX
                generalize lo.getD k 0 = x at *
                generalize momAt ls k = m at *
                generalize leV ls lo M A B k = L at *
                generalize owL ls A B k = P at *
                have hcd : cD ≠ 0 := by omega
                have hcd' : (cD == 0) = false := by simpa using hcd
                have hsd : sd ≠ 0 := by omega
                have hsd' : (sd == 0) = false := by simpa using hsd
                have i1 := IntWalk.i64_in (cN * M.tdiv cD) (by rw [← HLA.out]; omega)
                have i2 := IntWalk.i64_in (cN * M.tdiv cD * (k : Int)) (by rw [← HLA.out]; omega)
                have i3 := IntWalk.i64_in (sn * M.tdiv sd) (by rw [← HLB.out]; omega)
                have i4 := IntWalk.i64_in (sn * M.tdiv sd * m) (by rw [← HLB.out]; omega)
                have i5 := IntWalk.i64_in (cN * M.tdiv cD * (k : Int) - sn * M.tdiv sd * m) (by rw [← HLA.out, ← HLB.out]; omega)
                have i6 := IntWalk.i64_in (M.tdiv cD) (by omega)
                have i7 := IntWalk.i64_in (M.tdiv sd) (by omega)
                have i8 := IntWalk.i64_in (x * M) (by omega)
                have i9 := IntWalk.i64_in (x * M - (cN * M.tdiv cD * (k : Int) - sn * M.tdiv sd * m)) (by rw [← HLA.out, ← HLB.out]; omega)
                have HO := Lib.hid hO
                have HB := Lib.hid hB
                clear hO hB
                go_wp2_with fail
                go_quiet (fail)
                rw [← HLA.out, ← HLB.out] at i9 ⊢
                have HO4 := Lib.hid (HO.out.below (below_drewN (Below.refl wr.heap.size wr) nq))
                have HB4 := Lib.hid (below_drewN HB.out nq)
                have q0' : (wr.drewN nq).cell? ⟨w.heap.size, 1, none⟩ = some (Value.slice (some ⟨b1, o1, none⟩) n1 c1) := q0
                have d1' : (wr.drewN nq).cell? ⟨b1, o1 + k, none⟩ = some (Value.int .i64 x) := d1
                have hz4 : wy.heap.size ≤ (wr.drewN nq).heap.size := HB4.out.size
                clear i1 i2 i3 i4 i5 i6 i7 HO HB q0 d1 d3 p0 p1 r0 r1
                generalize wr.drewN nq = W4 at *
                generalize A * (k : Int) - B * m = own at *
                have hy : ((k : Int) = 0 ∨ ((k : Int) ≠ 0 ∧ L < x * M - own)) ∨ ((k : Int) ≠ 0 ∧ ¬ L < x * M - own) := by omega
                have hOl := HO4.out
                unfold OwnI at hOl
                rw [HLn.out] at hOl
                have HFIN := Lib.hid (fun (v' : Value) (w1' : World) (L' : Int) (hL' : leV ls lo M A B (k + 1) = L') (hown1 : w1'.ownsRow wy.heap.size 2 1 v' (k + 1) (P.map (Value.int .i64) ++ [.int .i64 own])) (hgrow1 : (W4.alloc (.cells #[.int .i64 own] 2)).grownBy w1' vo.ownBlock) =>
                  (⟨k + 1, v', by omega, rfl, by go_num, by rw [hL'], by rw [HON.out]; exact OwnI.snoc hown1 (by rw [HLn.out]), below_mark (HB4.out.alloc hz4 _) (Nat.le_refl _) (HO4.out.alloc _) hgrow1⟩ : ∃ (k' : Nat) (vo' : Value), k' ≤ n1 ∧ vo' = v' ∧ Value.int .i64 ((k : Int) + 1) = .int .i64 (k' : Int) ∧ Value.int .i64 L' = .int .i64 (leV ls lo M A B k') ∧ OwnI w1' wy.heap.size vo' (owL ls A B k') ∧ Below wy.heap.size wy w1'))
                rcases hy with (hy | hy) | hy
                · have HN2 := Lib.hid (HNX.out.trans (if_pos (.inl (by omega))))
                  have y2 : ((k : Int) == 0) = true := by simpa using hy
                  have y1 : decide ((k : Int) = 0) = true := decide_eq_true hy
                  clear hy
                  go_wp2_with (at_builtin; refine wpList_append_new _ rfl _ _ 24 rfl _ 2 i0 (.int .i64 0) 1 8 Try.underlying24 hi hi0 hi1 hi2 rfl (by decide) _ _ _ rfl (hOl.alloc _) ⟨W4.heap.size, 0, none⟩ 1 1 [.int .i64 own] rfl rfl (cell_one_new _ _ _) (by simp [Value.oneCell']) (by unfold maxLen; omega) (by omega) (by first | omega | (simp; done) | (simp; omega)) (by decide) ?_; intro v' w1' hown1 hgrow1 hnew1)
                  go_wp2
                  go_roundw
                  case rel => exact HFIN.out _ _ _ HN2.out hown1 hgrow1
                  case measure => first | (simp [intOf]; done) | (simp [intOf]; omega)
                · have HN2 := Lib.hid (HNX.out.trans (if_pos (.inr hy.2)))
                  have y1 : decide ((k : Int) = 0) = false := decide_eq_false hy.1
                  have y2 : ((k : Int) == 0) = false := by simpa using hy.1
                  have y3 : decide (L < x * M - own) = true := decide_eq_true hy.2
                  clear hy
                  go_wp2_with (at_builtin; refine wpList_append_new _ rfl _ _ 24 rfl _ 2 i0 (.int .i64 0) 1 8 Try.underlying24 hi hi0 hi1 hi2 rfl (by decide) _ _ _ rfl (hOl.alloc _) ⟨W4.heap.size, 0, none⟩ 1 1 [.int .i64 own] rfl rfl (cell_one_new _ _ _) (by simp [Value.oneCell']) (by unfold maxLen; omega) (by omega) (by first | omega | (simp; done) | (simp; omega)) (by decide) ?_; intro v' w1' hown1 hgrow1 hnew1)
                  go_wp2
                  go_roundw
                  case rel => exact HFIN.out _ _ _ HN2.out hown1 hgrow1
                  case measure => first | (simp [intOf]; done) | (simp [intOf]; omega)
                · have HN2 := Lib.hid (HNX.out.trans (if_neg (by omega)))
                  have y1 : decide ((k : Int) = 0) = false := decide_eq_false hy.1
                  have y2 : ((k : Int) == 0) = false := by simpa using hy.1
                  have y3 : decide (L < x * M - own) = false := decide_eq_false hy.2
                  clear hy
                  go_wp2_with (at_builtin; refine wpList_append_new _ rfl _ _ 24 rfl _ 2 i0 (.int .i64 0) 1 8 Try.underlying24 hi hi0 hi1 hi2 rfl (by decide) _ _ _ rfl (hOl.alloc _) ⟨W4.heap.size, 0, none⟩ 1 1 [.int .i64 own] rfl rfl (cell_one_new _ _ _) (by simp [Value.oneCell']) (by unfold maxLen; omega) (by omega) (by first | omega | (simp; done) | (simp; omega)) (by decide) ?_; intro v' w1' hown1 hgrow1 hnew1)
                  go_wp2
                  go_roundw
                  case rel => exact HFIN.out _ _ _ HN2.out hown1 hgrow1
                  case measure => first | (simp [intOf]; done) | (simp [intOf]; omega)
              · obtain rfl : n1 = k := by omega
                obtain ⟨ax, cx, rfl⟩ := hO.shape
                have HPL := Lib.hid (owL_len ls A B n1)
                have HPG := Lib.hid (fun k (hk : k < n1) => owL_get ls A B n1 k hk)
                have HUP := Lib.hid (owL_up ls lo M A B n1)
                have HOV := Lib.hid (fun k => show ouV ls lo M A B n1 k = owV ls A B k + leV ls lo M A B n1 from rfl)
                have HCN := Lib.hid (coV_next ls lo M A B n1)
                obtain ⟨L1, L2⟩ := HLEB.out n1 hk
                have hO' := hO
                rw [HPL.out] at hO' ⊢
                have HO := Lib.hid (show OwnI wr wy.heap.size (.slice ax n1 cx) (mpL (fun z => z + leV ls lo M A B n1) (owL ls A B n1) 0) by rw [mpL_zero]; exact hO')
                have HB := Lib.hid hB
                clear hO hO' hB HNB HLEB HPB HA10 HA6 HAF HAR
                generalize leV ls lo M A B n1 = L at *
                generalize owL ls A B n1 = P at *
                obtain ⟨W5, rfl⟩ : ∃ W5 : World, W5 = wr := ⟨_, rfl⟩
                go_wp2_with fail
                go_loopw [21, 162] (fun ds i wr => ∃ k : Nat, k ≤ n1 ∧ i = .int .i64 (k : Int) ∧ ds = .int .i64 (coV ls lo M A B n1 k) ∧ OwnI wr wy.heap.size (.slice ax n1 cx) (mpL (fun z => z + L) P k) ∧ Below wy.heap.size wy wr) (fun _ i _ => (n1 - intOf i).toNat)
                case atStart => exact ⟨0, by omega, rfl, rfl, HO.out, HB.out⟩
                case round =>
                  obtain ⟨k, hk, rfl, rfl, hO, hB⟩ := hrel
                  by_cases hlt : k < n1
                  · have hlt' : (k : Int) < (n1 : Int) := by omega
                    have hk0 : (0 : Int) ≤ (k : Int) := by omega
                    have HDG := Lib.hid (mpL_get (fun z => z + L) P k (by rw [HPL.out]; exact hlt))
                    have HDS : Hid ((mpL (fun z => z + L) P k).set k (P.getD k 0 + L) = mpL (fun z => z + L) P (k + 1)) := Lib.hid (mpL_set (fun z => z + L) P k (by rw [HPL.out]; exact hlt))
                    have HDN := Lib.hid ((mpL_len (fun z => z + L) P k (by rw [HPL.out]; omega)).trans HPL.out)
                    have HDM := Lib.hid ((mpL_len (fun z => z + L) P (k + 1) (by rw [HPL.out]; omega)).trans HPL.out)
                    obtain ⟨o1', o2'⟩ := HOB.out k hlt
                    obtain ⟨g1', g2'⟩ := HCB.out k
                    have HNC := Lib.hid (HCN.out k)
                    rw [HOV.out, ← HPG.out k hlt] at HNC o1' o2'
                    generalize P.getD k 0 = z at *
                    generalize coV ls lo M A B n1 k = C at *
                    have HGC := Lib.hid (fun W => gcd_any C (z + L) W (by omega) (by omega) (by omega) (by omega))
                    rw [← HNC.out] at HGC
                    generalize mpL (fun z => z + L) P k = D0 at *
                    rcases hO.2 with ⟨_, hz0⟩ | ⟨gx, cap, cur, hv, hbx, hh, _⟩
                    · have := HDN.out; omega
                    · injection hv with h1 h2 h3
                      subst h1 h3
                      have HO2 := Lib.hid hO
                      have HB2 := Lib.hid hB
                      unfold OwnI at hO
                      rw [HDN.out] at hO
                      have hc := hO.cellAt k (by omega)
                      have hf := hO.frozenAt k
                      have hS := hO.stored k (.int .i64 (z + L))
                      have hS1 := hS.1
                      rw [← List.map_set, HDS.out] at hS1
                      have HON2 := Lib.hid (ownI_of HDM.out hS1)
                      have HBN2 := Lib.hid (below_mark HB2.out (Nat.le_refl _) HO2.out hS.2)
                      rw [List.getElem?_map, HDG.out] at hc
                      simp only [Option.map_some] at hc
                      have hzz := HBN2.out.size
                      clear hO hB hh h2 hS hS1 HO2 HB2
                      have i1 := IntWalk.i64_in (z + L) (by omega)
                      go_wp2_with fail
                      refine (HGC.out _).mono ?_
                      rintro e w6 ⟨rfl, hb6⟩
                      go_wp2
                      go_roundw
                      case rel => exact ⟨k + 1, by omega, by go_num, rfl, HON2.out.below hb6, below_callB HBN2.out hzz hb6⟩
                      case measure => first | (simp [intOf]; done) | (simp [intOf]; omega)
                  · obtain rfl : n1 = k := by omega
                    obtain ⟨g1', g2'⟩ := HCB.out n1
                    rw [HUP.out] at hO
                    have HQL := Lib.hid (ouL_len ls lo M A B n1 n1)
                    have HQG := Lib.hid (fun k hk => (ouL_get ls lo M A B n1 n1 k hk).symm ▸ HOB.out k hk)
                    clear HOV HCN HPG HUP HPL HO HB HOB HCB
                    generalize ouL ls lo M A B n1 n1 = Q at *
                    generalize coV ls lo M A B n1 n1 = C at *
                    have hcne : C ≠ 0 := by omega
                    have hcne' : (C == 0) = false := by simpa using hcne
                    have HO := Lib.hid (show OwnI wr wy.heap.size (.slice ax n1 cx) (diL Q C 0) by rw [diL_zero]; exact hO)
                    have HB := Lib.hid hB
                    clear hO hB
                    obtain ⟨W6, rfl⟩ : ∃ W6 : World, W6 = wr := ⟨_, rfl⟩
                    go_wp2_with fail
                    go_loopw [181] (fun i wr => ∃ k : Nat, k ≤ n1 ∧ i = .int .i64 (k : Int) ∧ OwnI wr wy.heap.size (.slice ax n1 cx) (diL Q C k) ∧ Below wy.heap.size wy wr) (fun i _ => (n1 - intOf i).toNat)
                    case atStart => exact ⟨0, by omega, rfl, HO.out, HB.out⟩
                    case round =>
                      obtain ⟨k, hk, rfl, hO, hB⟩ := hrel
                      by_cases hlt : k < n1
                      · have hlt' : (k : Int) < (n1 : Int) := by omega
                        have hk0 : (0 : Int) ≤ (k : Int) := by omega
                        have HDG := Lib.hid (diL_get Q C k (by rw [HQL.out]; exact hlt))
                        have HDS := Lib.hid (diL_set Q C k (by rw [HQL.out]; exact hlt))
                        have HDN := Lib.hid ((diL_len Q C k (by rw [HQL.out]; omega)).trans HQL.out)
                        have HDM := Lib.hid ((diL_len Q C (k + 1) (by rw [HQL.out]; omega)).trans HQL.out)
                        obtain ⟨zb1, zb2⟩ := HQG.out k hlt
                        generalize Q.getD k 0 = z at *
                        obtain ⟨zb3, zb4⟩ := tdiv_bd zb1 zb2 g1'
                        generalize diL Q C k = D0 at *
                        rcases hO.2 with ⟨_, hz0⟩ | ⟨gx, cap, cur, hv, hbx, hh, _⟩
                        · have := HDN.out; omega
                        · injection hv with h1 h2 h3
                          subst h1 h3
                          have HO2 := Lib.hid hO
                          have HB2 := Lib.hid hB
                          unfold OwnI at hO
                          rw [HDN.out] at hO
                          have hc := hO.cellAt k (by omega)
                          have hf := hO.frozenAt k
                          have hS := hO.stored k (.int .i64 (z.tdiv C))
                          have hS1 := hS.1
                          rw [← List.map_set, HDS.out] at hS1
                          have HON2 := Lib.hid (ownI_of HDM.out hS1)
                          have HBN2 := Lib.hid (below_mark HB2.out (Nat.le_refl _) HO2.out hS.2)
                          rw [List.getElem?_map, HDG.out] at hc
                          simp only [Option.map_some] at hc
                          clear hO hB hh h2 hS hS1 HO2 HB2
                          go_wp2
                          go_roundw
                          case rel => exact ⟨k + 1, by omega, by go_num, HON2.out, HBN2.out⟩
                          case measure => first | (simp [intOf]; done) | (simp [intOf]; omega)
                      · obtain rfl : n1 = k := by omega
                        have HFin : Hid (OwnI wr wy.heap.size (.slice ax n1 cx) (liV ls lo M A B n1)) := Lib.hid (by
                          rw [HFN.out, ← diL_all, HQL.out]; exact hO)
                        have HBF := Lib.hid (below_callB HY.out hBys hB)
                        have hi1 := IntWalk.i64_in (M.tdiv C) (by have := tdiv_bd (z := M) (C := C) (M := 38000000) (by omega) (by omega) g1'; omega)
                        clear hO hB HO HB
                        go_wp2_with fail
                        go_quiet (fail)
                        go_wp2
                        go_ret3
                        rw [HL1.out, HFD.out]
                        exact newD_mk ((HFin.out.base hBys).below (below_drewN (Below.refl _ _) _)) (below_drewN HBF.out _)
  · obtain ⟨e1, e2, e3, e4, _, _⟩ := cv_no g
    obtain ⟨k1, k2⟩ := lot_no g
    rw [k1, k2]
    rw [e1, e2, e3, e4] at HS
    clear h e1 e2 e3 e4 g k1 k2
    generalize csC ls lo hi = c at *
    have hc1' : (c != 0) = true := by rcases hc with rfl | rfl <;> rfl
    clear hc
    go_enter Try.func22, Try.ntmps22
    go_wp2_with fail
    refine (HS.out _ (H.out.below (by repeat (first | exact Below.refl _ _ | assumption | refine Below.drew ?_ | refine below_drewN ?_ _ | refine Below.alloc ?_ (by first | omega | (simp; done) | (simp; omega)) _ | refine Below.setCell ?_ (by first | omega | (simp; done) | (simp; omega)) _)))).mono ?_
    rintro e w1 ⟨rfl, hb1⟩
    have ha1 : Below w.heap.size w w1 := below_call (by repeat (first | exact Below.refl _ _ | assumption | refine Below.drew ?_ | refine below_drewN ?_ _ | refine Below.alloc ?_ (by first | omega | (simp; done) | (simp; omega)) _ | refine Below.setCell ?_ (by first | omega | (simp; done) | (simp; omega)) _)) hb1
    have hz1 := hb1.size
    simp at hz1
    go_wp2
    go_ret3
    exact newD_mk (ownI_nil _ _) (by repeat (first | exact Below.refl _ _ | assumption | refine Below.drew ?_ | refine below_drewN ?_ _ | refine Below.alloc ?_ (by first | omega | (simp; done) | (simp; omega)) _ | refine Below.setCell ?_ (by first | omega | (simp; done) | (simp; omega)) _))
end Go.Proofs.Ytklhaanapembdaa
