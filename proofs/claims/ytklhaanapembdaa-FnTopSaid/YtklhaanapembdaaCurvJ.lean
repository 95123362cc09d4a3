/- Contracts of the program's CurvatureBounds and LeastThrust; no old memory turns; condition: the slices can be read. -/
import Derived.Test.YtklhaanapembdaaCurvI
import Derived.Test.YtklhaanapembdaaM22

namespace Go.Proofs.Ytklhaanapembdaa
open Go.RowKit

set_option maxRecDepth 100000 in
set_option maxHeartbeats 4000000 in
theorem curvatureBounds_any (a0 a1 a2 : Option Addr) (n0 c0 n1 c1 n2 c2 : Nat) (ls lo hi : List Int) (w : World) (h : IsB a0 a1 a2 n0 c0 n1 c1 n2 c2 ls lo hi w) :
    Calls Try.prog 21 #[.agg #[.slice a0 n0 c0, .slice a1 n1 c1, .slice a2 n2 c2]] w fun e w' => e = .returned (.tuple #[.agg #[.int .i64 (cvLN ls lo hi), .int .i64 (cvLD ls lo hi)], .agg #[.int .i64 (cvHN ls lo hi), .int .i64 (cvHD ls lo hi)], .int .i64 (csC ls lo hi)]) ∧ Below w.heap.size w w' := by
  have H := Lib.hid h
  have HS := Lib.hid (fun W hW => standing_any a0 a1 a2 n0 c0 n1 c1 n2 c2 ls lo hi W hW)
  rcases csC_cases ls lo hi with ⟨g, hc⟩ | ⟨g, hc⟩
  · obtain ⟨e1, e2, e3, e4, _, _⟩ := cv_yes g
    obtain ⟨v1, v2⟩ := canV_t g
    have hgd := bfind_good v1
    have hh := bfind_hh v1
    have hst : stS ls lo hi = bfind ls lo hi := by simp [stS, g]
    rw [e1, e2, e3, e4, hc]
    rw [hst, hc] at HS
    clear h e1 e2 e3 e4 v1 hst hc g
    generalize bfind ls lo hi = S at *
    obtain ⟨n1', n2', n3'⟩ := stand_neg v2 hh
    obtain ⟨k0, k1, k2, k3, k4⟩ := hgd.2.1 hh
    have HHI := Lib.hid (fun W => lowest2_any S.high.a S.high.b W (by omega) (by omega) (by omega) (by omega) (by omega))
    have hsg : sgn S.high.a S.high.b = -S.high.a := if_pos k0
    have hab : (S.high.b.natAbs : Int) = -S.high.b := by omega
    rw [hsg, hab] at HHI
    have HN : Hid (sN S = lwN (-S.high.a) (-S.high.b)) := Lib.hid rfl
    have HD : Hid (sD S = lwD (-S.high.a) (-S.high.b)) := Lib.hid rfl
    rw [← HN.out, ← HD.out] at HHI
    have hln : loN S = if S.hl = true ∧ 0 < S.low.a then lwN S.low.a S.low.b else 0 := rfl
    have hld : loD S = if S.hl = true ∧ 0 < S.low.a then lwD S.low.a S.low.b else 1 := rfl
    have HLO := Lib.hid hln
    have HLD := Lib.hid hld
    have HG := Lib.hid hgd.1
    clear hsg hab HN HD n1' n2' n3' k0 k1 k2 k3 k4 hgd hh v2 hln hld
    generalize sN S = sn at *
    generalize sD S = sd at *
    generalize loN S = ln at *
    generalize loD S = ld at *
    go_enter Try.func21, Try.ntmps21
    go_wp2_with fail
    refine (HS.out _ (H.out.below (by repeat (first | exact Below.refl _ _ | assumption | refine Below.drew ?_ | refine below_drewN ?_ _ | refine Below.alloc ?_ (by first | omega | (simp; done) | (simp; omega)) _ | refine Below.setCell ?_ (by first | omega | (simp; done) | (simp; omega)) _)))).mono ?_
    rintro e w1 ⟨rfl, hb1⟩
    have hz1 := hb1.size
    simp at hz1
    have ha1 : Below w.heap.size w w1 := below_call (by repeat (first | exact Below.refl _ _ | assumption | refine Below.drew ?_ | refine below_drewN ?_ _ | refine Below.alloc ?_ (by first | omega | (simp; done) | (simp; omega)) _ | refine Below.setCell ?_ (by first | omega | (simp; done) | (simp; omega)) _)) hb1
    have hR1 : FrAt w1 (w.heap.size + 1) 0 0 := blk_call (blk_alloc (blk_new' _ _ (by simp))) hb1
    have hR2 : FrAt w1 (w.heap.size + 1 + 1) 0 0 := blk_call (blk_new' _ _ (by simp)) hb1
    have hAa : AtS w1.heap.size bnds0 (w1.alloc (.cells (bcells bnds0) 87)) := blk_new _ _
    have hba : Below w.heap.size w (w1.alloc (.cells (bcells bnds0) 87)) := ha1.alloc ha1.size _
    have hRa : FrAt (w1.alloc (.cells (bcells bnds0) 87)) (w.heap.size + 1) 0 0 := blk_alloc hR1
    have hRb : FrAt (w1.alloc (.cells (bcells bnds0) 87)) (w.heap.size + 1 + 1) 0 0 := blk_alloc hR2
    clear hR1 hR2
    have hg6' : w.heap.size + 1 + 1 < w1.heap.size := by omega
    go_upto_region 5 with (refine wpList_storeN (by rfl) _ _ (by rfl) w1.heap.size S bnds0 (by rfl) (by rfl) hAa ?_; intro w3 hA3 hb3 hf3 hs3; (have ha3 := hb3 _ _ hba (by omega)); (have hR3 : FrAt w3 (w.heap.size + 1) 0 0 := hf3 _ _ hRa (by omega)); (have hR4 : FrAt w3 (w.heap.size + 1 + 1) 0 0 := hf3 _ _ hRb (by omega)); (simp at hs3); (obtain ⟨s0, s1, s2, s3, s4, s5, s6, s7, s8, s9, s10, s11, s12, s13, s14, s15, s16, s17, s18, s19, s20⟩ := hA3.cells); (have hsz : w1.heap.size < w3.heap.size := by omega); (have hsn : ¬ w1.heap.size = w3.heap.size := by omega); clear hb3 hf3 hs3 hba hRa hRb hAa)
    have y : (S.hl = true ∧ 0 < S.low.a) ∨ (S.hl = true ∧ ¬ 0 < S.low.a) ∨ S.hl = false := by
      cases S.hl
      · exact .inr (.inr rfl)
      · by_cases h : 0 < S.low.a
        · exact .inl ⟨rfl, h⟩
        · exact .inr (.inl ⟨rfl, h⟩)
    have hz3 : w1.heap.size < w3.heap.size := hsz
    rcases y with ⟨hl, hla⟩ | ⟨hl, hla⟩ | hl
    case' inl =>
      have y1 : decide (0 < S.low.a) = true := decide_eq_true hla
      obtain ⟨q0, q1, q2, q3, q4⟩ := HG.out hl
      have HLW := Lib.hid (fun W => lowest_any S.low.a S.low.b W (by omega) (by omega) (by omega) (by omega))
      rw [if_pos ⟨hl, hla⟩] at HLO HLD
      rw [← HLO.out, ← HLD.out] at HLW
      rw [hl] at s18
      clear q0 q1 q2 q3 q4 hl
      go_wp2_with fail
      refine (HLW.out _).mono ?_
      rintro e w4 ⟨rfl, hb4⟩
      have hz4 := hb4.size
      simp at hz4
      have hA4 : AtS w1.heap.size S w4 := blk_call (blk_alloc hA3) hb4
      have hR5 : FrAt w4 (w.heap.size + 1) 0 0 := blk_call (blk_alloc hR3) hb4
      have hR6 : FrAt w4 (w.heap.size + 1 + 1) 0 0 := blk_call (blk_alloc hR4) hb4
      have hF4 : FrAt w4 w3.heap.size 0 1 := blk_call (blk_new _ _) hb4
      have ha4 : Below w.heap.size w w4 := below_call (ha3.alloc ha3.size _) hb4
      obtain ⟨p0, p1, pf⟩ := hF4.cells
      clear s0 s1 s2 s3 s4 s5 s6 s7 s8 s9 s10 s11 s12 s13 s14 s15 s16 s17 s18 s19 s20
      go_wp2_with fail
      have hz5 : w.heap.size + 1 + 1 < w1.heap.size := hg6'
      obtain ⟨W, hW⟩ : ∃ W, (w4.setCell ⟨w3.heap.size, 0, none⟩ (.int .i64 ln)).setCell ⟨w3.heap.size, 1, none⟩ (.int .i64 ld) = W := ⟨_, rfl⟩
      have hA : AtS w1.heap.size S W := by rw [← hW]; exact blk_far (blk_far hA4 (p := ⟨w3.heap.size, 0, none⟩) (show w1.heap.size ≠ w3.heap.size by omega) _) (p := ⟨w3.heap.size, 1, none⟩) (show w1.heap.size ≠ w3.heap.size by omega) _
      have hR1 : FrAt W (w.heap.size + 1) 0 0 := by rw [← hW]; exact blk_far (blk_far hR5 (p := ⟨w3.heap.size, 0, none⟩) (show w.heap.size + 1 ≠ w3.heap.size by omega) _) (p := ⟨w3.heap.size, 1, none⟩) (show w.heap.size + 1 ≠ w3.heap.size by omega) _
      have hR2 : FrAt W (w.heap.size + 1 + 1) 0 0 := by rw [← hW]; exact blk_far (blk_far hR6 (p := ⟨w3.heap.size, 0, none⟩) (show w.heap.size + 1 + 1 ≠ w3.heap.size by omega) _) (p := ⟨w3.heap.size, 1, none⟩) (show w.heap.size + 1 + 1 ≠ w3.heap.size by omega) _
      have hF : FrAt W w3.heap.size ln ld := by rw [← hW]; exact blk_set (blk_set hF4 0 _) 1 _
      have hB : Below w.heap.size w W := by rw [← hW]; exact (ha4.setCell (show w.heap.size ≤ w3.heap.size by omega) _).setCell (show w.heap.size ≤ w3.heap.size by omega) _
      rw [hW]
      clear hW hA4 hR5 hR6 hF4 ha4 p0 p1 pf hb4 hz4 HLW y1 hla
    case' inr.inl =>
      have y1 : decide (0 < S.low.a) = false := decide_eq_false hla
      rw [hl] at s18
      rw [if_neg (fun h => hla h.2)] at HLO HLD
      clear hl
      go_wp2_with fail
      have hz5 : w.heap.size + 1 + 1 < w1.heap.size := hg6'
      obtain ⟨W, hW⟩ : ∃ W, w3.alloc (.cells #[.int .i64 0, .int .i64 1] 31) = W := ⟨_, rfl⟩
      have hA : AtS w1.heap.size S W := by rw [← hW]; exact blk_alloc hA3
      have hR1 : FrAt W (w.heap.size + 1) 0 0 := by rw [← hW]; exact blk_alloc hR3
      have hR2 : FrAt W (w.heap.size + 1 + 1) 0 0 := by rw [← hW]; exact blk_alloc hR4
      have hF : FrAt W w3.heap.size ln ld := by rw [← hW, HLO.out, HLD.out]; exact blk_new _ _
      have hB : Below w.heap.size w W := by rw [← hW]; exact ha3.alloc ha3.size _
      rw [hW]
      clear hW s0 s1 s2 s3 s4 s5 s6 s7 s8 s9 s10 s11 s12 s13 s14 s15 s16 s17 s18 s19 s20 y1 hla
    case' inr.inr =>
      rw [hl] at s18
      rw [if_neg (fun h => by rw [hl] at h; cases h.1)] at HLO HLD
      clear hl
      go_wp2_with fail
      have hz5 : w.heap.size + 1 + 1 < w1.heap.size := hg6'
      obtain ⟨W, hW⟩ : ∃ W, w3.alloc (.cells #[.int .i64 0, .int .i64 1] 31) = W := ⟨_, rfl⟩
      have hA : AtS w1.heap.size S W := by rw [← hW]; exact blk_alloc hA3
      have hR1 : FrAt W (w.heap.size + 1) 0 0 := by rw [← hW]; exact blk_alloc hR3
      have hR2 : FrAt W (w.heap.size + 1 + 1) 0 0 := by rw [← hW]; exact blk_alloc hR4
      have hF : FrAt W w3.heap.size ln ld := by rw [← hW, HLO.out, HLD.out]; exact blk_new _ _
      have hB : Below w.heap.size w W := by rw [← hW]; exact ha3.alloc ha3.size _
      rw [hW]
      clear hW s0 s1 s2 s3 s4 s5 s6 s7 s8 s9 s10 s11 s12 s13 s14 s15 s16 s17 s18 s19 s20
    all_goals
      have hWz := hB.size
      clear hA3 hR3 hR4 ha3 hb1 ha1 HS H HLO HLD HG
      obtain ⟨s0, s1, s2, s3, s4, s5, s6, s7, s8, s9, s10, s11, s12, s13, s14, s15, s16, s17, s18, s19, s20⟩ := hA.cells
      obtain ⟨p0, p1, _⟩ := hF.cells
      obtain ⟨r1, r2, rf1⟩ := hR1.cells
      obtain ⟨r3, r4, rf2⟩ := hR2.cells
      have f1 := rf1 0
      have f2 := rf1 1
      have f3 := rf2 0
      have f4 := rf2 1
      clear s0 s1 s2 s3 s4 s5 s6 s7 s8 s9 s12 s13 s14 s15 s16 s17 s18 s19 s20 hA hF hR1 hR2 rf1 rf2
      have q1 : W.drew.cell? ⟨w1.heap.size, 10, none⟩ = some (.int .i64 S.high.a) ∧ W.drew.cell? ⟨w1.heap.size, 11, none⟩ = some (.int .i64 S.high.b) ∧ W.drew.cell? ⟨w3.heap.size, 0, none⟩ = some (.int .i64 ln) ∧ W.drew.cell? ⟨w3.heap.size, 1, none⟩ = some (.int .i64 ld) := ⟨s10, s11, p0, p1⟩
      go_region_held3 (fun w' => w'.cell? ⟨w1.heap.size, 10, none⟩ = some (.int .i64 S.high.a) ∧ w'.cell? ⟨w1.heap.size, 11, none⟩ = some (.int .i64 S.high.b) ∧ w'.cell? ⟨w3.heap.size, 0, none⟩ = some (.int .i64 ln) ∧ w'.cell? ⟨w3.heap.size, 1, none⟩ = some (.int .i64 ld)) (first | (with_reducible assumption) | exact q1 | (refine ⟨?_, ?_, ?_, ?_⟩ <;> (repeat (first | (with_reducible refine keepD ?_) | (with_reducible refine keep1S ?_ (by first | (simp; done) | (simp; omega))))) <;> first | (with_reducible exact hS.1) | (with_reducible exact hS.2.1) | (with_reducible exact hS.2.2.1) | (with_reducible exact hS.2.2.2)))
        (first | (go_at_call 66; (with_reducible refine (HHI.out _).mono ?_); rintro e wx ⟨rfl, hbx⟩; have hS := keep4 hbx (by first | (with_reducible assumption) | exact q1); replace f1 := keepf hbx r1 f1; replace f2 := keepf hbx r2 f2; replace f3 := keepf hbx r3 f3; replace f4 := keepf hbx r4 f4; replace r1 := keep1 hbx r1; replace r2 := keep1 hbx r2; replace r3 := keep1 hbx r3; replace r4 := keep1 hbx r4; have hBx : Below w.heap.size w wx := below_callB (by repeat (first | exact Below.refl _ _ | assumption | refine Below.drew ?_ | refine below_drewN ?_ _ | refine Below.alloc ?_ (by first | omega | (simp; done) | (simp; omega)) _ | refine Below.setCell ?_ (by first | omega | (simp; done) | (simp; omega)) _)) (by first | omega | (simp; done) | (simp; omega)) hbx))
      all_goals
        go_wp2
        refine bodyPost_ret (v := .tuple #[.agg #[.int .i64 ln, .int .i64 ld], .agg #[.int .i64 sn, .int .i64 sd], .int .i64 0]) (by simp [results, Try.results21, go_sem, *]) rfl ⟨rfl, (by repeat (first | exact Below.refl _ _ | assumption | refine Below.drew ?_ | refine below_drewN ?_ _ | refine Below.alloc ?_ (by first | omega | (simp; done) | (simp; omega)) _ | refine Below.setCell ?_ (by first | omega | (simp; done) | (simp; omega)) _))⟩
  · obtain ⟨e1, e2, e3, e4, _, _⟩ := cv_no g
    have hst : stS ls lo hi = bnds0 := by simp [stS, g]
    rw [e1, e2, e3, e4]
    rw [hst] at HS
    clear h e1 e2 e3 e4 hst g
    generalize csC ls lo hi = c at *
    have hc1 : (c != 0) = true := by rcases hc with rfl | rfl <;> rfl
    clear hc
    go_enter Try.func21, Try.ntmps21
    go_wp2_with fail
    refine (HS.out _ (H.out.below (by repeat (first | exact Below.refl _ _ | assumption | refine Below.drew ?_ | refine below_drewN ?_ _ | refine Below.alloc ?_ (by first | omega | (simp; done) | (simp; omega)) _ | refine Below.setCell ?_ (by first | omega | (simp; done) | (simp; omega)) _)))).mono ?_
    rintro e w1 ⟨rfl, hb1⟩
    have hz1 := hb1.size
    simp at hz1
    have ha1 : Below w.heap.size w w1 := below_call (by repeat (first | exact Below.refl _ _ | assumption | refine Below.drew ?_ | refine below_drewN ?_ _ | refine Below.alloc ?_ (by first | omega | (simp; done) | (simp; omega)) _ | refine Below.setCell ?_ (by first | omega | (simp; done) | (simp; omega)) _)) hb1
    have hR1 : FrAt w1 (w.heap.size + 1) 0 0 := blk_call (blk_alloc (blk_new' _ _ (by simp))) hb1
    have hR2 : FrAt w1 (w.heap.size + 1 + 1) 0 0 := blk_call (blk_new' _ _ (by simp)) hb1
    have hAa : AtS w1.heap.size bnds0 (w1.alloc (.cells (bcells bnds0) 87)) := blk_new _ _
    have hba : Below w.heap.size w (w1.alloc (.cells (bcells bnds0) 87)) := ha1.alloc ha1.size _
    have hRa : FrAt (w1.alloc (.cells (bcells bnds0) 87)) (w.heap.size + 1) 0 0 := blk_alloc hR1
    have hRb : FrAt (w1.alloc (.cells (bcells bnds0) 87)) (w.heap.size + 1 + 1) 0 0 := blk_alloc hR2
    clear hR1 hR2
    go_wp2_with (refine wpList_storeN (by rfl) _ _ (by rfl) w1.heap.size bnds0 bnds0 (by rfl) (by rfl) hAa ?_; intro w3 hA3 hb3 hf3 hs3; (have ha3 := hb3 _ _ hba (by omega)); (have hR3 : FrAt w3 (w.heap.size + 1) 0 0 := hf3 _ _ hRa (by omega)); (have hR4 : FrAt w3 (w.heap.size + 1 + 1) 0 0 := hf3 _ _ hRb (by omega)); (simp at hs3); (obtain ⟨r1, r2, rf1⟩ := hR3.cells); (obtain ⟨r3, r4, rf2⟩ := hR4.cells); clear hb3 hf3 hs3 hba hRa hRb hAa hb1 ha1 hA3)
    refine bodyPost_ret (v := .tuple #[.agg #[.int .i64 0, .int .i64 0], .agg #[.int .i64 0, .int .i64 0], .int .i64 c]) (by simp [results, Try.results21, go_sem, *]) rfl ⟨rfl, (by repeat (first | exact Below.refl _ _ | assumption | refine Below.drew ?_ | refine below_drewN ?_ _ | refine Below.alloc ?_ (by first | omega | (simp; done) | (simp; omega)) _ | refine Below.setCell ?_ (by first | omega | (simp; done) | (simp; omega)) _))⟩
end Go.Proofs.Ytklhaanapembdaa
