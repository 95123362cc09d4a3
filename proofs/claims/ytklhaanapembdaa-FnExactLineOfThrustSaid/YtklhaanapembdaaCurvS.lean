/- Contracts of the reference's l13Bound and CurvatureBounds; no old memory turns; condition: the slices can be read. -/
import Derived.Test.YtklhaanapembdaaCanS
import Derived.Test.YtklhaanapembdaaCurvP
namespace Go.Proofs.Ytklhaanapembdaa
open Go.RowKit

set_option maxHeartbeats 1000000 in
theorem l13Bound_any (a b : Int) (o : Value) (w : World) (h1 : -1000000 ≤ a) (h2 : a ≤ 1000000) (h3 : -1000000000 ≤ b) (h4 : b ≤ 1000000000) (h0 : b ≠ 0) :
    Calls Try.prog 101 #[.agg #[.int .i64 a, .int .i64 b, o]] w fun e w' => e = .returned (.agg #[.int .i64 (lwN (sgn a b) b.natAbs), .int .i64 (lwD (sgn a b) b.natAbs)]) ∧ Below w.heap.size w w' := by
  by_cases h : b < 0
  · have e1 : sgn a b = -a := if_pos h
    have e2 : (b.natAbs : Int) = -b := by omega
    rw [e1, e2]
    have hd := decide_eq_true h
    clear e1 e2
    go_enter Try.func101, Try.ntmps101
    go_wp2_with fail
    refine (l02Make_any _ _ _ (by omega) (by omega) (by omega) (by omega)).mono ?_
    rintro e1 w1 ⟨rfl, hb1⟩
    obtain ⟨hc1, hf1⟩ := bcell hb1
    have hz1 := hb1.size
    try simp at hz1
    have hz1_0 : w.heap.size < w1.heap.size := by omega
    have hz1_1 : w.heap.size + 1 < w1.heap.size := by omega
    have ha1 : Below w.heap.size w w1 := below_call (by repeat (first | exact Below.refl _ _ | assumption | refine Below.drew ?_ | refine below_drewN ?_ _ | refine Below.alloc ?_ (by first | omega | (simp; done) | (simp; omega)) _ | refine Below.setCell ?_ (by first | omega | (simp; done) | (simp; omega)) _)) hb1
    go_wp2
    refine bodyPost_ret (v := .agg #[.int .i64 (lwN (-a) (-b)), .int .i64 (lwD (-a) (-b))]) (by simp [results, Try.results101, go_sem, *]) rfl ⟨rfl, (by repeat (first | exact Below.refl _ _ | assumption | refine Below.drew ?_ | refine below_drewN ?_ _ | refine Below.alloc ?_ (by first | omega | (simp; done) | (simp; omega)) _ | refine Below.setCell ?_ (by first | omega | (simp; done) | (simp; omega)) _))⟩
  · have e1 : sgn a b = a := if_neg h
    have e2 : (b.natAbs : Int) = b := by omega
    rw [e1, e2]
    have hd := decide_eq_false h
    clear e1 e2
    go_enter Try.func101, Try.ntmps101
    go_wp2_with fail
    refine (l02Make_any _ _ _ (by omega) (by omega) (by omega) (by omega)).mono ?_
    rintro e1 w1 ⟨rfl, hb1⟩
    obtain ⟨hc1, hf1⟩ := bcell hb1
    have hz1 := hb1.size
    try simp at hz1
    have hz1_0 : w.heap.size < w1.heap.size := by omega
    have hz1_1 : w.heap.size + 1 < w1.heap.size := by omega
    have ha1 : Below w.heap.size w w1 := below_call (by repeat (first | exact Below.refl _ _ | assumption | refine Below.drew ?_ | refine below_drewN ?_ _ | refine Below.alloc ?_ (by first | omega | (simp; done) | (simp; omega)) _ | refine Below.setCell ?_ (by first | omega | (simp; done) | (simp; omega)) _)) hb1
    go_wp2
    refine bodyPost_ret (v := .agg #[.int .i64 (lwN a b), .int .i64 (lwD a b)]) (by simp [results, Try.results101, go_sem, *]) rfl ⟨rfl, (by repeat (first | exact Below.refl _ _ | assumption | refine Below.drew ?_ | refine below_drewN ?_ _ | refine Below.alloc ?_ (by first | omega | (simp; done) | (simp; omega)) _ | refine Below.setCell ?_ (by first | omega | (simp; done) | (simp; omega)) _))⟩
set_option maxRecDepth 100000 in
set_option maxHeartbeats 4000000 in
theorem specCurvatureBounds_any (a0 a1 a2 : Option Addr) (n0 c0 n1 c1 n2 c2 : Nat) (ls lo hi : List Int) (w : World) (h : IsB a0 a1 a2 n0 c0 n1 c1 n2 c2 ls lo hi w) :
    Calls Try.prog 57 #[.agg #[.slice a0 n0 c0, .slice a1 n1 c1, .slice a2 n2 c2]] w fun e w' => e = .returned (.tuple #[.agg #[.int .i64 (cvLN ls lo hi), .int .i64 (cvLD ls lo hi)], .agg #[.int .i64 (cvHN ls lo hi), .int .i64 (cvHD ls lo hi)], .int .i64 (csC ls lo hi)]) ∧ Below w.heap.size w w' := by
  have H := Lib.hid h
  cases g : blkB ls lo hi
  · obtain ⟨e1, e2, e3, e4, _, _⟩ := cv_no (canV_bad g)
    rw [e1, e2, e3, e4, cs_bad g]
    have G := Lib.hid g
    clear h g e1 e2 e3 e4
    go_enter Try.func57, Try.ntmps57
    go_wp2_with fail
    refine (l13Ok_any _ _ _ _ _ _ _ _ _ _ _ _ _ _ (blk_alloc (blk_alloc (blk_new w _))) (H.out.below (by repeat (first | exact Below.refl _ _ | assumption | refine Below.drew ?_ | refine below_drewN ?_ _ | refine Below.alloc ?_ (by first | omega | (simp; done) | (simp; omega)) _ | refine Below.setCell ?_ (by first | omega | (simp; done) | (simp; omega)) _)))).mono ?_
    rintro e w1 ⟨rfl, hb1⟩
    have hz1 := hb1.size
    simp at hz1
    have ha1 : Below w.heap.size w w1 := below_call (by repeat (first | exact Below.refl _ _ | assumption | refine Below.drew ?_ | refine below_drewN ?_ _ | refine Below.alloc ?_ (by first | omega | (simp; done) | (simp; omega)) _ | refine Below.setCell ?_ (by first | omega | (simp; done) | (simp; omega)) _)) hb1
    have hR1 : FrAt w1 (w.heap.size + 1) 0 0 := blk_call (blk_alloc (blk_new' _ _ (by simp))) hb1
    have hR2 : FrAt w1 (w.heap.size + 1 + 1) 0 0 := blk_call (blk_new' _ _ (by simp)) hb1
    obtain ⟨r1, r2, rf1⟩ := hR1.cells
    obtain ⟨r3, r4, rf2⟩ := hR2.cells
    clear hR1 hR2 hb1
    rw [G.out]
    go_wp2
    refine bodyPost_ret (v := .tuple #[.agg #[.int .i64 0, .int .i64 0], .agg #[.int .i64 0, .int .i64 0], .int .i64 1]) (by simp [results, Try.results57, go_sem, *]) rfl ⟨rfl, (by repeat (first | exact Below.refl _ _ | assumption | refine Below.drew ?_ | refine below_drewN ?_ _ | refine Below.alloc ?_ (by first | omega | (simp; done) | (simp; omega)) _ | refine Below.setCell ?_ (by first | omega | (simp; done) | (simp; omega)) _))⟩
  · have G := Lib.hid g
    have HFI := Lib.hid (fun W x hx hW => found_any x a0 a1 a2 n0 c0 n1 c1 n2 c2 ls lo hi W hx hW G.out)
    cases g2 : standB (bfind ls lo hi)
    · obtain ⟨e1, e2, e3, e4, _, _⟩ := cv_no ((canV_eq g).trans g2)
      rw [e1, e2, e3, e4, cs_cracked g g2]
      have G2 := Lib.hid g2
      clear h g g2 e1 e2 e3 e4
      generalize bfind ls lo hi = S at *
      go_enter Try.func57, Try.ntmps57
      go_wp2_with fail
      refine (l13Ok_any _ _ _ _ _ _ _ _ _ _ _ _ _ _ (blk_alloc (blk_alloc (blk_new w _))) (H.out.below (by repeat (first | exact Below.refl _ _ | assumption | refine Below.drew ?_ | refine below_drewN ?_ _ | refine Below.alloc ?_ (by first | omega | (simp; done) | (simp; omega)) _ | refine Below.setCell ?_ (by first | omega | (simp; done) | (simp; omega)) _)))).mono ?_
      rintro e w1 ⟨rfl, hb1⟩
      have hz1 := hb1.size
      simp at hz1
      have ha1 : Below w.heap.size w w1 := below_call (by repeat (first | exact Below.refl _ _ | assumption | refine Below.drew ?_ | refine below_drewN ?_ _ | refine Below.alloc ?_ (by first | omega | (simp; done) | (simp; omega)) _ | refine Below.setCell ?_ (by first | omega | (simp; done) | (simp; omega)) _)) hb1
      have hF : AtB w.heap.size a0 a1 a2 n0 c0 n1 c1 n2 c2 w1 := blk_call (blk_alloc (blk_alloc (blk_new w _))) hb1
      have hR1 : FrAt w1 (w.heap.size + 1) 0 0 := blk_call (blk_alloc (blk_new' _ _ (by simp))) hb1
      have hR2 : FrAt w1 (w.heap.size + 1 + 1) 0 0 := blk_call (blk_new' _ _ (by simp)) hb1
      rw [G.out]
      go_wp2_with fail
      refine (HFI.out _ _ hF (H.out.below (by repeat (first | exact Below.refl _ _ | assumption | refine Below.drew ?_ | refine below_drewN ?_ _ | refine Below.alloc ?_ (by first | omega | (simp; done) | (simp; omega)) _ | refine Below.setCell ?_ (by first | omega | (simp; done) | (simp; omega)) _)))).mono ?_
      rintro e w2 ⟨b, v, l, gs, F', rfl, hFS, hb2⟩
      have ha2 : Below w.heap.size w w2 := below_call (by repeat (first | exact Below.refl _ _ | assumption | refine Below.drew ?_ | refine below_drewN ?_ _ | refine Below.alloc ?_ (by first | omega | (simp; done) | (simp; omega)) _ | refine Below.setCell ?_ (by first | omega | (simp; done) | (simp; omega)) _)) hb2
      replace hR1 : FrAt w2 (w.heap.size + 1) 0 0 := blk_call hR1 hb2
      replace hR2 : FrAt w2 (w.heap.size + 1 + 1) 0 0 := blk_call hR2 hb2
      have HF := Lib.hid hFS
      clear hFS hF hb1 hb2
      go_wp2_with fail
      refine (foundStands_any _ _ _ _ _ _ _ _ HF.out).mono ?_
      rintro e w3 ⟨rfl, hb3⟩
      have ha3 : Below w.heap.size w w3 := below_call (by repeat (first | exact Below.refl _ _ | assumption | refine Below.drew ?_ | refine below_drewN ?_ _ | refine Below.alloc ?_ (by first | omega | (simp; done) | (simp; omega)) _ | refine Below.setCell ?_ (by first | omega | (simp; done) | (simp; omega)) _)) hb3
      replace hR1 : FrAt w3 (w.heap.size + 1) 0 0 := blk_call hR1 hb3
      replace hR2 : FrAt w3 (w.heap.size + 1 + 1) 0 0 := blk_call hR2 hb3
      obtain ⟨r1, r2, rf1⟩ := hR1.cells
      obtain ⟨r3, r4, rf2⟩ := hR2.cells
      clear hR1 hR2 hb3
      rw [G2.out]
      go_wp2
      refine bodyPost_ret (v := .tuple #[.agg #[.int .i64 0, .int .i64 0], .agg #[.int .i64 0, .int .i64 0], .int .i64 10]) (by simp [results, Try.results57, go_sem, *]) rfl ⟨rfl, (by repeat (first | exact Below.refl _ _ | assumption | refine Below.drew ?_ | refine below_drewN ?_ _ | refine Below.alloc ?_ (by first | omega | (simp; done) | (simp; omega)) _ | refine Below.setCell ?_ (by first | omega | (simp; done) | (simp; omega)) _))⟩
    · obtain ⟨e1, e2, e3, e4, _, _⟩ := cv_yes ((canV_eq g).trans g2)
      rw [e1, e2, e3, e4, cs_ok g g2]
      have G2 := Lib.hid g2
      clear h e1 e2 e3 e4
      have hgd := bfind_good g
      have hh := bfind_hh g
      clear g
      generalize bfind ls lo hi = S at *
      obtain ⟨k0, k1, k2, k3, k4⟩ := hgd.2.1 hh
      have HHI := Lib.hid (fun W o => l13Bound_any S.high.a S.high.b o W (by omega) (by omega) (by omega) (by omega) (by omega))
      have hsg : sgn S.high.a S.high.b = -S.high.a := if_pos k0
      have hab : (S.high.b.natAbs : Int) = -S.high.b := by omega
      rw [hsg, hab] at HHI
      have HN : Hid (sN S = lwN (-S.high.a) (-S.high.b)) := Lib.hid rfl
      have HD : Hid (sD S = lwD (-S.high.a) (-S.high.b)) := Lib.hid rfl
      rw [← HN.out, ← HD.out] at HHI
      have HLO : Hid (loN S = if S.hl = true ∧ 0 < S.low.a then lwN S.low.a S.low.b else 0) := Lib.hid rfl
      have HLD : Hid (loD S = if S.hl = true ∧ 0 < S.low.a then lwD S.low.a S.low.b else 1) := Lib.hid rfl
      have HG := Lib.hid hgd.1
      clear hsg hab HN HD k0 k1 k2 k3 k4 hgd hh g2
      generalize sN S = sn at *
      generalize sD S = sd at *
      generalize loN S = ln at *
      generalize loD S = ld at *
      go_enter Try.func57, Try.ntmps57
      go_wp2_with fail
      refine (l13Ok_any _ _ _ _ _ _ _ _ _ _ _ _ _ _ (blk_alloc (blk_alloc (blk_new w _))) (H.out.below (by repeat (first | exact Below.refl _ _ | assumption | refine Below.drew ?_ | refine below_drewN ?_ _ | refine Below.alloc ?_ (by first | omega | (simp; done) | (simp; omega)) _ | refine Below.setCell ?_ (by first | omega | (simp; done) | (simp; omega)) _)))).mono ?_
      rintro e w1 ⟨rfl, hb1⟩
      have hz1 := hb1.size
      simp at hz1
      have ha1 : Below w.heap.size w w1 := below_call (by repeat (first | exact Below.refl _ _ | assumption | refine Below.drew ?_ | refine below_drewN ?_ _ | refine Below.alloc ?_ (by first | omega | (simp; done) | (simp; omega)) _ | refine Below.setCell ?_ (by first | omega | (simp; done) | (simp; omega)) _)) hb1
      have hF : AtB w.heap.size a0 a1 a2 n0 c0 n1 c1 n2 c2 w1 := blk_call (blk_alloc (blk_alloc (blk_new w _))) hb1
      have hR1 : FrAt w1 (w.heap.size + 1) 0 0 := blk_call (blk_alloc (blk_new' _ _ (by simp))) hb1
      have hR2 : FrAt w1 (w.heap.size + 1 + 1) 0 0 := blk_call (blk_new' _ _ (by simp)) hb1
      rw [G.out]
      go_wp2_with fail
      refine (HFI.out _ _ hF (H.out.below (by repeat (first | exact Below.refl _ _ | assumption | refine Below.drew ?_ | refine below_drewN ?_ _ | refine Below.alloc ?_ (by first | omega | (simp; done) | (simp; omega)) _ | refine Below.setCell ?_ (by first | omega | (simp; done) | (simp; omega)) _)))).mono ?_
      rintro e w2 ⟨b, v, l, gs, F', rfl, hFS, hb2⟩
      have hz2 := hb2.size
      have ha2 : Below w.heap.size w w2 := below_call (by repeat (first | exact Below.refl _ _ | assumption | refine Below.drew ?_ | refine below_drewN ?_ _ | refine Below.alloc ?_ (by first | omega | (simp; done) | (simp; omega)) _ | refine Below.setCell ?_ (by first | omega | (simp; done) | (simp; omega)) _)) hb2
      replace hR1 : FrAt w2 (w.heap.size + 1) 0 0 := blk_call hR1 hb2
      replace hR2 : FrAt w2 (w.heap.size + 1 + 1) 0 0 := blk_call hR2 hb2
      have HF := Lib.hid hFS
      clear hFS hF hb1 hb2
      go_wp2_with fail
      refine (foundStands_any _ _ _ _ _ _ _ _ HF.out).mono ?_
      rintro e w3 ⟨rfl, hb3⟩
      have hz3 := hb3.size
      have ha3 : Below w.heap.size w w3 := below_call (by repeat (first | exact Below.refl _ _ | assumption | refine Below.drew ?_ | refine below_drewN ?_ _ | refine Below.alloc ?_ (by first | omega | (simp; done) | (simp; omega)) _ | refine Below.setCell ?_ (by first | omega | (simp; done) | (simp; omega)) _)) hb3
      replace hR1 : FrAt w3 (w.heap.size + 1) 0 0 := blk_call hR1 hb3
      replace hR2 : FrAt w3 (w.heap.size + 1 + 1) 0 0 := blk_call hR2 hb3
      have HF3 := Lib.hid (HF.out.call hb3)
      clear HF hb3 HFI
      rw [G2.out]
      -- the record's cells
      obtain ⟨gv, cap, rfl, hv1, hv2⟩ := HF3.out.at'.2.1.shape (by have h0 := HF3.out.high0; have h1 := HF3.out.high1; omega)
      obtain ⟨s0, s1, s2, s3⟩ := HF3.out.at'.cells
      obtain ⟨nv, lw, hg⟩ := F'
      simp only at s0 s1 s2 s3
      have hh0 := HF3.out.high0
      have hh1 := HF3.out.high1
      simp only at hh0 hh1
      obtain ⟨m, rfl⟩ : ∃ m : Nat, hg = (m : Int) := ⟨hg.toNat, by omega⟩
      have hmi : m < l.length := by omega
      have z1 : (m : Int) < (l.length : Int) := by omega
      have z3 : (0 : Int) ≤ (m : Int) := by omega
      obtain ⟨d0, d1, d2⟩ := HF3.out.at'.2.1.get hmi
      have hhi := HF3.out.high
      simp only at hhi
      rw [hhi] at d0 d1
      have hblt := blk_lt HF3.out.at'.1
      have hbb : w1.heap.size ≤ b := HF3.out.at'.2.2.2.1
      have hlow := HF3.out.low
      simp only at hlow
      obtain ⟨gm, hgm⟩ : ∃ gm, gs.getD m 0 = gm := ⟨_, rfl⟩
      rw [hgm] at d2
      clear hgm hhi
      have glt := World.block_lt_of_cell? _ _ d0
      simp only at glt
      have hlt0 : w.heap.size + 1 + 1 < w3.heap.size := by omega
      have hN0 : FrAt (w3.alloc (.cells #[.int .i64 0, .int .i64 1] 31)) w3.heap.size 0 1 := blk_new _ _
      rcases hlow with ⟨rfl, hx⟩ | ⟨hl, hx0, hx1, hx2, hx3, hx4⟩
      case' inl =>
        rw [if_neg (fun h => by rcases hx with hx | ⟨_, _, hx⟩; rw [hx] at h; cases h.1; omega)] at HLO HLD
        clear hx
        go_wp2_with fail
        obtain ⟨W, hW⟩ : ∃ W, w3.alloc (.cells #[.int .i64 0, .int .i64 1] 31) = W := ⟨_, rfl⟩
        have hF : FrAt W w3.heap.size ln ld := by rw [← hW, HLO.out, HLD.out]; exact hN0
        replace hR1 : FrAt W (w.heap.size + 1) 0 0 := by rw [← hW]; exact blk_alloc hR1
        replace hR2 : FrAt W (w.heap.size + 1 + 1) 0 0 := by rw [← hW]; exact blk_alloc hR2
        have hB : Below w.heap.size w W := by rw [← hW]; exact ha3.alloc ha3.size _
        replace s0 := keepA (o := .cells #[.int .i64 0, .int .i64 1] 31) s0
        replace s3 := keepA (o := .cells #[.int .i64 0, .int .i64 1] 31) s3
        replace d0 := keepA (o := .cells #[.int .i64 0, .int .i64 1] 31) d0
        replace d1 := keepA (o := .cells #[.int .i64 0, .int .i64 1] 31) d1
        replace d2 := keepA (o := .cells #[.int .i64 0, .int .i64 1] 31) d2
        rw [hW] at s0 s3 d0 d1 d2 ⊢
        clear hW hN0 s1 s2
      case' inr =>
        obtain ⟨k, rfl⟩ : ∃ k : Nat, lw = (k : Int) := ⟨lw.toNat, by omega⟩
        rw [if_pos ⟨hl, hx4⟩] at HLO HLD
        obtain ⟨q0, q1, q2, q3, q4⟩ := HG.out hl
        have HLW := Lib.hid (fun W o => l13Bound_any S.low.a S.low.b o W (by omega) (by omega) (by omega) (by omega) (by omega))
        have hsl : sgn S.low.a S.low.b = S.low.a := if_neg (by omega)
        have hal : (S.low.b.natAbs : Int) = S.low.b := by omega
        rw [hsl, hal, ← HLO.out, ← HLD.out] at HLW
        have hki : k < l.length := by omega
        have z5 : (k : Int) < (l.length : Int) := by omega
        have z6 : (0 : Int) ≤ (k : Int) := by omega
        have y1 : decide ((0 : Int) ≤ (k : Int)) = true := decide_eq_true z6
        obtain ⟨e0, e1, e2⟩ := HF3.out.at'.2.1.get hki
        rw [hx2] at e0 e1
        obtain ⟨gk, hgk⟩ : ∃ gk, gs.getD k 0 = gk := ⟨_, rfl⟩
        rw [hgk] at e2
        clear hsl hal q0 q1 q2 q3 q4 hl hx0 hx1 hx2 hx3 hx4 hgk HLO HLD
        go_wp2_with fail
        obtain ⟨p0, p1, pf⟩ := hN0.cells
        have pf0 := pf 0
        have pf1 := pf 1
        replace s0 := keepA (o := .cells #[.int .i64 0, .int .i64 1] 31) s0
        replace s2 := keepA (o := .cells #[.int .i64 0, .int .i64 1] 31) s2
        replace s3 := keepA (o := .cells #[.int .i64 0, .int .i64 1] 31) s3
        replace d0 := keepA (o := .cells #[.int .i64 0, .int .i64 1] 31) d0
        replace d1 := keepA (o := .cells #[.int .i64 0, .int .i64 1] 31) d1
        replace d2 := keepA (o := .cells #[.int .i64 0, .int .i64 1] 31) d2
        replace e0 := keepA (o := .cells #[.int .i64 0, .int .i64 1] 31) e0
        replace e1 := keepA (o := .cells #[.int .i64 0, .int .i64 1] 31) e1
        replace e2 := keepA (o := .cells #[.int .i64 0, .int .i64 1] 31) e2
        replace hR1 : FrAt (w3.alloc (.cells #[.int .i64 0, .int .i64 1] 31)) (w.heap.size + 1) 0 0 := blk_alloc hR1
        replace hR2 : FrAt (w3.alloc (.cells #[.int .i64 0, .int .i64 1] 31)) (w.heap.size + 1 + 1) 0 0 := blk_alloc hR2
        replace ha3 : Below w.heap.size w (w3.alloc (.cells #[.int .i64 0, .int .i64 1] 31)) := ha3.alloc ha3.size _
        have h4z : w3.heap.size < (w3.alloc (.cells #[.int .i64 0, .int .i64 1] 31)).heap.size := by simp
        generalize w3.alloc (.cells #[.int .i64 0, .int .i64 1] 31) = w4 at *
        clear pf s1
        have q8 : w4.drew.cell? ⟨b, 0, none⟩ = some (Value.slice (some ⟨gv, 0, none⟩) l.length cap) ∧ w4.drew.cell? ⟨b, 2, none⟩ = some (Value.int .i64 (k : Int)) ∧ w4.drew.cell? ⟨gv, k * 3, none⟩ = some (Value.int .i64 S.low.a) ∧ w4.drew.cell? ⟨gv, k * 3 + 1, none⟩ = some (Value.int .i64 S.low.b) ∧ w4.drew.cell? ⟨gv, k * 3 + 2, none⟩ = some (Value.slice (some ⟨gk, 0, none⟩) 4 4) := ⟨s0, s2, e0, e1, e2⟩
        go_region_held3 (fun w' => w'.cell? ⟨b, 0, none⟩ = some (Value.slice (some ⟨gv, 0, none⟩) l.length cap) ∧ w'.cell? ⟨b, 2, none⟩ = some (Value.int .i64 (k : Int)) ∧ w'.cell? ⟨gv, k * 3, none⟩ = some (Value.int .i64 S.low.a) ∧ w'.cell? ⟨gv, k * 3 + 1, none⟩ = some (Value.int .i64 S.low.b) ∧ w'.cell? ⟨gv, k * 3 + 2, none⟩ = some (Value.slice (some ⟨gk, 0, none⟩) 4 4)) (first | (with_reducible assumption) | exact q8 | (refine ⟨?_, ?_, ?_, ?_, ?_⟩ <;> (repeat (first | (with_reducible refine keepD ?_) | (with_reducible refine keep1S ?_ (by first | (simp; done) | (simp; omega))))) <;> first | (with_reducible exact hS.1) | (with_reducible exact hS.2.1) | (with_reducible exact hS.2.2.1) | (with_reducible exact hS.2.2.2.1) | (with_reducible exact hS.2.2.2.2)))
          (first | (go_at_call 101; (with_reducible refine (HLW.out _ _).mono ?_); rintro e wx ⟨rfl, hbx⟩; have hS : wx.cell? ⟨b, 0, none⟩ = some (Value.slice (some ⟨gv, 0, none⟩) l.length cap) ∧ wx.cell? ⟨b, 2, none⟩ = some (Value.int .i64 (k : Int)) ∧ wx.cell? ⟨gv, k * 3, none⟩ = some (Value.int .i64 S.low.a) ∧ wx.cell? ⟨gv, k * 3 + 1, none⟩ = some (Value.int .i64 S.low.b) ∧ wx.cell? ⟨gv, k * 3 + 2, none⟩ = some (Value.slice (some ⟨gk, 0, none⟩) 4 4) := ⟨keep1 hbx s0, keep1 hbx s2, keep1 hbx e0, keep1 hbx e1, keep1 hbx e2⟩; have s0x := keep1 hbx s0; have s3x := keep1 hbx s3; have d0x := keep1 hbx d0; have d1x := keep1 hbx d1; have d2x := keep1 hbx d2; have pf0x := keepf hbx p0 pf0; have pf1x := keepf hbx p1 pf1; have p0x := keep1 hbx p0; have p1x := keep1 hbx p1; have hN0x : FrAt wx w3.heap.size 0 1 := blk_call (blkD hN0) hbx; have hR1x : FrAt wx (w.heap.size + 1) 0 0 := blk_call (blkD hR1) hbx; have hR2x : FrAt wx (w.heap.size + 1 + 1) 0 0 := blk_call (blkD hR2) hbx; have hzx := hbx.size; have hBx : Below w.heap.size w wx := below_call (by repeat (first | exact Below.refl _ _ | assumption | refine Below.drew ?_ | refine below_drewN ?_ _ | refine Below.alloc ?_ (by first | omega | (simp; done) | (simp; omega)) _ | refine Below.setCell ?_ (by first | omega | (simp; done) | (simp; omega)) _)) hbx))
        go_wp2_with fail
        clear hS q8 e0 e1 e2 s0 s2 s3 d0 d1 d2 p0 p1 pf0 pf1 hN0 hR1 hR2 y1
        obtain ⟨W, hW⟩ : ∃ W, (wx.setCell ⟨w3.heap.size, 0, none⟩ (.int .i64 ln)).setCell ⟨w3.heap.size, 1, none⟩ (.int .i64 ld) = W := ⟨_, rfl⟩
        have hF : FrAt W w3.heap.size ln ld := by rw [← hW]; exact blk_set (blk_set hN0x 0 _) 1 _
        have hR1 : FrAt W (w.heap.size + 1) 0 0 := by rw [← hW]; exact blk_far (blk_far hR1x (p := ⟨w3.heap.size, 0, none⟩) (show w.heap.size + 1 ≠ w3.heap.size by omega) _) (p := ⟨w3.heap.size, 1, none⟩) (show w.heap.size + 1 ≠ w3.heap.size by omega) _
        have hR2 : FrAt W (w.heap.size + 1 + 1) 0 0 := by rw [← hW]; exact blk_far (blk_far hR2x (p := ⟨w3.heap.size, 0, none⟩) (show w.heap.size + 1 + 1 ≠ w3.heap.size by omega) _) (p := ⟨w3.heap.size, 1, none⟩) (show w.heap.size + 1 + 1 ≠ w3.heap.size by omega) _
        have hB : Below w.heap.size w W := by rw [← hW]; exact (hBx.setCell (show w.heap.size ≤ w3.heap.size by omega) _).setCell (show w.heap.size ≤ w3.heap.size by omega) _
        have s0 := keep1s (p := ⟨w3.heap.size, 0, none⟩) (p' := ⟨w3.heap.size, 1, none⟩) (u := .int .i64 ln) (u' := .int .i64 ld) s0x (show w3.heap.size ≠ b by omega) (show w3.heap.size ≠ b by omega)
        have s3 := keep1s (p := ⟨w3.heap.size, 0, none⟩) (p' := ⟨w3.heap.size, 1, none⟩) (u := .int .i64 ln) (u' := .int .i64 ld) s3x (show w3.heap.size ≠ b by omega) (show w3.heap.size ≠ b by omega)
        have d0 := keep1s (p := ⟨w3.heap.size, 0, none⟩) (p' := ⟨w3.heap.size, 1, none⟩) (u := .int .i64 ln) (u' := .int .i64 ld) d0x (show w3.heap.size ≠ gv by omega) (show w3.heap.size ≠ gv by omega)
        have d1 := keep1s (p := ⟨w3.heap.size, 0, none⟩) (p' := ⟨w3.heap.size, 1, none⟩) (u := .int .i64 ln) (u' := .int .i64 ld) d1x (show w3.heap.size ≠ gv by omega) (show w3.heap.size ≠ gv by omega)
        have d2 := keep1s (p := ⟨w3.heap.size, 0, none⟩) (p' := ⟨w3.heap.size, 1, none⟩) (u := .int .i64 ln) (u' := .int .i64 ld) d2x (show w3.heap.size ≠ gv by omega) (show w3.heap.size ≠ gv by omega)
        rw [hW] at s0 s3 d0 d1 d2 ⊢
        clear hW s0x s3x d0x d1x d2x p0x p1x pf0x pf1x hN0x hR1x hR2x hBx hbx hzx
      all_goals
        have hWz := hB.size
        obtain ⟨p0, p1, _⟩ := hF.cells
        obtain ⟨r1, r2, rf1⟩ := hR1.cells
        obtain ⟨r3, r4, rf2⟩ := hR2.cells
        have f1 := rf1 0
        have f2 := rf1 1
        have f3 := rf2 0
        have f4 := rf2 1
        clear hF hR1 hR2 rf1 rf2 HF3 ha1 ha2 ha3 HG
        have q9 : W.drew.cell? ⟨b, 0, none⟩ = some (Value.slice (some ⟨gv, 0, none⟩) l.length cap) ∧ W.drew.cell? ⟨b, 3, none⟩ = some (Value.int .i64 (m : Int)) ∧ W.drew.cell? ⟨gv, m * 3, none⟩ = some (Value.int .i64 S.high.a) ∧ W.drew.cell? ⟨gv, m * 3 + 1, none⟩ = some (Value.int .i64 S.high.b) ∧ W.drew.cell? ⟨gv, m * 3 + 2, none⟩ = some (Value.slice (some ⟨gm, 0, none⟩) 4 4) ∧ W.drew.cell? ⟨w3.heap.size, 0, none⟩ = some (Value.int .i64 ln) ∧ W.drew.cell? ⟨w3.heap.size, 1, none⟩ = some (Value.int .i64 ld) := ⟨s0, s3, d0, d1, d2, p0, p1⟩
        go_region_held3 (fun w' => w'.cell? ⟨b, 0, none⟩ = some (Value.slice (some ⟨gv, 0, none⟩) l.length cap) ∧ w'.cell? ⟨b, 3, none⟩ = some (Value.int .i64 (m : Int)) ∧ w'.cell? ⟨gv, m * 3, none⟩ = some (Value.int .i64 S.high.a) ∧ w'.cell? ⟨gv, m * 3 + 1, none⟩ = some (Value.int .i64 S.high.b) ∧ w'.cell? ⟨gv, m * 3 + 2, none⟩ = some (Value.slice (some ⟨gm, 0, none⟩) 4 4) ∧ w'.cell? ⟨w3.heap.size, 0, none⟩ = some (Value.int .i64 ln) ∧ w'.cell? ⟨w3.heap.size, 1, none⟩ = some (Value.int .i64 ld)) (first | (with_reducible assumption) | exact q9 | (refine ⟨?_, ?_, ?_, ?_, ?_, ?_, ?_⟩ <;> (repeat (first | (with_reducible refine keepD ?_) | (with_reducible refine keep1S ?_ (by first | (simp; done) | (simp; omega))))) <;> first | (with_reducible exact hS.1) | (with_reducible exact hS.2.1) | (with_reducible exact hS.2.2.1) | (with_reducible exact hS.2.2.2.1) | (with_reducible exact hS.2.2.2.2.1) | (with_reducible exact hS.2.2.2.2.2.1) | (with_reducible exact hS.2.2.2.2.2.2)))
          (first | (go_at_call 101; (with_reducible refine (HHI.out _ _).mono ?_); rintro e wx ⟨rfl, hbx⟩; have hS : wx.cell? ⟨b, 0, none⟩ = some (Value.slice (some ⟨gv, 0, none⟩) l.length cap) ∧ wx.cell? ⟨b, 3, none⟩ = some (Value.int .i64 (m : Int)) ∧ wx.cell? ⟨gv, m * 3, none⟩ = some (Value.int .i64 S.high.a) ∧ wx.cell? ⟨gv, m * 3 + 1, none⟩ = some (Value.int .i64 S.high.b) ∧ wx.cell? ⟨gv, m * 3 + 2, none⟩ = some (Value.slice (some ⟨gm, 0, none⟩) 4 4) ∧ wx.cell? ⟨w3.heap.size, 0, none⟩ = some (Value.int .i64 ln) ∧ wx.cell? ⟨w3.heap.size, 1, none⟩ = some (Value.int .i64 ld) := ⟨keep1 hbx s0, keep1 hbx s3, keep1 hbx d0, keep1 hbx d1, keep1 hbx d2, keep1 hbx p0, keep1 hbx p1⟩; replace f1 := keepf hbx r1 f1; replace f2 := keepf hbx r2 f2; replace f3 := keepf hbx r3 f3; replace f4 := keepf hbx r4 f4; replace r1 := keep1 hbx r1; replace r2 := keep1 hbx r2; replace r3 := keep1 hbx r3; replace r4 := keep1 hbx r4; have hBx : Below w.heap.size w wx := below_callB (by repeat (first | exact Below.refl _ _ | assumption | refine Below.drew ?_ | refine below_drewN ?_ _ | refine Below.alloc ?_ (by first | omega | (simp; done) | (simp; omega)) _ | refine Below.setCell ?_ (by first | omega | (simp; done) | (simp; omega)) _)) (by first | omega | (simp; done) | (simp; omega)) hbx))
        all_goals
          go_wp2
          refine bodyPost_ret (v := .tuple #[.agg #[.int .i64 ln, .int .i64 ld], .agg #[.int .i64 sn, .int .i64 sd], .int .i64 0]) (by simp [results, Try.results57, go_sem, *]) rfl ⟨rfl, (by repeat (first | exact Below.refl _ _ | assumption | refine Below.drew ?_ | refine below_drewN ?_ _ | refine Below.alloc ?_ (by first | omega | (simp; done) | (simp; omega)) _ | refine Below.setCell ?_ (by first | omega | (simp; done) | (simp; omega)) _))⟩
end Go.Proofs.Ytklhaanapembdaa
