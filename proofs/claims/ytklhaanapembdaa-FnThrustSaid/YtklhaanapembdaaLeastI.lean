/- Contract of the program's LeastThrust; no old memory turns; condition: the slices can be read. -/
import Derived.Test.YtklhaanapembdaaCurvJ
namespace Go.Proofs.Ytklhaanapembdaa
open Go.RowKit
set_option maxRecDepth 100000 in
set_option maxHeartbeats 4000000 in
theorem leastThrust_any (a0 a1 a2 : Option Addr) (n0 c0 n1 c1 n2 c2 : Nat) (ls lo hi : List Int) (w : World) (h : IsB a0 a1 a2 n0 c0 n1 c1 n2 c2 ls lo hi w) :
    Calls Try.prog 20 #[.agg #[.slice a0 n0 c0, .slice a1 n1 c1, .slice a2 n2 c2]] w fun e w' => e = .returned (.tuple #[.agg #[.int .i64 (ltN ls lo hi), .int .i64 (ltD ls lo hi)], .int .i64 (csC ls lo hi)]) ∧ Below w.heap.size w w' := by
  have H := Lib.hid h
  have HS := Lib.hid (fun W hW => curvatureBounds_any a0 a1 a2 n0 c0 n1 c1 n2 c2 ls lo hi W hW)
  rcases csC_cases ls lo hi with ⟨g, hc⟩ | ⟨g, hc⟩
  · obtain ⟨e1, e2, e3, e4, e5, e6⟩ := cv_yes g
    obtain ⟨v1, v2⟩ := canV_t g
    obtain ⟨n1', n2', n3'⟩ := stand_neg v2 (bfind_hh v1)
    obtain ⟨b1, b2, b3, b4⟩ := s_bd (bfind_good v1) (bfind_hh v1) n1'
    rw [e5, e6, hc]
    rw [e1, e2, e3, e4, hc] at HS
    clear h e1 e2 e3 e4 e5 e6 v1 v2 n1' n2' n3' hc g
    generalize sN (bfind ls lo hi) = sn at *
    generalize sD (bfind ls lo hi) = sd at *
    generalize loN (bfind ls lo hi) = ln at *
    generalize loD (bfind ls lo hi) = ld at *
    go_enter Try.func20, Try.ntmps20
    go_wp2_with fail
    refine (HS.out _ (H.out.below (by repeat (first | exact Below.refl _ _ | assumption | refine Below.drew ?_ | refine below_drewN ?_ _ | refine Below.alloc ?_ (by first | omega | (simp; done) | (simp; omega)) _ | refine Below.setCell ?_ (by first | omega | (simp; done) | (simp; omega)) _)))).mono ?_
    rintro e1 w1 ⟨rfl, hb1⟩
    obtain ⟨hc1, hf1⟩ := bcell hb1
    have hz1 := hb1.size
    try simp at hz1
    have hz1_0 : w.heap.size < w1.heap.size := by omega
    have hz1_1 : w.heap.size + 1 < w1.heap.size := by omega
    have ha1 : Below w.heap.size w w1 := below_call (by repeat (first | exact Below.refl _ _ | assumption | refine Below.drew ?_ | refine below_drewN ?_ _ | refine Below.alloc ?_ (by first | omega | (simp; done) | (simp; omega)) _ | refine Below.setCell ?_ (by first | omega | (simp; done) | (simp; omega)) _)) hb1
    go_wp2_with fail
    refine (lowest_any _ _ _ (by omega) (by omega) (by omega) (by omega)).mono ?_
    rintro e2 w2 ⟨rfl, hb2⟩
    obtain ⟨hc2, hf2⟩ := bcell hb2
    have hz2 := hb2.size
    try simp at hz2
    have hz2_0 : w.heap.size < w2.heap.size := by omega
    have hz2_1 : w.heap.size + 1 < w2.heap.size := by omega
    have ha2 : Below w.heap.size w w2 := below_call (by repeat (first | exact Below.refl _ _ | assumption | refine Below.drew ?_ | refine below_drewN ?_ _ | refine Below.alloc ?_ (by first | omega | (simp; done) | (simp; omega)) _ | refine Below.setCell ?_ (by first | omega | (simp; done) | (simp; omega)) _)) hb2
    have hR1 : FrAt w1 (w.heap.size + 1) 0 0 := blk_call (blk_new' _ _ (by simp)) hb1
    have hR2 : FrAt w2 (w.heap.size + 1) 0 0 := blk_call (blk_alloc (blk_alloc hR1)) hb2
    obtain ⟨r1, r2, rf⟩ := hR2.cells
    clear hc1 hf1 hc2 hf2 hR1 hR2
    go_wp2
    refine bodyPost_ret (v := .tuple #[.agg #[.int .i64 (lwN sd (2 * sn)), .int .i64 (lwD sd (2 * sn))], .int .i64 0]) (by simp [results, Try.results20, go_sem, *]) rfl ⟨rfl, (by repeat (first | exact Below.refl _ _ | assumption | refine Below.drew ?_ | refine below_drewN ?_ _ | refine Below.alloc ?_ (by first | omega | (simp; done) | (simp; omega)) _ | refine Below.setCell ?_ (by first | omega | (simp; done) | (simp; omega)) _))⟩
  · obtain ⟨e1, e2, e3, e4, e5, e6⟩ := cv_no g
    rw [e5, e6]
    rw [e1, e2, e3, e4] at HS
    clear h e1 e2 e3 e4 e5 e6 g
    generalize csC ls lo hi = c at *
    have hc1' : (c != 0) = true := by rcases hc with rfl | rfl <;> rfl
    clear hc
    go_enter Try.func20, Try.ntmps20
    go_wp2_with fail
    refine (HS.out _ (H.out.below (by repeat (first | exact Below.refl _ _ | assumption | refine Below.drew ?_ | refine below_drewN ?_ _ | refine Below.alloc ?_ (by first | omega | (simp; done) | (simp; omega)) _ | refine Below.setCell ?_ (by first | omega | (simp; done) | (simp; omega)) _)))).mono ?_
    rintro e1 w1 ⟨rfl, hb1⟩
    obtain ⟨hc1, hf1⟩ := bcell hb1
    have hz1 := hb1.size
    try simp at hz1
    have hz1_0 : w.heap.size < w1.heap.size := by omega
    have hz1_1 : w.heap.size + 1 < w1.heap.size := by omega
    have ha1 : Below w.heap.size w w1 := below_call (by repeat (first | exact Below.refl _ _ | assumption | refine Below.drew ?_ | refine below_drewN ?_ _ | refine Below.alloc ?_ (by first | omega | (simp; done) | (simp; omega)) _ | refine Below.setCell ?_ (by first | omega | (simp; done) | (simp; omega)) _)) hb1
    go_wp2
    refine bodyPost_ret (v := .tuple #[.agg #[.int .i64 0, .int .i64 0], .int .i64 c]) (by simp [results, Try.results20, go_sem, *]) rfl ⟨rfl, (by repeat (first | exact Below.refl _ _ | assumption | refine Below.drew ?_ | refine below_drewN ?_ _ | refine Below.alloc ?_ (by first | omega | (simp; done) | (simp; omega)) _ | refine Below.setCell ?_ (by first | omega | (simp; done) | (simp; omega)) _))⟩
end Go.Proofs.Ytklhaanapembdaa
