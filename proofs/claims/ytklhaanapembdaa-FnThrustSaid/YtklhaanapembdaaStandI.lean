/- Contract of the program's bounds.stands : standB of the conditions that decide. -/
import Derived.Test.YtklhaanapembdaaBounds
namespace Go.Proofs.Ytklhaanapembdaa
open Go.RowKit
set_option maxRecDepth 100000 in
set_option maxHeartbeats 8000000 in
theorem standsI_any (S : Bnds) (w : World) (hS : goodS S) :
    Calls Try.prog 65 #[.agg (bcells S)] w fun e w' => e = .returned (.bool (standB S)) ∧ Below w.heap.size w w' := by
  have HS : Hid (standB S = (!S.hn && (!S.hh || decide (S.high.a < 0)) && !(S.hl && S.hh && lessC S.high.a S.high.b S.low.a S.low.b))) := Lib.hid rfl
  have HG := Lib.hid hS
  clear hS
  go_enter Try.func65, Try.ntmps65
  have hA : AtS w.heap.size S (w.alloc (.cells (bcells S) 87)) := blk_new _ _
  obtain ⟨s0, s1, s2, s3, s4, s5, s6, s7, s8, s9, s10, s11, s12, s13, s14, s15, s16, s17, s18, s19, s20⟩ := hA.cells
  cases hn : S.hn
  · rw [hn] at s20
    cases hh : S.hh
    · rw [hh] at s19
      cases hl : S.hl
      · rw [hl] at s18
        go_wp2
        go_ret
        exact ⟨ret_bool (by rw [HS.out, hn, hh, hl]; rfl), (by repeat (first | exact Below.refl _ _ | assumption | refine Below.drew ?_ | refine below_drewN ?_ _ | refine Below.alloc ?_ (by first | omega | (simp; done) | (simp; omega)) _ | refine Below.setCell ?_ (by first | omega | (simp; done) | (simp; omega)) _))⟩
      · rw [hl] at s18
        go_wp2
        go_ret
        exact ⟨ret_bool (by rw [HS.out, hn, hh, hl]; rfl), (by repeat (first | exact Below.refl _ _ | assumption | refine Below.drew ?_ | refine below_drewN ?_ _ | refine Below.alloc ?_ (by first | omega | (simp; done) | (simp; omega)) _ | refine Below.setCell ?_ (by first | omega | (simp; done) | (simp; omega)) _))⟩
    · rw [hh] at s19
      by_cases ha : S.high.a < 0
      · have y1 : decide (S.high.a < 0) = true := decide_eq_true ha
        cases hl : S.hl
        · rw [hl] at s18
          go_wp2
          go_ret
          exact ⟨ret_bool (by rw [HS.out, hn, hh, hl, y1]; rfl), (by repeat (first | exact Below.refl _ _ | assumption | refine Below.drew ?_ | refine below_drewN ?_ _ | refine Below.alloc ?_ (by first | omega | (simp; done) | (simp; omega)) _ | refine Below.setCell ?_ (by first | omega | (simp; done) | (simp; omega)) _))⟩
        · rw [hl] at s18
          obtain ⟨l0, l1, l2, l3, l4⟩ := HG.out.1 hl
          obtain ⟨k0, k1, k2, k3, k4⟩ := HG.out.2.1 hh
          have HLB := Lib.hid (fun W => lessBound_any S.high.j S.high.k S.high.p S.high.q S.high.a S.high.b S.low.j S.low.k S.low.p S.low.q S.low.a S.low.b W k1 k2 k3 k4 l1 l2 l3 l4 (by omega) (by omega))
          obtain ⟨L, hL⟩ : ∃ L, lessC S.high.a S.high.b S.low.a S.low.b = L := ⟨_, rfl⟩
          rw [hL] at HLB
          clear l0 l1 l2 l3 l4 k0 k1 k2 k3 k4
          go_wp2_with fail
          refine (HLB.out _).mono ?_
          rintro e7 w7 ⟨rfl, hb7⟩
          have hax : Below w.heap.size w w7 := below_callB (by repeat (first | exact Below.refl _ _ | assumption | refine Below.drew ?_ | refine below_drewN ?_ _ | refine Below.alloc ?_ (by first | omega | (simp; done) | (simp; omega)) _ | refine Below.setCell ?_ (by first | omega | (simp; done) | (simp; omega)) _)) (by first | omega | (simp; done) | (simp; omega)) hb7
          cases L <;>
            (go_wp2
             go_ret
             exact ⟨ret_bool (by rw [HS.out, hn, hh, hl, y1, hL]; rfl), hax⟩)
      · have y1 : decide (S.high.a < 0) = false := decide_eq_false ha
        go_wp2
        go_ret
        exact ⟨ret_bool (by rw [HS.out, hn, hh, y1]; rfl), (by repeat (first | exact Below.refl _ _ | assumption | refine Below.drew ?_ | refine below_drewN ?_ _ | refine Below.alloc ?_ (by first | omega | (simp; done) | (simp; omega)) _ | refine Below.setCell ?_ (by first | omega | (simp; done) | (simp; omega)) _))⟩
  · rw [hn] at s20
    go_wp2
    go_ret
    exact ⟨ret_bool (by rw [HS.out, hn]; rfl), (by repeat (first | exact Below.refl _ _ | assumption | refine Below.drew ?_ | refine below_drewN ?_ _ | refine Below.alloc ?_ (by first | omega | (simp; done) | (simp; omega)) _ | refine Below.setCell ?_ (by first | omega | (simp; done) | (simp; omega)) _))⟩
end Go.Proofs.Ytklhaanapembdaa
