/- Contracts of GaugeOf and NearestMark, program and reference: what each call returns, as plain functions on integers; no old memory turns. -/
import Derived.Test.YtgpcehokdfehjaaDoorMarkA
namespace Go.Proofs.YtgpcehokdfehjaaDoor
set_option linter.unusedVariables false
open Go.RowKit

def gaugeI (H c : Int) : Int × Int × Int := if storB H c then (lwN H c, lwD H c, 0) else (0, 0, 2)
theorem gaugeI_yes {H c : Int} (g : storB H c = true) : gaugeI H c = (lwN H c, lwD H c, 0) := by simp [gaugeI, g]
theorem gaugeI_no {H c : Int} (g : storB H c = false) : gaugeI H c = (0, 0, 2) := by simp [gaugeI, g]
set_option maxHeartbeats 1000000 in
theorem gaugeOf_any (H c : Int) (w : World) :
    Calls Tryd.prog 11 #[.int .i64 H, .int .i64 c] w fun e w' => e = .returned (.tuple #[.agg #[.int .i64 (gaugeI H c).1, .int .i64 (gaugeI H c).2.1], .int .i64 (gaugeI H c).2.2]) ∧ Below w.heap.size w w' := by
  cases g : storB H c
  · have HR := Lib.hid (gaugeI_no g)
    have G1 := Lib.hid g
    clear g
    go_enter Tryd.func11, Tryd.ntmps11
    go_wp2_with fail
    refine (isStorey_any _ _ _).mono ?_
    rintro e w1 ⟨rfl, rfl⟩
    rw [G1.out]
    go_wp2
    refine bodyPost_ret (v := .tuple #[.agg #[.int .i64 0, .int .i64 0], .int .i64 2]) (by simp [results, Tryd.results11, go_sem, *]) rfl ⟨by rw [HR.out], (by repeat (first | exact Below.refl _ _ | assumption | refine Below.drew ?_ | refine below_drewN ?_ _ | refine Below.alloc ?_ (by first | omega | (simp; done) | (simp; omega)) _ | refine Below.setCell ?_ (by first | omega | (simp; done) | (simp; omega)) _))⟩
  · obtain ⟨b1, b2, c1, c2⟩ := storB_t g
    have HR := Lib.hid (gaugeI_yes g)
    have G1 := Lib.hid g
    clear g
    go_enter Tryd.func11, Tryd.ntmps11
    go_wp2_with fail
    refine (isStorey_any _ _ _).mono ?_
    rintro e w1 ⟨rfl, rfl⟩
    rw [G1.out]
    go_wp2_with fail
    refine (lowest_any _ _ _ (by omega) (by omega) (by omega) (by omega)).mono ?_
    rintro e3 w3 ⟨rfl, hb3⟩
    obtain ⟨hc3, hf3⟩ := bcell hb3
    have hz3 := hb3.size
    try simp at hz3
    have hz3_0 : w.heap.size < w3.heap.size := by omega
    have ha3 : Below w.heap.size w w3 := below_call (by repeat (first | exact Below.refl _ _ | assumption | refine Below.drew ?_ | refine below_drewN ?_ _ | refine Below.alloc ?_ (by first | omega | (simp; done) | (simp; omega)) _ | refine Below.setCell ?_ (by first | omega | (simp; done) | (simp; omega)) _)) hb3
    have r3_0_0 : w3.cell? ⟨w.heap.size, 0, none⟩ = some (.int .i64 0) := by simp [hc3, go_sem]
    have r3_0_1 : w3.cell? ⟨w.heap.size, 1, none⟩ = some (.int .i64 0) := by simp [hc3, go_sem]
    have q3_0_0 : w3.frozen? ⟨w.heap.size, 0, none⟩ = false := by simp [hf3, go_sem]
    have q3_0_1 : w3.frozen? ⟨w.heap.size, 1, none⟩ = false := by simp [hf3, go_sem]
    go_wp2
    refine bodyPost_ret (v := .tuple #[.agg #[.int .i64 (lwN H c), .int .i64 (lwD H c)], .int .i64 0]) (by simp [results, Tryd.results11, go_sem, *]) rfl ⟨by rw [HR.out], (by repeat (first | exact Below.refl _ _ | assumption | refine Below.drew ?_ | refine below_drewN ?_ _ | refine Below.alloc ?_ (by first | omega | (simp; done) | (simp; omega)) _ | refine Below.setCell ?_ (by first | omega | (simp; done) | (simp; omega)) _))⟩
set_option maxHeartbeats 1000000 in
theorem specGaugeOf_any (H c : Int) (w : World) :
    Calls Tryd.prog 12 #[.int .i64 H, .int .i64 c] w fun e w' => e = .returned (.tuple #[.agg #[.int .i64 (gaugeI H c).1, .int .i64 (gaugeI H c).2.1], .int .i64 (gaugeI H c).2.2]) ∧ Below w.heap.size w w' := by
  cases g : storB H c
  · have HR := Lib.hid (gaugeI_no g)
    have G1 := Lib.hid (show storC H c = 2 by simp [storC, g])
    clear g
    go_enter Tryd.func12, Tryd.ntmps12
    go_wp2_with fail
    refine (l10Code_any _ _ _).mono ?_
    rintro e w1 ⟨rfl, rfl⟩
    rw [G1.out]
    go_wp2
    refine bodyPost_ret (v := .tuple #[.agg #[.int .i64 0, .int .i64 0], .int .i64 2]) (by simp [results, Tryd.results12, go_sem, *]) rfl ⟨by rw [HR.out], (by repeat (first | exact Below.refl _ _ | assumption | refine Below.drew ?_ | refine below_drewN ?_ _ | refine Below.alloc ?_ (by first | omega | (simp; done) | (simp; omega)) _ | refine Below.setCell ?_ (by first | omega | (simp; done) | (simp; omega)) _))⟩
  · obtain ⟨b1, b2, c1, c2⟩ := storB_t g
    have HR := Lib.hid (gaugeI_yes g)
    have G1 := Lib.hid (show storC H c = 0 by simp [storC, g])
    clear g
    go_enter Tryd.func12, Tryd.ntmps12
    go_wp2_with fail
    refine (l10Code_any _ _ _).mono ?_
    rintro e w1 ⟨rfl, rfl⟩
    rw [G1.out]
    go_wp2_with fail
    refine (l02Make_any _ _ _ (by omega) (by omega) (by omega) (by omega)).mono ?_
    rintro e3 w3 ⟨rfl, hb3⟩
    obtain ⟨hc3, hf3⟩ := bcell hb3
    have hz3 := hb3.size
    try simp at hz3
    have hz3_0 : w.heap.size < w3.heap.size := by omega
    have ha3 : Below w.heap.size w w3 := below_call (by repeat (first | exact Below.refl _ _ | assumption | refine Below.drew ?_ | refine below_drewN ?_ _ | refine Below.alloc ?_ (by first | omega | (simp; done) | (simp; omega)) _ | refine Below.setCell ?_ (by first | omega | (simp; done) | (simp; omega)) _)) hb3
    have r3_0_0 : w3.cell? ⟨w.heap.size, 0, none⟩ = some (.int .i64 0) := by simp [hc3, go_sem]
    have r3_0_1 : w3.cell? ⟨w.heap.size, 1, none⟩ = some (.int .i64 0) := by simp [hc3, go_sem]
    have q3_0_0 : w3.frozen? ⟨w.heap.size, 0, none⟩ = false := by simp [hf3, go_sem]
    have q3_0_1 : w3.frozen? ⟨w.heap.size, 1, none⟩ = false := by simp [hf3, go_sem]
    go_wp2
    refine bodyPost_ret (v := .tuple #[.agg #[.int .i64 (lwN H c), .int .i64 (lwD H c)], .int .i64 0]) (by simp [results, Tryd.results12, go_sem, *]) rfl ⟨by rw [HR.out], (by repeat (first | exact Below.refl _ _ | assumption | refine Below.drew ?_ | refine below_drewN ?_ _ | refine Below.alloc ?_ (by first | omega | (simp; done) | (simp; omega)) _ | refine Below.setCell ?_ (by first | omega | (simp; done) | (simp; omega)) _))⟩
def nrI (H c v : Int) : Int × Int := if storB H c && inB v 0 H then (nearI H c v, 0) else (0, 2)
set_option maxHeartbeats 1000000 in
theorem nearestMarkE_any (H c v : Int) (w : World) :
    Calls Tryd.prog 19 #[.int .i64 H, .int .i64 c, .int .i64 v] w fun e w' => e = .returned (.tuple #[.int .i64 (nrI H c v).1, .int .i64 (nrI H c v).2]) ∧ Below w.heap.size w w' := by
  cases g : storB H c
  · have HR := Lib.hid (show nrI H c v = (0, 2) by simp [nrI, g])
    have G1 := Lib.hid g
    clear g
    go_enter Tryd.func19, Tryd.ntmps19
    go_wp2_with fail
    refine (isStorey_any _ _ _).mono ?_
    rintro e w1 ⟨rfl, rfl⟩
    rw [G1.out]
    go_wp2
    go_ret2
    exact ⟨by rw [HR.out]; rfl, (by repeat (first | exact Below.refl _ _ | assumption | refine Below.drew ?_ | refine below_drewN ?_ _ | refine Below.alloc ?_ (by first | omega | (simp; done) | (simp; omega)) _ | refine Below.setCell ?_ (by first | omega | (simp; done) | (simp; omega)) _))⟩
  · cases g1 : inB v 0 H
    · have HR := Lib.hid (show nrI H c v = (0, 2) by simp [nrI, g1])
      have G1 := Lib.hid g
      have G2 := Lib.hid g1
      clear g g1
      go_enter Tryd.func19, Tryd.ntmps19
      go_wp2_with fail
      refine (isStorey_any _ _ _).mono ?_
      rintro e w1 ⟨rfl, rfl⟩
      rw [G1.out]
      go_wp2_with fail
      refine (within_any _ _ _ _).mono ?_
      rintro e w1 ⟨rfl, rfl⟩
      rw [G2.out]
      go_wp2
      go_ret2
      exact ⟨by rw [HR.out]; rfl, (by repeat (first | exact Below.refl _ _ | assumption | refine Below.drew ?_ | refine below_drewN ?_ _ | refine Below.alloc ?_ (by first | omega | (simp; done) | (simp; omega)) _ | refine Below.setCell ?_ (by first | omega | (simp; done) | (simp; omega)) _))⟩
    · have HR := Lib.hid (show nrI H c v = (nearI H c v, 0) by simp [nrI, g, g1])
      obtain ⟨b1, b2, c1, c2⟩ := storB_t g
      obtain ⟨v1, v2⟩ := inB_t g1
      have G1 := Lib.hid g
      have G2 := Lib.hid g1
      clear g g1
      go_enter Tryd.func19, Tryd.ntmps19
      go_wp2_with fail
      refine (isStorey_any _ _ _).mono ?_
      rintro e w1 ⟨rfl, rfl⟩
      rw [G1.out]
      go_wp2_with fail
      refine (within_any _ _ _ _).mono ?_
      rintro e w1 ⟨rfl, rfl⟩
      rw [G2.out]
      go_wp2_with fail
      refine (nearestMark_any _ _ _ _ (by omega) b2 c1 c2 (by omega) (by omega)).mono ?_
      rintro e w1 ⟨rfl, rfl⟩
      go_wp2
      go_ret2
      exact ⟨by rw [HR.out]; rfl, (by repeat (first | exact Below.refl _ _ | assumption | refine Below.drew ?_ | refine below_drewN ?_ _ | refine Below.alloc ?_ (by first | omega | (simp; done) | (simp; omega)) _ | refine Below.setCell ?_ (by first | omega | (simp; done) | (simp; omega)) _))⟩
set_option maxHeartbeats 1000000 in
theorem specNearestMark_any (H c v : Int) (w : World) :
    Calls Tryd.prog 20 #[.int .i64 H, .int .i64 c, .int .i64 v] w fun e w' => e = .returned (.tuple #[.int .i64 (nrI H c v).1, .int .i64 (nrI H c v).2]) ∧ Below w.heap.size w w' := by
  cases g : storB H c
  · have HR := Lib.hid (show nrI H c v = (0, 2) by simp [nrI, g])
    have G1 := Lib.hid (show storC H c = 2 by simp [storC, g])
    clear g
    go_enter Tryd.func20, Tryd.ntmps20
    go_wp2_with fail
    refine (l10Code_any _ _ _).mono ?_
    rintro e w1 ⟨rfl, rfl⟩
    rw [G1.out]
    go_wp2
    go_ret2
    exact ⟨by rw [HR.out]; rfl, (by repeat (first | exact Below.refl _ _ | assumption | refine Below.drew ?_ | refine below_drewN ?_ _ | refine Below.alloc ?_ (by first | omega | (simp; done) | (simp; omega)) _ | refine Below.setCell ?_ (by first | omega | (simp; done) | (simp; omega)) _))⟩
  · cases g1 : inB v 0 H
    · have HR := Lib.hid (show nrI H c v = (0, 2) by simp [nrI, g1])
      have G1 := Lib.hid (show storC H c = 0 by simp [storC, g])
      have G2 := Lib.hid g1
      clear g g1
      go_enter Tryd.func20, Tryd.ntmps20
      go_wp2_with fail
      refine (l10Code_any _ _ _).mono ?_
      rintro e w1 ⟨rfl, rfl⟩
      rw [G1.out]
      go_wp2_with fail
      refine (l00In_any _ _ _ _).mono ?_
      rintro e w1 ⟨rfl, rfl⟩
      rw [G2.out]
      go_wp2
      go_ret2
      exact ⟨by rw [HR.out]; rfl, (by repeat (first | exact Below.refl _ _ | assumption | refine Below.drew ?_ | refine below_drewN ?_ _ | refine Below.alloc ?_ (by first | omega | (simp; done) | (simp; omega)) _ | refine Below.setCell ?_ (by first | omega | (simp; done) | (simp; omega)) _))⟩
    · have HR := Lib.hid (show nrI H c v = (nearI H c v, 0) by simp [nrI, g, g1])
      obtain ⟨b1, b2, c1, c2⟩ := storB_t g
      obtain ⟨v1, v2⟩ := inB_t g1
      have G1 := Lib.hid (show storC H c = 0 by simp [storC, g])
      have G2 := Lib.hid g1
      clear g g1
      go_enter Tryd.func20, Tryd.ntmps20
      go_wp2_with fail
      refine (l10Code_any _ _ _).mono ?_
      rintro e w1 ⟨rfl, rfl⟩
      rw [G1.out]
      go_wp2_with fail
      refine (l00In_any _ _ _ _).mono ?_
      rintro e w1 ⟨rfl, rfl⟩
      rw [G2.out]
      go_wp2_with fail
      refine (l10Nearest_any _ _ _ _ (by omega) b2 c1 c2 (by omega) (by omega)).mono ?_
      rintro e w1 ⟨rfl, rfl⟩
      go_wp2
      go_ret2
      exact ⟨by rw [HR.out]; rfl, (by repeat (first | exact Below.refl _ _ | assumption | refine Below.drew ?_ | refine below_drewN ?_ _ | refine Below.alloc ?_ (by first | omega | (simp; done) | (simp; omega)) _ | refine Below.setCell ?_ (by first | omega | (simp; done) | (simp; omega)) _))⟩
end Go.Proofs.YtgpcehokdfehjaaDoor
