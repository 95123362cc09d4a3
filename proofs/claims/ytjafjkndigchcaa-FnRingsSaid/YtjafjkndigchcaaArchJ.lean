/- Contracts of JointsOf, TaperOf and MustTaper, program and reference: what each call returns, as plain functions on integers; no old memory turns. -/
import Derived.Test.YtjafjkndigchcaaArch
namespace Go.Proofs.Ytjafjkndigchcaa
open Go.RowKit

/-- What JointsOf returns. -/
def jointsI (r d b j : Int) : Int × Int × Int × Int × Int :=
  if (bricksInI r d b j).2 = 0 then (jointN r (bricksInI r d b j).1 b, jointD r (bricksInI r d b j).1 b, jointN (r + d) (bricksInI r d b j).1 b, jointD (r + d) (bricksInI r d b j).1 b, 0) else (0, 0, 0, 0, (bricksInI r d b j).2)
theorem jointsI_yes {r d b j : Int} (h : (bricksInI r d b j).2 = 0) : jointsI r d b j = (jointN r (bricksInI r d b j).1 b, jointD r (bricksInI r d b j).1 b, jointN (r + d) (bricksInI r d b j).1 b, jointD (r + d) (bricksInI r d b j).1 b, 0) := if_pos h
theorem jointsI_no {r d b j : Int} (h : (bricksInI r d b j).2 ≠ 0) : jointsI r d b j = (0, 0, 0, 0, (bricksInI r d b j).2) := if_neg h
set_option maxHeartbeats 1000000 in
theorem jointsOf_any (r d b j : Int) (w : World) :
    Calls Try.prog 40 #[.agg #[.int .i64 r, .int .i64 d, .int .i64 b, .int .i64 j]] w fun e w' => e = .returned (.tuple #[.agg #[.int .i64 (jointsI r d b j).1, .int .i64 (jointsI r d b j).2.1], .agg #[.int .i64 (jointsI r d b j).2.2.1, .int .i64 (jointsI r d b j).2.2.2.1], .int .i64 (jointsI r d b j).2.2.2.2]) ∧ Below w.heap.size w w' := by
  rcases bricksInI_code r d b j with ⟨hc, hv, hlo, hhi⟩ | hc
  · obtain ⟨h1, h2, h3, h4, h5, h6, h7, h8⟩ := ringB_t hv
    have HR := Lib.hid (jointsI_yes hc)
    have HB := Lib.hid (bricksIn_any r d b j)
    rw [hc] at HB
    clear hc
    generalize (bricksInI r d b j).1 = n at *
    go_enter Try.func40, Try.ntmps40
    go_wp2_with fail
    refine (HB.out _).mono ?_
    rintro e1 w1 ⟨rfl, hb1⟩
    obtain ⟨hc1, hf1⟩ := bcell hb1
    have hz1 := hb1.size
    try simp at hz1
    have hz1_0 : w.heap.size < w1.heap.size := by omega
    have hz1_1 : w.heap.size + 1 < w1.heap.size := by omega
    have hz1_2 : w.heap.size + 2 < w1.heap.size := by omega
    have ha1 : Below w.heap.size w w1 := below_call (by repeat (first | exact Below.refl _ _ | assumption | refine Below.drew ?_ | refine below_drewN ?_ _ | refine Below.alloc ?_ (by first | omega | (simp; done) | (simp; omega)) _ | refine Below.setCell ?_ (by first | omega | (simp; done) | (simp; omega)) _)) hb1
    go_wp2_with fail
    have q0 : w1.cell? ⟨w.heap.size, 0, none⟩ = some (.int .i64 r) := by simp [hc1, go_sem]
    have q1 : w1.cell? ⟨w.heap.size, 1, none⟩ = some (.int .i64 d) := by simp [hc1, go_sem]
    have q2 : w1.cell? ⟨w.heap.size, 2, none⟩ = some (.int .i64 b) := by simp [hc1, go_sem]
    have q3 : w1.cell? ⟨w.heap.size, 3, none⟩ = some (.int .i64 j) := by simp [hc1, go_sem]
    have b1 : 0 ≤ r := by omega
    have b2 : r ≤ 10000 := by omega
    have b3 : 0 ≤ r + d := by omega
    have b4 : r + d ≤ 10000 := by omega
    have b5 : n ≤ 2000000 := by omega
    have b6 : 0 ≤ b := by omega
    have hw := IntWalk.i64_in (r + d) (by omega)
    have r1 : w1.cell? ⟨w.heap.size + 1, 0, none⟩ = some (.int .i64 0) := by simp [hc1, go_sem]
    have r2 : w1.cell? ⟨w.heap.size + 1, 1, none⟩ = some (.int .i64 0) := by simp [hc1, go_sem]
    have r3 : w1.cell? ⟨w.heap.size + 1 + 1, 0, none⟩ = some (.int .i64 0) := by simp [hc1, go_sem]
    have r4 : w1.cell? ⟨w.heap.size + 1 + 1, 1, none⟩ = some (.int .i64 0) := by simp [hc1, go_sem]
    have f1 : w1.frozen? ⟨w.heap.size + 1, 0, none⟩ = false := by simp [hf1, go_sem]
    have f2 : w1.frozen? ⟨w.heap.size + 1, 1, none⟩ = false := by simp [hf1, go_sem]
    have f3 : w1.frozen? ⟨w.heap.size + 1 + 1, 0, none⟩ = false := by simp [hf1, go_sem]
    have f4 : w1.frozen? ⟨w.heap.size + 1 + 1, 1, none⟩ = false := by simp [hf1, go_sem]
    clear hc1 hf1
    replace ha1 := ha1.drew
    go_region_held3 (fun w' => w'.cell? ⟨w.heap.size, 0, none⟩ = some (.int .i64 r) ∧ w'.cell? ⟨w.heap.size, 1, none⟩ = some (.int .i64 d) ∧ w'.cell? ⟨w.heap.size, 2, none⟩ = some (.int .i64 b) ∧ w'.cell? ⟨w.heap.size, 3, none⟩ = some (.int .i64 j)) (first | exact ⟨q0, q1, q2, q3⟩ | exact keep4 hbx (by assumption) | exact keep4s (by assumption) (by simp <;> omega) (by simp <;> omega))
      (first | (go_at_call 58; refine (jointOf_any _ _ _ _ _ _ _ (by assumption) (by assumption) (by assumption) (by assumption) (by assumption) (by assumption)).mono ?_; rintro e wx ⟨rfl, hbx⟩; replace f1 := keepf hbx r1 f1; replace f2 := keepf hbx r2 f2; replace f3 := keepf hbx r3 f3; replace f4 := keepf hbx r4 f4; replace r1 := keep1 hbx r1; replace r2 := keep1 hbx r2; replace r3 := keep1 hbx r3; replace r4 := keep1 hbx r4; replace ha1 := below_call ha1 hbx))
    all_goals
      go_wp2
      refine bodyPost_ret (v := .tuple #[.agg #[.int .i64 (jointN r n b), .int .i64 (jointD r n b)], .agg #[.int .i64 (jointN (r + d) n b), .int .i64 (jointD (r + d) n b)], .int .i64 0]) (by simp [results, Try.results40, go_sem, *]) rfl ⟨by rw [HR.out], (by repeat (first | exact Below.refl _ _ | assumption | refine Below.drew ?_ | refine below_drewN ?_ _ | refine Below.alloc ?_ (by first | omega | (simp; done) | (simp; omega)) _ | refine Below.setCell ?_ (by first | omega | (simp; done) | (simp; omega)) _))⟩
  · have HR := Lib.hid (jointsI_no hc)
    have HB := Lib.hid (bricksIn_any r d b j)
    generalize (bricksInI r d b j).1 = n at *
    generalize (bricksInI r d b j).2 = c at *
    have hc1 : (c != 0) = true := by simpa using hc
    clear hc
    go_enter Try.func40, Try.ntmps40
    go_wp2_with fail
    refine (HB.out _).mono ?_
    rintro e1 w1 ⟨rfl, hb1⟩
    obtain ⟨hc1, hf1⟩ := bcell hb1
    have hz1 := hb1.size
    try simp at hz1
    have hz1_0 : w.heap.size < w1.heap.size := by omega
    have hz1_1 : w.heap.size + 1 < w1.heap.size := by omega
    have hz1_2 : w.heap.size + 2 < w1.heap.size := by omega
    have ha1 : Below w.heap.size w w1 := below_call (by repeat (first | exact Below.refl _ _ | assumption | refine Below.drew ?_ | refine below_drewN ?_ _ | refine Below.alloc ?_ (by first | omega | (simp; done) | (simp; omega)) _ | refine Below.setCell ?_ (by first | omega | (simp; done) | (simp; omega)) _)) hb1
    go_wp2
    refine bodyPost_ret (v := .tuple #[.agg #[.int .i64 0, .int .i64 0], .agg #[.int .i64 0, .int .i64 0], .int .i64 c]) (by simp [results, Try.results40, go_sem, *]) rfl ⟨by rw [HR.out], (by repeat (first | exact Below.refl _ _ | assumption | refine Below.drew ?_ | refine below_drewN ?_ _ | refine Below.alloc ?_ (by first | omega | (simp; done) | (simp; omega)) _ | refine Below.setCell ?_ (by first | omega | (simp; done) | (simp; omega)) _))⟩
set_option maxHeartbeats 1000000 in
theorem specJointsOf_any (r d b j : Int) (w : World) :
    Calls Try.prog 42 #[.agg #[.int .i64 r, .int .i64 d, .int .i64 b, .int .i64 j]] w fun e w' => e = .returned (.tuple #[.agg #[.int .i64 (jointsI r d b j).1, .int .i64 (jointsI r d b j).2.1], .agg #[.int .i64 (jointsI r d b j).2.2.1, .int .i64 (jointsI r d b j).2.2.2.1], .int .i64 (jointsI r d b j).2.2.2.2]) ∧ Below w.heap.size w w' := by
  rcases bricksInI_code r d b j with ⟨hc, hv, hlo, hhi⟩ | hc
  · obtain ⟨h1, h2, h3, h4, h5, h6, h7, h8⟩ := ringB_t hv
    have HR := Lib.hid (jointsI_yes hc)
    have HB := Lib.hid (l12Count_any r d b j)
    rw [hc] at HB
    clear hc
    generalize (bricksInI r d b j).1 = n at *
    go_enter Try.func42, Try.ntmps42
    go_wp2_with fail
    refine (HB.out _).mono ?_
    rintro e1 w1 ⟨rfl, hb1⟩
    obtain ⟨hc1, hf1⟩ := bcell hb1
    have hz1 := hb1.size
    try simp at hz1
    have hz1_0 : w.heap.size < w1.heap.size := by omega
    have hz1_1 : w.heap.size + 1 < w1.heap.size := by omega
    have hz1_2 : w.heap.size + 2 < w1.heap.size := by omega
    have ha1 : Below w.heap.size w w1 := below_call (by repeat (first | exact Below.refl _ _ | assumption | refine Below.drew ?_ | refine below_drewN ?_ _ | refine Below.alloc ?_ (by first | omega | (simp; done) | (simp; omega)) _ | refine Below.setCell ?_ (by first | omega | (simp; done) | (simp; omega)) _)) hb1
    go_wp2_with fail
    have q0 : w1.cell? ⟨w.heap.size, 0, none⟩ = some (.int .i64 r) := by simp [hc1, go_sem]
    have q1 : w1.cell? ⟨w.heap.size, 1, none⟩ = some (.int .i64 d) := by simp [hc1, go_sem]
    have q2 : w1.cell? ⟨w.heap.size, 2, none⟩ = some (.int .i64 b) := by simp [hc1, go_sem]
    have q3 : w1.cell? ⟨w.heap.size, 3, none⟩ = some (.int .i64 j) := by simp [hc1, go_sem]
    have b1 : 0 ≤ r := by omega
    have b2 : r ≤ 10000 := by omega
    have b3 : 0 ≤ r + d := by omega
    have b4 : r + d ≤ 10000 := by omega
    have b5 : n ≤ 2000000 := by omega
    have b6 : 0 ≤ b := by omega
    have hw := IntWalk.i64_in (r + d) (by omega)
    have r1 : w1.cell? ⟨w.heap.size + 1, 0, none⟩ = some (.int .i64 0) := by simp [hc1, go_sem]
    have r2 : w1.cell? ⟨w.heap.size + 1, 1, none⟩ = some (.int .i64 0) := by simp [hc1, go_sem]
    have r3 : w1.cell? ⟨w.heap.size + 1 + 1, 0, none⟩ = some (.int .i64 0) := by simp [hc1, go_sem]
    have r4 : w1.cell? ⟨w.heap.size + 1 + 1, 1, none⟩ = some (.int .i64 0) := by simp [hc1, go_sem]
    have f1 : w1.frozen? ⟨w.heap.size + 1, 0, none⟩ = false := by simp [hf1, go_sem]
    have f2 : w1.frozen? ⟨w.heap.size + 1, 1, none⟩ = false := by simp [hf1, go_sem]
    have f3 : w1.frozen? ⟨w.heap.size + 1 + 1, 0, none⟩ = false := by simp [hf1, go_sem]
    have f4 : w1.frozen? ⟨w.heap.size + 1 + 1, 1, none⟩ = false := by simp [hf1, go_sem]
    clear hc1 hf1
    replace ha1 := ha1.drew
    go_region_held3 (fun w' => w'.cell? ⟨w.heap.size, 0, none⟩ = some (.int .i64 r) ∧ w'.cell? ⟨w.heap.size, 1, none⟩ = some (.int .i64 d) ∧ w'.cell? ⟨w.heap.size, 2, none⟩ = some (.int .i64 b) ∧ w'.cell? ⟨w.heap.size, 3, none⟩ = some (.int .i64 j)) (first | exact ⟨q0, q1, q2, q3⟩ | exact keep4 hbx (by assumption) | exact keep4s (by assumption) (by simp <;> omega) (by simp <;> omega))
      (first | (go_at_call 59; refine (l12Joint_any _ _ _ _ (by assumption) (by assumption) (by assumption) (by assumption) (by assumption) (by assumption)).mono ?_; rintro e wx ⟨rfl, hbx⟩; replace f1 := keepf hbx r1 f1; replace f2 := keepf hbx r2 f2; replace f3 := keepf hbx r3 f3; replace f4 := keepf hbx r4 f4; replace r1 := keep1 hbx r1; replace r2 := keep1 hbx r2; replace r3 := keep1 hbx r3; replace r4 := keep1 hbx r4; replace ha1 := below_call ha1 hbx))
    all_goals
      go_wp2
      refine bodyPost_ret (v := .tuple #[.agg #[.int .i64 (jointN r n b), .int .i64 (jointD r n b)], .agg #[.int .i64 (jointN (r + d) n b), .int .i64 (jointD (r + d) n b)], .int .i64 0]) (by simp [results, Try.results42, go_sem, *]) rfl ⟨by rw [HR.out], (by repeat (first | exact Below.refl _ _ | assumption | refine Below.drew ?_ | refine below_drewN ?_ _ | refine Below.alloc ?_ (by first | omega | (simp; done) | (simp; omega)) _ | refine Below.setCell ?_ (by first | omega | (simp; done) | (simp; omega)) _))⟩
  · have HR := Lib.hid (jointsI_no hc)
    have HB := Lib.hid (l12Count_any r d b j)
    generalize (bricksInI r d b j).1 = n at *
    generalize (bricksInI r d b j).2 = c at *
    have hc1 : (c != 0) = true := by simpa using hc
    clear hc
    go_enter Try.func42, Try.ntmps42
    go_wp2_with fail
    refine (HB.out _).mono ?_
    rintro e1 w1 ⟨rfl, hb1⟩
    obtain ⟨hc1, hf1⟩ := bcell hb1
    have hz1 := hb1.size
    try simp at hz1
    have hz1_0 : w.heap.size < w1.heap.size := by omega
    have hz1_1 : w.heap.size + 1 < w1.heap.size := by omega
    have hz1_2 : w.heap.size + 2 < w1.heap.size := by omega
    have ha1 : Below w.heap.size w w1 := below_call (by repeat (first | exact Below.refl _ _ | assumption | refine Below.drew ?_ | refine below_drewN ?_ _ | refine Below.alloc ?_ (by first | omega | (simp; done) | (simp; omega)) _ | refine Below.setCell ?_ (by first | omega | (simp; done) | (simp; omega)) _)) hb1
    go_wp2
    refine bodyPost_ret (v := .tuple #[.agg #[.int .i64 0, .int .i64 0], .agg #[.int .i64 0, .int .i64 0], .int .i64 c]) (by simp [results, Try.results42, go_sem, *]) rfl ⟨by rw [HR.out], (by repeat (first | exact Below.refl _ _ | assumption | refine Below.drew ?_ | refine below_drewN ?_ _ | refine Below.alloc ?_ (by first | omega | (simp; done) | (simp; omega)) _ | refine Below.setCell ?_ (by first | omega | (simp; done) | (simp; omega)) _))⟩

/-- What TaperOf returns. -/
def taperI (r d b j : Int) : Int × Int × Int :=
  if (bricksInI r d b j).2 = 0 then (lwN (d * 355) (113 * (bricksInI r d b j).1), lwD (d * 355) (113 * (bricksInI r d b j).1), 0) else (0, 0, (bricksInI r d b j).2)
theorem taperI_yes {r d b j : Int} (h : (bricksInI r d b j).2 = 0) : taperI r d b j = (lwN (d * 355) (113 * (bricksInI r d b j).1), lwD (d * 355) (113 * (bricksInI r d b j).1), 0) := if_pos h
theorem taperI_no {r d b j : Int} (h : (bricksInI r d b j).2 ≠ 0) : taperI r d b j = (0, 0, (bricksInI r d b j).2) := if_neg h
set_option maxHeartbeats 1000000 in
theorem taperOf_any (r d b j : Int) (w : World) :
    Calls Try.prog 38 #[.agg #[.int .i64 r, .int .i64 d, .int .i64 b, .int .i64 j]] w fun e w' => e = .returned (.tuple #[.agg #[.int .i64 (taperI r d b j).1, .int .i64 (taperI r d b j).2.1], .int .i64 (taperI r d b j).2.2]) ∧ Below w.heap.size w w' := by
  rcases bricksInI_code r d b j with ⟨hc, hv, hlo, hhi⟩ | hc
  · obtain ⟨h1, h2, h3, h4, h5, h6, h7, h8⟩ := ringB_t hv
    have HR := Lib.hid (taperI_yes hc)
    have HB := Lib.hid (bricksIn_any r d b j)
    rw [hc] at HB
    clear hc
    generalize (bricksInI r d b j).1 = n at *
    go_enter Try.func38, Try.ntmps38
    go_wp2_with fail
    refine (HB.out _).mono ?_
    rintro e1 w1 ⟨rfl, hb1⟩
    obtain ⟨hc1, hf1⟩ := bcell hb1
    have hz1 := hb1.size
    try simp at hz1
    have hz1_0 : w.heap.size < w1.heap.size := by omega
    have hz1_1 : w.heap.size + 1 < w1.heap.size := by omega
    have ha1 : Below w.heap.size w w1 := below_call (by repeat (first | exact Below.refl _ _ | assumption | refine Below.drew ?_ | refine below_drewN ?_ _ | refine Below.alloc ?_ (by first | omega | (simp; done) | (simp; omega)) _ | refine Below.setCell ?_ (by first | omega | (simp; done) | (simp; omega)) _)) hb1
    go_wp2_with fail
    refine (lowest_any _ _ _ (by omega) (by omega) (by omega) (by omega)).mono ?_
    rintro e2 w2 ⟨rfl, hb2⟩
    obtain ⟨hc2, hf2⟩ := bcell hb2
    have hz2 := hb2.size
    try simp at hz2
    have hz2_0 : w.heap.size < w2.heap.size := by omega
    have hz2_1 : w.heap.size + 1 < w2.heap.size := by omega
    have ha2 : Below w.heap.size w w2 := below_call (by repeat (first | exact Below.refl _ _ | assumption | refine Below.drew ?_ | refine below_drewN ?_ _ | refine Below.alloc ?_ (by first | omega | (simp; done) | (simp; omega)) _ | refine Below.setCell ?_ (by first | omega | (simp; done) | (simp; omega)) _)) hb2
    go_wp2
    refine bodyPost_ret (v := .tuple #[.agg #[.int .i64 (lwN (d * 355) (113 * n)), .int .i64 (lwD (d * 355) (113 * n))], .int .i64 0]) (by simp [results, Try.results38, go_sem, *]) rfl ⟨by rw [HR.out], (by repeat (first | exact Below.refl _ _ | assumption | refine Below.drew ?_ | refine below_drewN ?_ _ | refine Below.alloc ?_ (by first | omega | (simp; done) | (simp; omega)) _ | refine Below.setCell ?_ (by first | omega | (simp; done) | (simp; omega)) _))⟩
  · have HR := Lib.hid (taperI_no hc)
    have HB := Lib.hid (bricksIn_any r d b j)
    generalize (bricksInI r d b j).1 = n at *
    generalize (bricksInI r d b j).2 = c at *
    have hc1 : (c != 0) = true := by simpa using hc
    clear hc
    go_enter Try.func38, Try.ntmps38
    go_wp2_with fail
    refine (HB.out _).mono ?_
    rintro e1 w1 ⟨rfl, hb1⟩
    obtain ⟨hc1, hf1⟩ := bcell hb1
    have hz1 := hb1.size
    try simp at hz1
    have hz1_0 : w.heap.size < w1.heap.size := by omega
    have hz1_1 : w.heap.size + 1 < w1.heap.size := by omega
    have ha1 : Below w.heap.size w w1 := below_call (by repeat (first | exact Below.refl _ _ | assumption | refine Below.drew ?_ | refine below_drewN ?_ _ | refine Below.alloc ?_ (by first | omega | (simp; done) | (simp; omega)) _ | refine Below.setCell ?_ (by first | omega | (simp; done) | (simp; omega)) _)) hb1
    go_wp2
    refine bodyPost_ret (v := .tuple #[.agg #[.int .i64 0, .int .i64 0], .int .i64 c]) (by simp [results, Try.results38, go_sem, *]) rfl ⟨by rw [HR.out], (by repeat (first | exact Below.refl _ _ | assumption | refine Below.drew ?_ | refine below_drewN ?_ _ | refine Below.alloc ?_ (by first | omega | (simp; done) | (simp; omega)) _ | refine Below.setCell ?_ (by first | omega | (simp; done) | (simp; omega)) _))⟩
set_option maxHeartbeats 1000000 in
theorem specTaperOf_any (r d b j : Int) (w : World) :
    Calls Try.prog 37 #[.agg #[.int .i64 r, .int .i64 d, .int .i64 b, .int .i64 j]] w fun e w' => e = .returned (.tuple #[.agg #[.int .i64 (taperI r d b j).1, .int .i64 (taperI r d b j).2.1], .int .i64 (taperI r d b j).2.2]) ∧ Below w.heap.size w w' := by
  rcases bricksInI_code r d b j with ⟨hc, hv, hlo, hhi⟩ | hc
  · obtain ⟨h1, h2, h3, h4, h5, h6, h7, h8⟩ := ringB_t hv
    have HR := Lib.hid (taperI_yes hc)
    have HB := Lib.hid (l12Count_any r d b j)
    rw [hc] at HB
    clear hc
    generalize (bricksInI r d b j).1 = n at *
    have HC := Lib.hid (Int.mul_comm 355 d)
    go_enter Try.func37, Try.ntmps37
    go_wp2_with fail
    refine (HB.out _).mono ?_
    rintro e1 w1 ⟨rfl, hb1⟩
    obtain ⟨hc1, hf1⟩ := bcell hb1
    have hz1 := hb1.size
    try simp at hz1
    have hz1_0 : w.heap.size < w1.heap.size := by omega
    have hz1_1 : w.heap.size + 1 < w1.heap.size := by omega
    have ha1 : Below w.heap.size w w1 := below_call (by repeat (first | exact Below.refl _ _ | assumption | refine Below.drew ?_ | refine below_drewN ?_ _ | refine Below.alloc ?_ (by first | omega | (simp; done) | (simp; omega)) _ | refine Below.setCell ?_ (by first | omega | (simp; done) | (simp; omega)) _)) hb1
    go_wp2_with fail
    rw [HC.out]
    refine (l02Make_any _ _ _ (by omega) (by omega) (by omega) (by omega)).mono ?_
    rintro e2 w2 ⟨rfl, hb2⟩
    obtain ⟨hc2, hf2⟩ := bcell hb2
    have hz2 := hb2.size
    try simp at hz2
    have hz2_0 : w.heap.size < w2.heap.size := by omega
    have hz2_1 : w.heap.size + 1 < w2.heap.size := by omega
    have ha2 : Below w.heap.size w w2 := below_call (by repeat (first | exact Below.refl _ _ | assumption | refine Below.drew ?_ | refine below_drewN ?_ _ | refine Below.alloc ?_ (by first | omega | (simp; done) | (simp; omega)) _ | refine Below.setCell ?_ (by first | omega | (simp; done) | (simp; omega)) _)) hb2
    go_wp2
    refine bodyPost_ret (v := .tuple #[.agg #[.int .i64 (lwN (d * 355) (113 * n)), .int .i64 (lwD (d * 355) (113 * n))], .int .i64 0]) (by simp [results, Try.results37, go_sem, *]) rfl ⟨by rw [HR.out], (by repeat (first | exact Below.refl _ _ | assumption | refine Below.drew ?_ | refine below_drewN ?_ _ | refine Below.alloc ?_ (by first | omega | (simp; done) | (simp; omega)) _ | refine Below.setCell ?_ (by first | omega | (simp; done) | (simp; omega)) _))⟩
  · have HR := Lib.hid (taperI_no hc)
    have HB := Lib.hid (l12Count_any r d b j)
    generalize (bricksInI r d b j).1 = n at *
    generalize (bricksInI r d b j).2 = c at *
    have hc1 : (c != 0) = true := by simpa using hc
    clear hc
    go_enter Try.func37, Try.ntmps37
    go_wp2_with fail
    refine (HB.out _).mono ?_
    rintro e1 w1 ⟨rfl, hb1⟩
    obtain ⟨hc1, hf1⟩ := bcell hb1
    have hz1 := hb1.size
    try simp at hz1
    have hz1_0 : w.heap.size < w1.heap.size := by omega
    have hz1_1 : w.heap.size + 1 < w1.heap.size := by omega
    have ha1 : Below w.heap.size w w1 := below_call (by repeat (first | exact Below.refl _ _ | assumption | refine Below.drew ?_ | refine below_drewN ?_ _ | refine Below.alloc ?_ (by first | omega | (simp; done) | (simp; omega)) _ | refine Below.setCell ?_ (by first | omega | (simp; done) | (simp; omega)) _)) hb1
    go_wp2
    refine bodyPost_ret (v := .tuple #[.agg #[.int .i64 0, .int .i64 0], .int .i64 c]) (by simp [results, Try.results37, go_sem, *]) rfl ⟨by rw [HR.out], (by repeat (first | exact Below.refl _ _ | assumption | refine Below.drew ?_ | refine below_drewN ?_ _ | refine Below.alloc ?_ (by first | omega | (simp; done) | (simp; omega)) _ | refine Below.setCell ?_ (by first | omega | (simp; done) | (simp; omega)) _))⟩

/-- What MustTaper returns. -/
def mustI (r d b j m : Int) : Bool × Int :=
  if ringB r d b j then (if inB m 1 100 then (if (bricksInI r d b j).2 = 0 then (decide (m * jointD (r + d) (bricksInI r d b j).1 b < jointN (r + d) (bricksInI r d b j).1 b), 0) else (false, (bricksInI r d b j).2)) else (false, 2)) else (false, 1)
theorem mustI_bad {r d b j m : Int} (h : ringB r d b j = false) : mustI r d b j m = (false, 1) := by simp [mustI, h]
theorem mustI_range {r d b j m : Int} (h : ringB r d b j = true) (h1 : inB m 1 100 = false) : mustI r d b j m = (false, 2) := by simp [mustI, h, h1]
theorem mustI_no {r d b j m : Int} (h : ringB r d b j = true) (h1 : inB m 1 100 = true) (h2 : (bricksInI r d b j).2 ≠ 0) : mustI r d b j m = (false, (bricksInI r d b j).2) := by simp [mustI, h, h1, h2]
theorem mustI_yes {r d b j m : Int} (h : ringB r d b j = true) (h1 : inB m 1 100 = true) (h2 : (bricksInI r d b j).2 = 0) : mustI r d b j m = (decide (m * jointD (r + d) (bricksInI r d b j).1 b < jointN (r + d) (bricksInI r d b j).1 b), 0) := by simp [mustI, h, h1, h2]
theorem jointD_bd {x n b : Int} (hn : 1 ≤ n) (hn' : n ≤ 2000000) : 1 ≤ jointD x n b ∧ jointD x n b ≤ 226000000 :=
  ⟨lwD_pos _ _ (by omega), Int.le_trans (lwD_le _ _ (by omega)) (by omega)⟩
set_option maxHeartbeats 1000000 in
theorem mustTaper_any (r d b j m : Int) (w : World) :
    Calls Try.prog 41 #[.agg #[.int .i64 r, .int .i64 d, .int .i64 b, .int .i64 j], .int .i64 m] w fun e w' => e = .returned (.tuple #[.bool (mustI r d b j m).1, .int .i64 (mustI r d b j m).2]) ∧ Below w.heap.size w w' := by
  by_cases hv : ringB r d b j = true
  · by_cases h1 : inB m 1 100 = true
    · obtain ⟨b1, b2⟩ := inB_t h1
      rcases bricksInI_code r d b j with ⟨hc, _, hlo, hhi⟩ | hc
      · have HR := Lib.hid (mustI_yes hv h1 hc)
        have HJ := Lib.hid (jointsOf_any r d b j)
        rw [jointsI_yes hc] at HJ
        clear hc
        generalize (bricksInI r d b j).1 = n at *
        obtain ⟨d1, d2⟩ := jointD_bd (x := r + d) (b := b) hlo (show n ≤ 2000000 by omega)
        generalize jointD (r + d) n b = D at *
        generalize jointN (r + d) n b = M at *
        obtain ⟨m1, m2⟩ := mul_bd (a := m) (b := D) (A := 100) (B := 226000000) (by omega) (by omega) (by omega) d2
        go_enter Try.func41, Try.ntmps41
        go_wp2_with (first | (go_at_call 45; refine (within_any _ _ _ _).mono ?_; rintro e w' ⟨rfl, rfl⟩) | (go_at_call 19; refine (validRing_any _ _ _ _ _).mono ?_; rintro e w1 ⟨rfl, hb1⟩; obtain ⟨hc1, hf1⟩ := bcell hb1; have hz1 := hb1.size; (try simp at hz1); have hz1_0 : w.heap.size < w1.heap.size := (by omega); have ha1 : Below w.heap.size w w1 := below_call (by repeat (first | exact Below.refl _ _ | assumption | refine Below.drew ?_ | refine below_drewN ?_ _ | refine Below.alloc ?_ (by first | omega | (simp; done) | (simp; omega)) _ | refine Below.setCell ?_ (by first | omega | (simp; done) | (simp; omega)) _)) hb1))
        refine (HJ.out _).mono ?_
        rintro e2 w2 ⟨rfl, hb2⟩
        obtain ⟨hc2, hf2⟩ := bcell hb2
        have hz2 := hb2.size
        try simp at hz2
        have hz2_0 : w.heap.size < w2.heap.size := by omega
        have ha2 : Below w.heap.size w w2 := below_call (by repeat (first | exact Below.refl _ _ | assumption | refine Below.drew ?_ | refine below_drewN ?_ _ | refine Below.alloc ?_ (by first | omega | (simp; done) | (simp; omega)) _ | refine Below.setCell ?_ (by first | omega | (simp; done) | (simp; omega)) _)) hb2
        go_wp2
        all_goals
          go_ret2
          exact ⟨by rw [HR.out]; rfl, (by repeat (first | exact Below.refl _ _ | assumption | refine Below.drew ?_ | refine below_drewN ?_ _ | refine Below.alloc ?_ (by first | omega | (simp; done) | (simp; omega)) _ | refine Below.setCell ?_ (by first | omega | (simp; done) | (simp; omega)) _))⟩
      · have HR := Lib.hid (mustI_no hv h1 hc)
        have HJ := Lib.hid (jointsOf_any r d b j)
        rw [jointsI_no hc] at HJ
        generalize (bricksInI r d b j).1 = n at *
        generalize (bricksInI r d b j).2 = c at *
        have hc1 : (c != 0) = true := by simpa using hc
        clear hc
        go_enter Try.func41, Try.ntmps41
        go_wp2_with (first | (go_at_call 45; refine (within_any _ _ _ _).mono ?_; rintro e w' ⟨rfl, rfl⟩) | (go_at_call 19; refine (validRing_any _ _ _ _ _).mono ?_; rintro e w1 ⟨rfl, hb1⟩; obtain ⟨hc1, hf1⟩ := bcell hb1; have hz1 := hb1.size; (try simp at hz1); have hz1_0 : w.heap.size < w1.heap.size := (by omega); have ha1 : Below w.heap.size w w1 := below_call (by repeat (first | exact Below.refl _ _ | assumption | refine Below.drew ?_ | refine below_drewN ?_ _ | refine Below.alloc ?_ (by first | omega | (simp; done) | (simp; omega)) _ | refine Below.setCell ?_ (by first | omega | (simp; done) | (simp; omega)) _)) hb1))
        refine (HJ.out _).mono ?_
        rintro e2 w2 ⟨rfl, hb2⟩
        obtain ⟨hc2, hf2⟩ := bcell hb2
        have hz2 := hb2.size
        try simp at hz2
        have hz2_0 : w.heap.size < w2.heap.size := by omega
        have ha2 : Below w.heap.size w w2 := below_call (by repeat (first | exact Below.refl _ _ | assumption | refine Below.drew ?_ | refine below_drewN ?_ _ | refine Below.alloc ?_ (by first | omega | (simp; done) | (simp; omega)) _ | refine Below.setCell ?_ (by first | omega | (simp; done) | (simp; omega)) _)) hb2
        go_wp2
        go_ret2
        exact ⟨by rw [HR.out]; rfl, (by repeat (first | exact Below.refl _ _ | assumption | refine Below.drew ?_ | refine below_drewN ?_ _ | refine Below.alloc ?_ (by first | omega | (simp; done) | (simp; omega)) _ | refine Below.setCell ?_ (by first | omega | (simp; done) | (simp; omega)) _))⟩
    · have h1' : inB m 1 100 = false := by simpa using h1
      have HR := Lib.hid (mustI_range hv h1')
      clear h1
      go_enter Try.func41, Try.ntmps41
      go_wp2_with fail
      refine (validRing_any _ _ _ _ _).mono ?_
      rintro e1 w1 ⟨rfl, hb1⟩
      obtain ⟨hc1, hf1⟩ := bcell hb1
      have hz1 := hb1.size
      try simp at hz1
      have hz1_0 : w.heap.size < w1.heap.size := by omega
      have ha1 : Below w.heap.size w w1 := below_call (by repeat (first | exact Below.refl _ _ | assumption | refine Below.drew ?_ | refine below_drewN ?_ _ | refine Below.alloc ?_ (by first | omega | (simp; done) | (simp; omega)) _ | refine Below.setCell ?_ (by first | omega | (simp; done) | (simp; omega)) _)) hb1
      go_wp2_with (go_at_call 45; refine (within_any _ _ _ _).mono ?_; rintro e w' ⟨rfl, rfl⟩)
      go_ret2
      exact ⟨by rw [HR.out]; rfl, (by repeat (first | exact Below.refl _ _ | assumption | refine Below.drew ?_ | refine below_drewN ?_ _ | refine Below.alloc ?_ (by first | omega | (simp; done) | (simp; omega)) _ | refine Below.setCell ?_ (by first | omega | (simp; done) | (simp; omega)) _))⟩
  · have hv' : ringB r d b j = false := by simpa using hv
    have HR := Lib.hid (mustI_bad (m := m) hv')
    clear hv
    go_enter Try.func41, Try.ntmps41
    go_wp2_with fail
    refine (validRing_any _ _ _ _ _).mono ?_
    rintro e1 w1 ⟨rfl, hb1⟩
    obtain ⟨hc1, hf1⟩ := bcell hb1
    have hz1 := hb1.size
    try simp at hz1
    have hz1_0 : w.heap.size < w1.heap.size := by omega
    have ha1 : Below w.heap.size w w1 := below_call (by repeat (first | exact Below.refl _ _ | assumption | refine Below.drew ?_ | refine below_drewN ?_ _ | refine Below.alloc ?_ (by first | omega | (simp; done) | (simp; omega)) _ | refine Below.setCell ?_ (by first | omega | (simp; done) | (simp; omega)) _)) hb1
    go_wp2
    go_ret2
    exact ⟨by rw [HR.out]; rfl, (by repeat (first | exact Below.refl _ _ | assumption | refine Below.drew ?_ | refine below_drewN ?_ _ | refine Below.alloc ?_ (by first | omega | (simp; done) | (simp; omega)) _ | refine Below.setCell ?_ (by first | omega | (simp; done) | (simp; omega)) _))⟩
set_option maxHeartbeats 1000000 in
theorem specMustTaper_any (r d b j m : Int) (w : World) :
    Calls Try.prog 43 #[.agg #[.int .i64 r, .int .i64 d, .int .i64 b, .int .i64 j], .int .i64 m] w fun e w' => e = .returned (.tuple #[.bool (mustI r d b j m).1, .int .i64 (mustI r d b j m).2]) ∧ Below w.heap.size w w' := by
  by_cases hv : ringB r d b j = true
  · by_cases h1 : inB m 1 100 = true
    · obtain ⟨b1, b2⟩ := inB_t h1
      obtain ⟨g1, g2, g3, g4, g5, g6, g7, g8⟩ := ringB_t hv
      rcases bricksInI_code r d b j with ⟨hc, _, hlo, hhi⟩ | hc
      · have HR := Lib.hid (mustI_yes hv h1 hc)
        have HJ := Lib.hid (l12Count_any r d b j)
        rw [hc] at HJ
        clear hc
        generalize (bricksInI r d b j).1 = n at *
        obtain ⟨d1, d2⟩ := jointD_bd (x := r + d) (b := b) hlo (show n ≤ 2000000 by omega)
        obtain ⟨m1, m2⟩ := mul_bd (a := m) (b := jointD (r + d) n b) (A := 100) (B := 226000000) (by omega) (by omega) (by omega) d2
        go_enter Try.func43, Try.ntmps43
        go_wp2_with (first | (go_at_call 48; refine (l00In_any _ _ _ _).mono ?_; rintro e w' ⟨rfl, rfl⟩) | (go_at_call 44; refine (l12Ok_any _ _ _ _ _).mono ?_; rintro e w1 ⟨rfl, hb1⟩; obtain ⟨hc1, hf1⟩ := bcell hb1; have hz1 := hb1.size; (try simp at hz1); have hz1_0 : w.heap.size < w1.heap.size := (by omega); have ha1 : Below w.heap.size w w1 := below_call (by repeat (first | exact Below.refl _ _ | assumption | refine Below.drew ?_ | refine below_drewN ?_ _ | refine Below.alloc ?_ (by first | omega | (simp; done) | (simp; omega)) _ | refine Below.setCell ?_ (by first | omega | (simp; done) | (simp; omega)) _)) hb1))
        refine (HJ.out _).mono ?_
        rintro e2 w2 ⟨rfl, hb2⟩
        have hy2 := hb2.size
        replace hb2 := below_call hb1 hb2
        clear hc1 hf1
        obtain ⟨hc2, hf2⟩ := bcell hb2
        have hz2 := hb2.size
        try simp at hz2
        have hz2_0 : w.heap.size < w2.heap.size := by omega
        have ha2 : Below w.heap.size w w2 := below_call (by repeat (first | exact Below.refl _ _ | assumption | refine Below.drew ?_ | refine below_drewN ?_ _ | refine Below.alloc ?_ (by first | omega | (simp; done) | (simp; omega)) _ | refine Below.setCell ?_ (by first | omega | (simp; done) | (simp; omega)) _)) hb2
        go_wp2_with fail
        refine (l12Joint_any _ _ _ _ (by omega) (by omega) (by omega) (by omega) (by omega) (by omega)).mono ?_
        rintro e3 w3 ⟨rfl, hb3⟩
        have hy3 := hb3.size
        replace hb3 := below_call hb2 hb3
        clear hc2 hf2
        obtain ⟨hc3, hf3⟩ := bcell hb3
        have hz3 := hb3.size
        try simp at hz3
        have hz3_0 : w.heap.size < w3.heap.size := by omega
        have ha3 : Below w.heap.size w w3 := below_call (by repeat (first | exact Below.refl _ _ | assumption | refine Below.drew ?_ | refine below_drewN ?_ _ | refine Below.alloc ?_ (by first | omega | (simp; done) | (simp; omega)) _ | refine Below.setCell ?_ (by first | omega | (simp; done) | (simp; omega)) _)) hb3
        go_wp2
        all_goals
          go_ret2
          exact ⟨by rw [HR.out]; rfl, (by repeat (first | exact Below.refl _ _ | assumption | refine Below.drew ?_ | refine below_drewN ?_ _ | refine Below.alloc ?_ (by first | omega | (simp; done) | (simp; omega)) _ | refine Below.setCell ?_ (by first | omega | (simp; done) | (simp; omega)) _))⟩
      · have HR := Lib.hid (mustI_no hv h1 hc)
        have HJ := Lib.hid (l12Count_any r d b j)
        generalize (bricksInI r d b j).1 = n at *
        generalize (bricksInI r d b j).2 = c at *
        have hc1 : (c != 0) = true := by simpa using hc
        clear hc
        go_enter Try.func43, Try.ntmps43
        go_wp2_with (first | (go_at_call 48; refine (l00In_any _ _ _ _).mono ?_; rintro e w' ⟨rfl, rfl⟩) | (go_at_call 44; refine (l12Ok_any _ _ _ _ _).mono ?_; rintro e w1 ⟨rfl, hb1⟩; obtain ⟨hc1, hf1⟩ := bcell hb1; have hz1 := hb1.size; (try simp at hz1); have hz1_0 : w.heap.size < w1.heap.size := (by omega); have ha1 : Below w.heap.size w w1 := below_call (by repeat (first | exact Below.refl _ _ | assumption | refine Below.drew ?_ | refine below_drewN ?_ _ | refine Below.alloc ?_ (by first | omega | (simp; done) | (simp; omega)) _ | refine Below.setCell ?_ (by first | omega | (simp; done) | (simp; omega)) _)) hb1))
        refine (HJ.out _).mono ?_
        rintro e2 w2 ⟨rfl, hb2⟩
        obtain ⟨hc2, hf2⟩ := bcell hb2
        have hz2 := hb2.size
        try simp at hz2
        have hz2_0 : w.heap.size < w2.heap.size := by omega
        have ha2 : Below w.heap.size w w2 := below_call (by repeat (first | exact Below.refl _ _ | assumption | refine Below.drew ?_ | refine below_drewN ?_ _ | refine Below.alloc ?_ (by first | omega | (simp; done) | (simp; omega)) _ | refine Below.setCell ?_ (by first | omega | (simp; done) | (simp; omega)) _)) hb2
        go_wp2
        go_ret2
        exact ⟨by rw [HR.out]; rfl, (by repeat (first | exact Below.refl _ _ | assumption | refine Below.drew ?_ | refine below_drewN ?_ _ | refine Below.alloc ?_ (by first | omega | (simp; done) | (simp; omega)) _ | refine Below.setCell ?_ (by first | omega | (simp; done) | (simp; omega)) _))⟩
    · have h1' : inB m 1 100 = false := by simpa using h1
      have HR := Lib.hid (mustI_range hv h1')
      clear h1
      go_enter Try.func43, Try.ntmps43
      go_wp2_with fail
      refine (l12Ok_any _ _ _ _ _).mono ?_
      rintro e1 w1 ⟨rfl, hb1⟩
      obtain ⟨hc1, hf1⟩ := bcell hb1
      have hz1 := hb1.size
      try simp at hz1
      have hz1_0 : w.heap.size < w1.heap.size := by omega
      have ha1 : Below w.heap.size w w1 := below_call (by repeat (first | exact Below.refl _ _ | assumption | refine Below.drew ?_ | refine below_drewN ?_ _ | refine Below.alloc ?_ (by first | omega | (simp; done) | (simp; omega)) _ | refine Below.setCell ?_ (by first | omega | (simp; done) | (simp; omega)) _)) hb1
      go_wp2_with (go_at_call 48; refine (l00In_any _ _ _ _).mono ?_; rintro e w' ⟨rfl, rfl⟩)
      go_ret2
      exact ⟨by rw [HR.out]; rfl, (by repeat (first | exact Below.refl _ _ | assumption | refine Below.drew ?_ | refine below_drewN ?_ _ | refine Below.alloc ?_ (by first | omega | (simp; done) | (simp; omega)) _ | refine Below.setCell ?_ (by first | omega | (simp; done) | (simp; omega)) _))⟩
  · have hv' : ringB r d b j = false := by simpa using hv
    have HR := Lib.hid (mustI_bad (m := m) hv')
    clear hv
    go_enter Try.func43, Try.ntmps43
    go_wp2_with fail
    refine (l12Ok_any _ _ _ _ _).mono ?_
    rintro e1 w1 ⟨rfl, hb1⟩
    obtain ⟨hc1, hf1⟩ := bcell hb1
    have hz1 := hb1.size
    try simp at hz1
    have hz1_0 : w.heap.size < w1.heap.size := by omega
    have ha1 : Below w.heap.size w w1 := below_call (by repeat (first | exact Below.refl _ _ | assumption | refine Below.drew ?_ | refine below_drewN ?_ _ | refine Below.alloc ?_ (by first | omega | (simp; done) | (simp; omega)) _ | refine Below.setCell ?_ (by first | omega | (simp; done) | (simp; omega)) _)) hb1
    go_wp2
    go_ret2
    exact ⟨by rw [HR.out]; rfl, (by repeat (first | exact Below.refl _ _ | assumption | refine Below.drew ?_ | refine below_drewN ?_ _ | refine Below.alloc ?_ (by first | omega | (simp; done) | (simp; omega)) _ | refine Below.setCell ?_ (by first | omega | (simp; done) | (simp; omega)) _))⟩
end Go.Proofs.Ytjafjkndigchcaa
