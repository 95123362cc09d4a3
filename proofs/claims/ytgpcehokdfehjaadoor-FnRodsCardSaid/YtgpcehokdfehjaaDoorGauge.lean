/- Contracts of the functions on storeys, courses and beds, program and reference: what each call returns, as plain functions on integers; no old memory turns. -/
import Derived.Test.YtgpcehokdfehjaaDoorFmt
namespace Go.Proofs.YtgpcehokdfehjaaDoor
open Go.RowKit

def storB (H c : Int) : Bool := inB H 100 6000 && inB c 1 40
theorem storB_t {H c : Int} (h : storB H c = true) : 100 ≤ H ∧ H ≤ 6000 ∧ 1 ≤ c ∧ c ≤ 40 := by
  simp only [storB, inB, Bool.and_eq_true, decide_eq_true_eq] at h; omega
set_option maxHeartbeats 400000 in
theorem isStorey_any (H c : Int) (w : World) :
    Calls Tryd.prog 26 #[.int .i64 H, .int .i64 c] w fun e w' => e = .returned (.bool (storB H c)) ∧ w = w' := by
  go_enter Tryd.func26, Tryd.ntmps26
  go_wp2_with (go_at_call 41; refine (within_any _ _ _ _).mono ?_; rintro e w' ⟨rfl, rfl⟩)
  all_goals
    go_ret
    exact ⟨ret_bool (by simp [storB, *]), rfl⟩
set_option maxHeartbeats 400000 in
theorem l10Height_any (n : Int) (w : World) :
    Calls Tryd.prog 45 #[.int .i64 n] w fun e w' => e = .returned (.bool (inB n 100 6000)) ∧ w = w' := by
  go_enter Tryd.func45, Tryd.ntmps45
  go_wp2_with (go_at_call 43; refine (l00In_any _ _ _ _).mono ?_; rintro e w' ⟨rfl, rfl⟩)
  go_ret
  exact ⟨rfl, rfl⟩
/-- The code of a height and a number of courses. -/
def storC (H c : Int) : Int := if storB H c then 0 else 2
set_option maxHeartbeats 400000 in
theorem l10Code_any (H c : Int) (w : World) :
    Calls Tryd.prog 23 #[.int .i64 H, .int .i64 c] w fun e w' => e = .returned (.int .i64 (storC H c)) ∧ w = w' := by
  cases h1 : inB H 100 6000 <;> cases h2 : inB c 1 40
  all_goals
    have HE := Lib.hid (show storC H c = if storB H c then 0 else 2 from rfl)
    go_enter Tryd.func23, Tryd.ntmps23
    go_wp2_with (first | (go_at_call 43; refine (l00In_any _ _ _ _).mono ?_; rintro e w' ⟨rfl, rfl⟩) | (go_at_call 45; refine (l10Height_any _ _).mono ?_; rintro e w' ⟨rfl, rfl⟩))
    go_ret
    exact ⟨ret_int (by rw [HE.out]; simp [storB, h1, h2]), rfl⟩
/-- The code of a format, a height and a number of courses. -/
def bedC (l d h j H c : Int) : Int := if fmtB l d h j then (if storB H c then (if H < c * h then 6 else 0) else 2) else 1
theorem bedC_bad {l d h j H c : Int} (g : fmtB l d h j = false) : bedC l d h j H c = 1 := by simp [bedC, g]
theorem bedC_range {l d h j H c : Int} (g : fmtB l d h j = true) (g1 : storB H c = false) : bedC l d h j H c = 2 := by simp [bedC, g, g1]
theorem bedC_state {l d h j H c : Int} (g : fmtB l d h j = true) (g1 : storB H c = true) (g2 : H < c * h) : bedC l d h j H c = 6 := by simp [bedC, g, g1, g2]
theorem bedC_ok {l d h j H c : Int} (g : fmtB l d h j = true) (g1 : storB H c = true) (g2 : ¬ H < c * h) : bedC l d h j H c = 0 := by simp [bedC, g, g1, g2]
theorem bedC_cases (l d h j H c : Int) : (bedC l d h j H c = 0 ∧ fmtB l d h j = true ∧ storB H c = true ∧ c * h ≤ H) ∨ bedC l d h j H c ≠ 0 := by
  by_cases g : fmtB l d h j = true
  · by_cases g1 : storB H c = true
    · by_cases g2 : H < c * h
      · right; rw [bedC_state g g1 g2]; decide
      · left; exact ⟨bedC_ok g g1 g2, g, g1, by omega⟩
    · right; rw [bedC_range g (by simpa using g1)]; decide
  · right; rw [bedC_bad (by simpa using g)]; decide
set_option maxHeartbeats 1000000 in
theorem bedCode_any (l d h j H c : Int) (w : World) :
    Calls Tryd.prog 33 #[.agg #[.int .i64 l, .int .i64 d, .int .i64 h, .int .i64 j], .int .i64 H, .int .i64 c] w fun e w' => e = .returned (.int .i64 (bedC l d h j H c)) ∧ Below w.heap.size w w' := by
  by_cases g : fmtB l d h j = true
  · obtain ⟨_, _, _, _, h3, h4, _, _, _⟩ := fmtB_t g
    by_cases g1 : storB H c = true
    · obtain ⟨s1, s2, s3, s4⟩ := storB_t g1
      obtain ⟨m1, m2⟩ := mul_bd (a := c) (b := h) (A := 40) (B := 150) (by omega) s4 (by omega) h4
      by_cases g2 : H < c * h
      · have HR := Lib.hid (bedC_state g g1 g2)
        go_enter Tryd.func33, Tryd.ntmps33
        go_wp2_with fail
        refine (validFormat_any _ _ _ _ _).mono ?_
        rintro e1 w1 ⟨rfl, hb1⟩
        obtain ⟨hc1, hf1⟩ := bcell hb1
        have hz1 := hb1.size
        try simp at hz1
        have hz1_0 : w.heap.size < w1.heap.size := by omega
        have ha1 : Below w.heap.size w w1 := below_call (by repeat (first | exact Below.refl _ _ | assumption | refine Below.drew ?_ | refine below_drewN ?_ _ | refine Below.alloc ?_ (by first | omega | (simp; done) | (simp; omega)) _ | refine Below.setCell ?_ (by first | omega | (simp; done) | (simp; omega)) _)) hb1
        go_wp2_with (go_at_call 26; refine (isStorey_any _ _ _).mono ?_; rintro e w' ⟨rfl, rfl⟩)
        go_ret
        exact ⟨ret_int (by rw [HR.out]), (by repeat (first | exact Below.refl _ _ | assumption | refine Below.drew ?_ | refine below_drewN ?_ _ | refine Below.alloc ?_ (by first | omega | (simp; done) | (simp; omega)) _ | refine Below.setCell ?_ (by first | omega | (simp; done) | (simp; omega)) _))⟩
      · have HR := Lib.hid (bedC_ok g g1 g2)
        go_enter Tryd.func33, Tryd.ntmps33
        go_wp2_with fail
        refine (validFormat_any _ _ _ _ _).mono ?_
        rintro e1 w1 ⟨rfl, hb1⟩
        obtain ⟨hc1, hf1⟩ := bcell hb1
        have hz1 := hb1.size
        try simp at hz1
        have hz1_0 : w.heap.size < w1.heap.size := by omega
        have ha1 : Below w.heap.size w w1 := below_call (by repeat (first | exact Below.refl _ _ | assumption | refine Below.drew ?_ | refine below_drewN ?_ _ | refine Below.alloc ?_ (by first | omega | (simp; done) | (simp; omega)) _ | refine Below.setCell ?_ (by first | omega | (simp; done) | (simp; omega)) _)) hb1
        go_wp2_with (go_at_call 26; refine (isStorey_any _ _ _).mono ?_; rintro e w' ⟨rfl, rfl⟩)
        go_ret
        exact ⟨ret_int (by rw [HR.out]), (by repeat (first | exact Below.refl _ _ | assumption | refine Below.drew ?_ | refine below_drewN ?_ _ | refine Below.alloc ?_ (by first | omega | (simp; done) | (simp; omega)) _ | refine Below.setCell ?_ (by first | omega | (simp; done) | (simp; omega)) _))⟩
    · have g1' : storB H c = false := by simpa using g1
      have HR := Lib.hid (bedC_range g g1')
      clear g1
      go_enter Tryd.func33, Tryd.ntmps33
      go_wp2_with fail
      refine (validFormat_any _ _ _ _ _).mono ?_
      rintro e1 w1 ⟨rfl, hb1⟩
      obtain ⟨hc1, hf1⟩ := bcell hb1
      have hz1 := hb1.size
      try simp at hz1
      have hz1_0 : w.heap.size < w1.heap.size := by omega
      have ha1 : Below w.heap.size w w1 := below_call (by repeat (first | exact Below.refl _ _ | assumption | refine Below.drew ?_ | refine below_drewN ?_ _ | refine Below.alloc ?_ (by first | omega | (simp; done) | (simp; omega)) _ | refine Below.setCell ?_ (by first | omega | (simp; done) | (simp; omega)) _)) hb1
      go_wp2_with (go_at_call 26; refine (isStorey_any _ _ _).mono ?_; rintro e w' ⟨rfl, rfl⟩)
      go_ret
      exact ⟨ret_int (by rw [HR.out]), (by repeat (first | exact Below.refl _ _ | assumption | refine Below.drew ?_ | refine below_drewN ?_ _ | refine Below.alloc ?_ (by first | omega | (simp; done) | (simp; omega)) _ | refine Below.setCell ?_ (by first | omega | (simp; done) | (simp; omega)) _))⟩
  · have g' : fmtB l d h j = false := by simpa using g
    have HR := Lib.hid (bedC_bad (H := H) (c := c) g')
    clear g
    go_enter Tryd.func33, Tryd.ntmps33
    go_wp2_with fail
    refine (validFormat_any _ _ _ _ _).mono ?_
    rintro e1 w1 ⟨rfl, hb1⟩
    obtain ⟨hc1, hf1⟩ := bcell hb1
    have hz1 := hb1.size
    try simp at hz1
    have hz1_0 : w.heap.size < w1.heap.size := by omega
    have ha1 : Below w.heap.size w w1 := below_call (by repeat (first | exact Below.refl _ _ | assumption | refine Below.drew ?_ | refine below_drewN ?_ _ | refine Below.alloc ?_ (by first | omega | (simp; done) | (simp; omega)) _ | refine Below.setCell ?_ (by first | omega | (simp; done) | (simp; omega)) _)) hb1
    go_wp2
    go_ret
    exact ⟨ret_int (by rw [HR.out]), (by repeat (first | exact Below.refl _ _ | assumption | refine Below.drew ?_ | refine below_drewN ?_ _ | refine Below.alloc ?_ (by first | omega | (simp; done) | (simp; omega)) _ | refine Below.setCell ?_ (by first | omega | (simp; done) | (simp; omega)) _))⟩
set_option maxHeartbeats 1000000 in
theorem l10Bed_any (l d h j H c : Int) (w : World) :
    Calls Tryd.prog 34 #[.agg #[.int .i64 l, .int .i64 d, .int .i64 h, .int .i64 j], .int .i64 H, .int .i64 c] w fun e w' => e = .returned (.int .i64 (bedC l d h j H c)) ∧ Below w.heap.size w w' := by
  by_cases g : fmtB l d h j = true
  · obtain ⟨_, _, _, _, h3, h4, _, _, _⟩ := fmtB_t g
    by_cases g1 : storB H c = true
    · obtain ⟨s1, s2, s3, s4⟩ := storB_t g1
      obtain ⟨m1, m2⟩ := mul_bd (a := c) (b := h) (A := 40) (B := 150) (by omega) s4 (by omega) h4
      have HC := Lib.hid (show storC H c = 0 by simp [storC, g1])
      by_cases g2 : H < c * h
      · have HR := Lib.hid (bedC_state g g1 g2)
        go_enter Tryd.func34, Tryd.ntmps34
        go_wp2_with fail
        refine (l02Ok_any _ _ _ _ _).mono ?_
        rintro e1 w1 ⟨rfl, hb1⟩
        obtain ⟨hc1, hf1⟩ := bcell hb1
        have hz1 := hb1.size
        try simp at hz1
        have hz1_0 : w.heap.size < w1.heap.size := by omega
        have ha1 : Below w.heap.size w w1 := below_call (by repeat (first | exact Below.refl _ _ | assumption | refine Below.drew ?_ | refine below_drewN ?_ _ | refine Below.alloc ?_ (by first | omega | (simp; done) | (simp; omega)) _ | refine Below.setCell ?_ (by first | omega | (simp; done) | (simp; omega)) _)) hb1
        go_wp2_with (go_at_call 23; refine (l10Code_any _ _ _).mono ?_; rintro e w' ⟨rfl, rfl⟩; rw [HC.out])
        go_ret
        exact ⟨ret_int (by rw [HR.out]), (by repeat (first | exact Below.refl _ _ | assumption | refine Below.drew ?_ | refine below_drewN ?_ _ | refine Below.alloc ?_ (by first | omega | (simp; done) | (simp; omega)) _ | refine Below.setCell ?_ (by first | omega | (simp; done) | (simp; omega)) _))⟩
      · have HR := Lib.hid (bedC_ok g g1 g2)
        go_enter Tryd.func34, Tryd.ntmps34
        go_wp2_with fail
        refine (l02Ok_any _ _ _ _ _).mono ?_
        rintro e1 w1 ⟨rfl, hb1⟩
        obtain ⟨hc1, hf1⟩ := bcell hb1
        have hz1 := hb1.size
        try simp at hz1
        have hz1_0 : w.heap.size < w1.heap.size := by omega
        have ha1 : Below w.heap.size w w1 := below_call (by repeat (first | exact Below.refl _ _ | assumption | refine Below.drew ?_ | refine below_drewN ?_ _ | refine Below.alloc ?_ (by first | omega | (simp; done) | (simp; omega)) _ | refine Below.setCell ?_ (by first | omega | (simp; done) | (simp; omega)) _)) hb1
        go_wp2_with (go_at_call 23; refine (l10Code_any _ _ _).mono ?_; rintro e w' ⟨rfl, rfl⟩; rw [HC.out])
        go_ret
        exact ⟨ret_int (by rw [HR.out]), (by repeat (first | exact Below.refl _ _ | assumption | refine Below.drew ?_ | refine below_drewN ?_ _ | refine Below.alloc ?_ (by first | omega | (simp; done) | (simp; omega)) _ | refine Below.setCell ?_ (by first | omega | (simp; done) | (simp; omega)) _))⟩
    · have g1' : storB H c = false := by simpa using g1
      have HC := Lib.hid (show storC H c = 2 by simp [storC, g1'])
      have HR := Lib.hid (bedC_range g g1')
      clear g1
      go_enter Tryd.func34, Tryd.ntmps34
      go_wp2_with fail
      refine (l02Ok_any _ _ _ _ _).mono ?_
      rintro e1 w1 ⟨rfl, hb1⟩
      obtain ⟨hc1, hf1⟩ := bcell hb1
      have hz1 := hb1.size
      try simp at hz1
      have hz1_0 : w.heap.size < w1.heap.size := by omega
      have ha1 : Below w.heap.size w w1 := below_call (by repeat (first | exact Below.refl _ _ | assumption | refine Below.drew ?_ | refine below_drewN ?_ _ | refine Below.alloc ?_ (by first | omega | (simp; done) | (simp; omega)) _ | refine Below.setCell ?_ (by first | omega | (simp; done) | (simp; omega)) _)) hb1
      go_wp2_with (go_at_call 23; refine (l10Code_any _ _ _).mono ?_; rintro e w' ⟨rfl, rfl⟩; rw [HC.out])
      go_ret
      exact ⟨ret_int (by rw [HR.out]), (by repeat (first | exact Below.refl _ _ | assumption | refine Below.drew ?_ | refine below_drewN ?_ _ | refine Below.alloc ?_ (by first | omega | (simp; done) | (simp; omega)) _ | refine Below.setCell ?_ (by first | omega | (simp; done) | (simp; omega)) _))⟩
  · have g' : fmtB l d h j = false := by simpa using g
    have HR := Lib.hid (bedC_bad (H := H) (c := c) g')
    clear g
    go_enter Tryd.func34, Tryd.ntmps34
    go_wp2_with fail
    refine (l02Ok_any _ _ _ _ _).mono ?_
    rintro e1 w1 ⟨rfl, hb1⟩
    obtain ⟨hc1, hf1⟩ := bcell hb1
    have hz1 := hb1.size
    try simp at hz1
    have hz1_0 : w.heap.size < w1.heap.size := by omega
    have ha1 : Below w.heap.size w w1 := below_call (by repeat (first | exact Below.refl _ _ | assumption | refine Below.drew ?_ | refine below_drewN ?_ _ | refine Below.alloc ?_ (by first | omega | (simp; done) | (simp; omega)) _ | refine Below.setCell ?_ (by first | omega | (simp; done) | (simp; omega)) _)) hb1
    go_wp2
    go_ret
    exact ⟨ret_int (by rw [HR.out]), (by repeat (first | exact Below.refl _ _ | assumption | refine Below.drew ?_ | refine below_drewN ?_ _ | refine Below.alloc ?_ (by first | omega | (simp; done) | (simp; omega)) _ | refine Below.setCell ?_ (by first | omega | (simp; done) | (simp; omega)) _))⟩
/-- What BedOf returns. -/
def bedI (l d h j H c : Int) : Int × Int × Int := if bedC l d h j H c = 0 then (lwN (H - c * h) c, lwD (H - c * h) c, 0) else (0, 0, bedC l d h j H c)
theorem bedI_yes {l d h j H c : Int} (g : bedC l d h j H c = 0) : bedI l d h j H c = (lwN (H - c * h) c, lwD (H - c * h) c, 0) := if_pos g
theorem bedI_no {l d h j H c : Int} (g : bedC l d h j H c ≠ 0) : bedI l d h j H c = (0, 0, bedC l d h j H c) := if_neg g
set_option maxHeartbeats 1000000 in
theorem bedOf_any (l d h j H c : Int) (w : World) :
    Calls Tryd.prog 16 #[.agg #[.int .i64 l, .int .i64 d, .int .i64 h, .int .i64 j], .int .i64 H, .int .i64 c] w fun e w' => e = .returned (.tuple #[.agg #[.int .i64 (bedI l d h j H c).1, .int .i64 (bedI l d h j H c).2.1], .int .i64 (bedI l d h j H c).2.2]) ∧ Below w.heap.size w w' := by
  have HB := Lib.hid (bedCode_any l d h j H c)
  rcases bedC_cases l d h j H c with ⟨hc, g, g1, g2⟩ | hc
  · obtain ⟨_, _, _, _, h3, h4, _, _, _⟩ := fmtB_t g
    obtain ⟨s1, s2, s3, s4⟩ := storB_t g1
    obtain ⟨m1, m2⟩ := mul_bd (a := c) (b := h) (A := 40) (B := 150) (by omega) s4 (by omega) h4
    have HR := Lib.hid (bedI_yes hc)
    rw [hc] at HB
    clear hc
    go_enter Tryd.func16, Tryd.ntmps16
    go_wp2_with fail
    refine (HB.out _).mono ?_
    rintro e1 w1 ⟨rfl, hb1⟩
    obtain ⟨hc1, hf1⟩ := bcell hb1
    have hz1 := hb1.size
    try simp at hz1
    have hz1_0 : w.heap.size < w1.heap.size := by omega
    have hz1_1 : w.heap.size + 1 < w1.heap.size := by omega
    have ha1 : Below w.heap.size w w1 := below_call (by repeat (first | exact Below.refl _ _ | assumption | refine Below.drew ?_ | refine below_drewN ?_ _ | refine Below.alloc ?_ (by first | omega | (simp; done) | (simp; omega)) _ | refine Below.setCell ?_ (by first | omega | (simp; done) | (simp; omega)) _)) hb1
    go_wp2_with fail
    refine (lowest_any _ _ _ (by omega) (by omega) (by omega) (by omega)).mono ?_
    rintro e2 w2 ⟨rfl, hb2⟩
    have hy2 := hb2.size
    replace hb2 := below_call hb1 hb2
    clear hc1 hf1
    obtain ⟨hc2, hf2⟩ := bcell hb2
    have hz2 := hb2.size
    try simp at hz2
    have hz2_0 : w.heap.size < w2.heap.size := by omega
    have hz2_1 : w.heap.size + 1 < w2.heap.size := by omega
    have ha2 : Below w.heap.size w w2 := below_call (by repeat (first | exact Below.refl _ _ | assumption | refine Below.drew ?_ | refine below_drewN ?_ _ | refine Below.alloc ?_ (by first | omega | (simp; done) | (simp; omega)) _ | refine Below.setCell ?_ (by first | omega | (simp; done) | (simp; omega)) _)) hb2
    have r2_1_0 : w2.cell? ⟨w.heap.size + 1, 0, none⟩ = some (.int .i64 0) := by simp [hc2, go_sem]
    have r2_1_1 : w2.cell? ⟨w.heap.size + 1, 1, none⟩ = some (.int .i64 0) := by simp [hc2, go_sem]
    have q2_1_0 : w2.frozen? ⟨w.heap.size + 1, 0, none⟩ = false := by simp [hf2, go_sem]
    have q2_1_1 : w2.frozen? ⟨w.heap.size + 1, 1, none⟩ = false := by simp [hf2, go_sem]
    go_wp2
    refine bodyPost_ret (v := .tuple #[.agg #[.int .i64 (lwN (H - c * h) c), .int .i64 (lwD (H - c * h) c)], .int .i64 0]) (by simp [results, Tryd.results16, go_sem, *]) rfl ⟨by rw [HR.out], (by repeat (first | exact Below.refl _ _ | assumption | refine Below.drew ?_ | refine below_drewN ?_ _ | refine Below.alloc ?_ (by first | omega | (simp; done) | (simp; omega)) _ | refine Below.setCell ?_ (by first | omega | (simp; done) | (simp; omega)) _))⟩
  · have HR := Lib.hid (bedI_no hc)
    generalize bedC l d h j H c = x at *
    have hc1 : (x != 0) = true := by simpa using hc
    clear hc
    go_enter Tryd.func16, Tryd.ntmps16
    go_wp2_with fail
    refine (HB.out _).mono ?_
    rintro e1 w1 ⟨rfl, hb1⟩
    obtain ⟨hc1, hf1⟩ := bcell hb1
    have hz1 := hb1.size
    try simp at hz1
    have hz1_0 : w.heap.size < w1.heap.size := by omega
    have hz1_1 : w.heap.size + 1 < w1.heap.size := by omega
    have ha1 : Below w.heap.size w w1 := below_call (by repeat (first | exact Below.refl _ _ | assumption | refine Below.drew ?_ | refine below_drewN ?_ _ | refine Below.alloc ?_ (by first | omega | (simp; done) | (simp; omega)) _ | refine Below.setCell ?_ (by first | omega | (simp; done) | (simp; omega)) _)) hb1
    have r1_1_0 : w1.cell? ⟨w.heap.size + 1, 0, none⟩ = some (.int .i64 0) := by simp [hc1, go_sem]
    have r1_1_1 : w1.cell? ⟨w.heap.size + 1, 1, none⟩ = some (.int .i64 0) := by simp [hc1, go_sem]
    have q1_1_0 : w1.frozen? ⟨w.heap.size + 1, 0, none⟩ = false := by simp [hf1, go_sem]
    have q1_1_1 : w1.frozen? ⟨w.heap.size + 1, 1, none⟩ = false := by simp [hf1, go_sem]
    go_wp2
    refine bodyPost_ret (v := .tuple #[.agg #[.int .i64 0, .int .i64 0], .int .i64 x]) (by simp [results, Tryd.results16, go_sem, *]) rfl ⟨by rw [HR.out], (by repeat (first | exact Below.refl _ _ | assumption | refine Below.drew ?_ | refine below_drewN ?_ _ | refine Below.alloc ?_ (by first | omega | (simp; done) | (simp; omega)) _ | refine Below.setCell ?_ (by first | omega | (simp; done) | (simp; omega)) _))⟩
set_option maxHeartbeats 1000000 in
theorem specBedOf_any (l d h j H c : Int) (w : World) :
    Calls Tryd.prog 17 #[.agg #[.int .i64 l, .int .i64 d, .int .i64 h, .int .i64 j], .int .i64 H, .int .i64 c] w fun e w' => e = .returned (.tuple #[.agg #[.int .i64 (bedI l d h j H c).1, .int .i64 (bedI l d h j H c).2.1], .int .i64 (bedI l d h j H c).2.2]) ∧ Below w.heap.size w w' := by
  have HB := Lib.hid (l10Bed_any l d h j H c)
  rcases bedC_cases l d h j H c with ⟨hc, g, g1, g2⟩ | hc
  · obtain ⟨_, _, _, _, h3, h4, _, _, _⟩ := fmtB_t g
    obtain ⟨s1, s2, s3, s4⟩ := storB_t g1
    obtain ⟨m1, m2⟩ := mul_bd (a := c) (b := h) (A := 40) (B := 150) (by omega) s4 (by omega) h4
    have HR := Lib.hid (bedI_yes hc)
    rw [hc] at HB
    clear hc
    go_enter Tryd.func17, Tryd.ntmps17
    go_wp2_with fail
    refine (HB.out _).mono ?_
    rintro e1 w1 ⟨rfl, hb1⟩
    obtain ⟨hc1, hf1⟩ := bcell hb1
    have hz1 := hb1.size
    try simp at hz1
    have hz1_0 : w.heap.size < w1.heap.size := by omega
    have hz1_1 : w.heap.size + 1 < w1.heap.size := by omega
    have ha1 : Below w.heap.size w w1 := below_call (by repeat (first | exact Below.refl _ _ | assumption | refine Below.drew ?_ | refine below_drewN ?_ _ | refine Below.alloc ?_ (by first | omega | (simp; done) | (simp; omega)) _ | refine Below.setCell ?_ (by first | omega | (simp; done) | (simp; omega)) _)) hb1
    go_wp2_with fail
    refine (l02Make_any _ _ _ (by omega) (by omega) (by omega) (by omega)).mono ?_
    rintro e2 w2 ⟨rfl, hb2⟩
    have hy2 := hb2.size
    replace hb2 := below_call hb1 hb2
    clear hc1 hf1
    obtain ⟨hc2, hf2⟩ := bcell hb2
    have hz2 := hb2.size
    try simp at hz2
    have hz2_0 : w.heap.size < w2.heap.size := by omega
    have hz2_1 : w.heap.size + 1 < w2.heap.size := by omega
    have ha2 : Below w.heap.size w w2 := below_call (by repeat (first | exact Below.refl _ _ | assumption | refine Below.drew ?_ | refine below_drewN ?_ _ | refine Below.alloc ?_ (by first | omega | (simp; done) | (simp; omega)) _ | refine Below.setCell ?_ (by first | omega | (simp; done) | (simp; omega)) _)) hb2
    have r2_1_0 : w2.cell? ⟨w.heap.size + 1, 0, none⟩ = some (.int .i64 0) := by simp [hc2, go_sem]
    have r2_1_1 : w2.cell? ⟨w.heap.size + 1, 1, none⟩ = some (.int .i64 0) := by simp [hc2, go_sem]
    have q2_1_0 : w2.frozen? ⟨w.heap.size + 1, 0, none⟩ = false := by simp [hf2, go_sem]
    have q2_1_1 : w2.frozen? ⟨w.heap.size + 1, 1, none⟩ = false := by simp [hf2, go_sem]
    go_wp2
    refine bodyPost_ret (v := .tuple #[.agg #[.int .i64 (lwN (H - c * h) c), .int .i64 (lwD (H - c * h) c)], .int .i64 0]) (by simp [results, Tryd.results17, go_sem, *]) rfl ⟨by rw [HR.out], (by repeat (first | exact Below.refl _ _ | assumption | refine Below.drew ?_ | refine below_drewN ?_ _ | refine Below.alloc ?_ (by first | omega | (simp; done) | (simp; omega)) _ | refine Below.setCell ?_ (by first | omega | (simp; done) | (simp; omega)) _))⟩
  · have HR := Lib.hid (bedI_no hc)
    generalize bedC l d h j H c = x at *
    have hc1 : (x != 0) = true := by simpa using hc
    clear hc
    go_enter Tryd.func17, Tryd.ntmps17
    go_wp2_with fail
    refine (HB.out _).mono ?_
    rintro e1 w1 ⟨rfl, hb1⟩
    obtain ⟨hc1, hf1⟩ := bcell hb1
    have hz1 := hb1.size
    try simp at hz1
    have hz1_0 : w.heap.size < w1.heap.size := by omega
    have hz1_1 : w.heap.size + 1 < w1.heap.size := by omega
    have ha1 : Below w.heap.size w w1 := below_call (by repeat (first | exact Below.refl _ _ | assumption | refine Below.drew ?_ | refine below_drewN ?_ _ | refine Below.alloc ?_ (by first | omega | (simp; done) | (simp; omega)) _ | refine Below.setCell ?_ (by first | omega | (simp; done) | (simp; omega)) _)) hb1
    have r1_1_0 : w1.cell? ⟨w.heap.size + 1, 0, none⟩ = some (.int .i64 0) := by simp [hc1, go_sem]
    have r1_1_1 : w1.cell? ⟨w.heap.size + 1, 1, none⟩ = some (.int .i64 0) := by simp [hc1, go_sem]
    have q1_1_0 : w1.frozen? ⟨w.heap.size + 1, 0, none⟩ = false := by simp [hf1, go_sem]
    have q1_1_1 : w1.frozen? ⟨w.heap.size + 1, 1, none⟩ = false := by simp [hf1, go_sem]
    go_wp2
    refine bodyPost_ret (v := .tuple #[.agg #[.int .i64 0, .int .i64 0], .int .i64 x]) (by simp [results, Tryd.results17, go_sem, *]) rfl ⟨by rw [HR.out], (by repeat (first | exact Below.refl _ _ | assumption | refine Below.drew ?_ | refine below_drewN ?_ _ | refine Below.alloc ?_ (by first | omega | (simp; done) | (simp; omega)) _ | refine Below.setCell ?_ (by first | omega | (simp; done) | (simp; omega)) _))⟩
end Go.Proofs.YtgpcehokdfehjaaDoor
