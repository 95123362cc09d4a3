/- Contracts of the functions on the bricks of a square metre and on mortar, program and reference: what each call returns, as plain functions on integers; no old memory turns. -/
import Derived.Test.YtgnalhnbdpigdaaDoorPieceB
namespace Go.Proofs.YtgnalhnbdpigdaaDoor
open Go.RowKit

def metreI (l d h j : Int) : Int × Int × Int := if fmtB l d h j then (lwN 1000000 ((l + j) * (h + j)), lwD 1000000 ((l + j) * (h + j)), 0) else (0, 0, 1)
theorem metreI_yes {l d h j : Int} (h1 : fmtB l d h j = true) : metreI l d h j = (lwN 1000000 ((l + j) * (h + j)), lwD 1000000 ((l + j) * (h + j)), 0) := if_pos h1
theorem metreI_no {l d h j : Int} (h1 : fmtB l d h j = false) : metreI l d h j = (0, 0, 1) := by simp [metreI, h1]
set_option maxHeartbeats 1000000 in
theorem bricksForMetre_any (l d h j : Int) (w : World) :
    Calls Tryd.prog 22 #[.agg #[.int .i64 l, .int .i64 d, .int .i64 h, .int .i64 j]] w fun e w' => e = .returned (.tuple #[.agg #[.int .i64 (metreI l d h j).1, .int .i64 (metreI l d h j).2.1], .int .i64 (metreI l d h j).2.2]) ∧ Below w.heap.size w w' := by
  by_cases hv : fmtB l d h j = true
  · obtain ⟨h1, h2, _, _, h3, h4, h5, h6, _⟩ := fmtB_t hv
    obtain ⟨m1, m2⟩ := face_bd h1 h2 h3 h4 h5 h6
    have HR := Lib.hid (metreI_yes hv)
    go_enter Tryd.func22, Tryd.ntmps22
    go_wp2_with fail
    refine (validFormat_any _ _ _ _ _).mono ?_
    rintro e1 w1 ⟨rfl, hb1⟩
    obtain ⟨hc1, hf1⟩ := bcell hb1
    have hz1 := hb1.size
    try simp at hz1
    have hz1_0 : w.heap.size < w1.heap.size := by omega
    have hz1_1 : w.heap.size + 1 < w1.heap.size := by omega
    have ha1 : Below w.heap.size w w1 := below_call (by repeat (first | exact Below.refl _ _ | assumption | refine Below.drew ?_ | refine below_drewN ?_ _ | refine Below.alloc ?_ (by first | omega | (simp; done) | (simp; omega)) _ | refine Below.setCell ?_ (by first | omega | (simp; done) | (simp; omega)) _)) hb1
    go_wp2_with fail
    refine (face_any _ _ _ _ _ h1 h2 h3 h4 h5 h6).mono ?_
    rintro e2 w2 ⟨rfl, hb2⟩
    have hy2 := hb2.size
    replace hb2 := below_call hb1 hb2
    clear hc1 hf1
    obtain ⟨hc2, hf2⟩ := bcell hb2
    have hz2 := hb2.size
    try simp at hz2
    have hz2_0 : w.heap.size < w2.heap.size := by omega
    have hz2_1 : w.heap.size + 1 < w2.heap.size := by omega
    have ha2 : Below w.heap.size w w2 := below_call (by repeat (first | exact Below.refl _ _ | assumption | refine Below.drew ?_ | refine below_drewN ?_ _ | refine Below.alloc ?_ (by first | omega | (simp; done) | (simp; omega)) _ | refine Below.setCell ?_ (by first | omega | (simp; done) | (simp; omega)) _)) hb2
    go_wp2_with fail
    refine (lowest_any _ _ _ (by omega) (by omega) (by omega) (by omega)).mono ?_
    rintro e3 w3 ⟨rfl, hb3⟩
    have hy3 := hb3.size
    replace hb3 := below_call hb2 hb3
    clear hc2 hf2
    obtain ⟨hc3, hf3⟩ := bcell hb3
    have hz3 := hb3.size
    try simp at hz3
    have hz3_0 : w.heap.size < w3.heap.size := by omega
    have hz3_1 : w.heap.size + 1 < w3.heap.size := by omega
    have ha3 : Below w.heap.size w w3 := below_call (by repeat (first | exact Below.refl _ _ | assumption | refine Below.drew ?_ | refine below_drewN ?_ _ | refine Below.alloc ?_ (by first | omega | (simp; done) | (simp; omega)) _ | refine Below.setCell ?_ (by first | omega | (simp; done) | (simp; omega)) _)) hb3
    have r3_1_0 : w3.cell? ⟨w.heap.size + 1, 0, none⟩ = some (.int .i64 0) := by simp [hc3, go_sem]
    have r3_1_1 : w3.cell? ⟨w.heap.size + 1, 1, none⟩ = some (.int .i64 0) := by simp [hc3, go_sem]
    have q3_1_0 : w3.frozen? ⟨w.heap.size + 1, 0, none⟩ = false := by simp [hf3, go_sem]
    have q3_1_1 : w3.frozen? ⟨w.heap.size + 1, 1, none⟩ = false := by simp [hf3, go_sem]
    go_wp2
    refine bodyPost_ret (v := .tuple #[.agg #[.int .i64 (lwN 1000000 ((l + j) * (h + j))), .int .i64 (lwD 1000000 ((l + j) * (h + j)))], .int .i64 0]) (by simp [results, Tryd.results22, go_sem, *]) rfl ⟨by rw [HR.out], (by repeat (first | exact Below.refl _ _ | assumption | refine Below.drew ?_ | refine below_drewN ?_ _ | refine Below.alloc ?_ (by first | omega | (simp; done) | (simp; omega)) _ | refine Below.setCell ?_ (by first | omega | (simp; done) | (simp; omega)) _))⟩
  · have hv' : fmtB l d h j = false := by simpa using hv
    have HR := Lib.hid (metreI_no hv')
    clear hv
    go_enter Tryd.func22, Tryd.ntmps22
    go_wp2_with fail
    refine (validFormat_any _ _ _ _ _).mono ?_
    rintro e1 w1 ⟨rfl, hb1⟩
    obtain ⟨hc1, hf1⟩ := bcell hb1
    have hz1 := hb1.size
    try simp at hz1
    have hz1_0 : w.heap.size < w1.heap.size := by omega
    have hz1_1 : w.heap.size + 1 < w1.heap.size := by omega
    have ha1 : Below w.heap.size w w1 := below_call (by repeat (first | exact Below.refl _ _ | assumption | refine Below.drew ?_ | refine below_drewN ?_ _ | refine Below.alloc ?_ (by first | omega | (simp; done) | (simp; omega)) _ | refine Below.setCell ?_ (by first | omega | (simp; done) | (simp; omega)) _)) hb1
    have r1_1_0 : w1.cell? ⟨w.heap.size + 1, 0, none⟩ = some (.int .i64 0) := by simp [hc1, go_sem]
    have r1_1_1 : w1.cell? ⟨w.heap.size + 1, 1, none⟩ = some (.int .i64 0) := by simp [hc1, go_sem]
    have q1_1_0 : w1.frozen? ⟨w.heap.size + 1, 0, none⟩ = false := by simp [hf1, go_sem]
    have q1_1_1 : w1.frozen? ⟨w.heap.size + 1, 1, none⟩ = false := by simp [hf1, go_sem]
    go_wp2
    refine bodyPost_ret (v := .tuple #[.agg #[.int .i64 0, .int .i64 0], .int .i64 1]) (by simp [results, Tryd.results22, go_sem, *]) rfl ⟨by rw [HR.out], (by repeat (first | exact Below.refl _ _ | assumption | refine Below.drew ?_ | refine below_drewN ?_ _ | refine Below.alloc ?_ (by first | omega | (simp; done) | (simp; omega)) _ | refine Below.setCell ?_ (by first | omega | (simp; done) | (simp; omega)) _))⟩
set_option maxHeartbeats 1000000 in
theorem specBricksForMetre_any (l d h j : Int) (w : World) :
    Calls Tryd.prog 23 #[.agg #[.int .i64 l, .int .i64 d, .int .i64 h, .int .i64 j]] w fun e w' => e = .returned (.tuple #[.agg #[.int .i64 (metreI l d h j).1, .int .i64 (metreI l d h j).2.1], .int .i64 (metreI l d h j).2.2]) ∧ Below w.heap.size w w' := by
  by_cases hv : fmtB l d h j = true
  · obtain ⟨h1, h2, _, _, h3, h4, h5, h6, _⟩ := fmtB_t hv
    obtain ⟨m1, m2⟩ := face_bd h1 h2 h3 h4 h5 h6
    have HR := Lib.hid (metreI_yes hv)
    go_enter Tryd.func23, Tryd.ntmps23
    go_wp2_with fail
    refine (l02Ok_any _ _ _ _ _).mono ?_
    rintro e1 w1 ⟨rfl, hb1⟩
    obtain ⟨hc1, hf1⟩ := bcell hb1
    have hz1 := hb1.size
    try simp at hz1
    have hz1_0 : w.heap.size < w1.heap.size := by omega
    have hz1_1 : w.heap.size + 1 < w1.heap.size := by omega
    have ha1 : Below w.heap.size w w1 := below_call (by repeat (first | exact Below.refl _ _ | assumption | refine Below.drew ?_ | refine below_drewN ?_ _ | refine Below.alloc ?_ (by first | omega | (simp; done) | (simp; omega)) _ | refine Below.setCell ?_ (by first | omega | (simp; done) | (simp; omega)) _)) hb1
    go_wp2_with fail
    refine (l02Make_any _ _ _ (by omega) (by omega) (by omega) (by omega)).mono ?_
    rintro e3 w3 ⟨rfl, hb3⟩
    have hy3 := hb3.size
    replace hb3 := below_call hb1 hb3
    clear hc1 hf1
    obtain ⟨hc3, hf3⟩ := bcell hb3
    have hz3 := hb3.size
    try simp at hz3
    have hz3_0 : w.heap.size < w3.heap.size := by omega
    have hz3_1 : w.heap.size + 1 < w3.heap.size := by omega
    have ha3 : Below w.heap.size w w3 := below_call (by repeat (first | exact Below.refl _ _ | assumption | refine Below.drew ?_ | refine below_drewN ?_ _ | refine Below.alloc ?_ (by first | omega | (simp; done) | (simp; omega)) _ | refine Below.setCell ?_ (by first | omega | (simp; done) | (simp; omega)) _)) hb3
    have r3_1_0 : w3.cell? ⟨w.heap.size + 1, 0, none⟩ = some (.int .i64 0) := by simp [hc3, go_sem]
    have r3_1_1 : w3.cell? ⟨w.heap.size + 1, 1, none⟩ = some (.int .i64 0) := by simp [hc3, go_sem]
    have q3_1_0 : w3.frozen? ⟨w.heap.size + 1, 0, none⟩ = false := by simp [hf3, go_sem]
    have q3_1_1 : w3.frozen? ⟨w.heap.size + 1, 1, none⟩ = false := by simp [hf3, go_sem]
    go_wp2
    refine bodyPost_ret (v := .tuple #[.agg #[.int .i64 (lwN 1000000 ((l + j) * (h + j))), .int .i64 (lwD 1000000 ((l + j) * (h + j)))], .int .i64 0]) (by simp [results, Tryd.results23, go_sem, *]) rfl ⟨by rw [HR.out], (by repeat (first | exact Below.refl _ _ | assumption | refine Below.drew ?_ | refine below_drewN ?_ _ | refine Below.alloc ?_ (by first | omega | (simp; done) | (simp; omega)) _ | refine Below.setCell ?_ (by first | omega | (simp; done) | (simp; omega)) _))⟩
  · have hv' : fmtB l d h j = false := by simpa using hv
    have HR := Lib.hid (metreI_no hv')
    clear hv
    go_enter Tryd.func23, Tryd.ntmps23
    go_wp2_with fail
    refine (l02Ok_any _ _ _ _ _).mono ?_
    rintro e1 w1 ⟨rfl, hb1⟩
    obtain ⟨hc1, hf1⟩ := bcell hb1
    have hz1 := hb1.size
    try simp at hz1
    have hz1_0 : w.heap.size < w1.heap.size := by omega
    have hz1_1 : w.heap.size + 1 < w1.heap.size := by omega
    have ha1 : Below w.heap.size w w1 := below_call (by repeat (first | exact Below.refl _ _ | assumption | refine Below.drew ?_ | refine below_drewN ?_ _ | refine Below.alloc ?_ (by first | omega | (simp; done) | (simp; omega)) _ | refine Below.setCell ?_ (by first | omega | (simp; done) | (simp; omega)) _)) hb1
    have r1_1_0 : w1.cell? ⟨w.heap.size + 1, 0, none⟩ = some (.int .i64 0) := by simp [hc1, go_sem]
    have r1_1_1 : w1.cell? ⟨w.heap.size + 1, 1, none⟩ = some (.int .i64 0) := by simp [hc1, go_sem]
    have q1_1_0 : w1.frozen? ⟨w.heap.size + 1, 0, none⟩ = false := by simp [hf1, go_sem]
    have q1_1_1 : w1.frozen? ⟨w.heap.size + 1, 1, none⟩ = false := by simp [hf1, go_sem]
    go_wp2
    refine bodyPost_ret (v := .tuple #[.agg #[.int .i64 0, .int .i64 0], .int .i64 1]) (by simp [results, Tryd.results23, go_sem, *]) rfl ⟨by rw [HR.out], (by repeat (first | exact Below.refl _ _ | assumption | refine Below.drew ?_ | refine below_drewN ?_ _ | refine Below.alloc ?_ (by first | omega | (simp; done) | (simp; omega)) _ | refine Below.setCell ?_ (by first | omega | (simp; done) | (simp; omega)) _))⟩

def volI (l d h j : Int) : Int × Int × Int := if fmtB l d h j then (l * d * h, (l + j) * (d + j) * (h + j), 0) else (0, 0, 1)
theorem volI_yes {l d h j : Int} (h1 : fmtB l d h j = true) : volI l d h j = (l * d * h, (l + j) * (d + j) * (h + j), 0) := if_pos h1
theorem volI_no {l d h j : Int} (h1 : fmtB l d h j = false) : volI l d h j = (0, 0, 1) := by simp [volI, h1]
theorem volume_bd {l d h j : Int} (h1 : 100 ≤ l) (h2 : l ≤ 500) (h7 : 50 ≤ d) (h8 : d ≤ 250) (h3 : 30 ≤ h) (h4 : h ≤ 150) (h5 : 0 ≤ j) (h6 : j ≤ 20) :
    (0 ≤ l * d ∧ l * d ≤ 125000) ∧ (0 ≤ l * d * h ∧ l * d * h ≤ 18750000) ∧ (0 ≤ (l + j) * (d + j) ∧ (l + j) * (d + j) ≤ 140400) ∧ (0 ≤ (l + j) * (d + j) * (h + j) ∧ (l + j) * (d + j) * (h + j) ≤ 23868000) ∧ l * d * h ≤ (l + j) * (d + j) * (h + j) := by
  have a := mul_bd (a := l) (b := d) (A := 500) (B := 250) (by omega) (by omega) (by omega) (by omega)
  have b := mul_bd (a := l * d) (b := h) (A := 125000) (B := 150) (by omega) (by omega) (by omega) (by omega)
  have c := mul_bd (a := l + j) (b := d + j) (A := 520) (B := 270) (by omega) (by omega) (by omega) (by omega)
  have e := mul_bd (a := (l + j) * (d + j)) (b := h + j) (A := 140400) (B := 170) (by omega) (by omega) (by omega) (by omega)
  have f : l * d ≤ (l + j) * (d + j) := Int.mul_le_mul (by omega) (by omega) (by omega) (by omega)
  have g : l * d * h ≤ (l + j) * (d + j) * (h + j) := Int.mul_le_mul f (by omega) (by omega) (by omega)
  omega
set_option maxHeartbeats 2000000 in
theorem volumeOf_any (l d h j : Int) (w : World) :
    Calls Tryd.prog 59 #[.agg #[.int .i64 l, .int .i64 d, .int .i64 h, .int .i64 j]] w fun e w' => e = .returned (.tuple #[.int .i64 (volI l d h j).1, .int .i64 (volI l d h j).2.1, .int .i64 (volI l d h j).2.2]) ∧ Below w.heap.size w w' := by
  by_cases hv : fmtB l d h j = true
  · obtain ⟨h1, h2, h7, h8, h3, h4, h5, h6, _⟩ := fmtB_t hv
    obtain ⟨⟨m1, m2⟩, ⟨m3, m4⟩, ⟨m5, m6⟩, ⟨m7, m8⟩, _⟩ := volume_bd h1 h2 h7 h8 h3 h4 h5 h6
    have HR := Lib.hid (volI_yes hv)
    go_enter Tryd.func59, Tryd.ntmps59
    go_wp2_with fail
    refine (validFormat_any _ _ _ _ _).mono ?_
    rintro e1 w1 ⟨rfl, hb1⟩
    obtain ⟨hc1, hf1⟩ := bcell hb1
    have hz1 := hb1.size
    try simp at hz1
    have hz1_0 : w.heap.size < w1.heap.size := by omega
    have ha1 : Below w.heap.size w w1 := below_call (by repeat (first | exact Below.refl _ _ | assumption | refine Below.drew ?_ | refine below_drewN ?_ _ | refine Below.alloc ?_ (by first | omega | (simp; done) | (simp; omega)) _ | refine Below.setCell ?_ (by first | omega | (simp; done) | (simp; omega)) _)) hb1
    go_wp2_with fail
    have d1 := IntWalk.i64_in (l * d) (by omega)
    have d2 := IntWalk.i64_in (l * d * h) (by omega)
    have d3 := IntWalk.i64_in ((l + j) * (d + j)) (by omega)
    have d4 := IntWalk.i64_in ((l + j) * (d + j) * (h + j)) (by omega)
    have d5 := IntWalk.i64_in (l + j) (by omega)
    have d6 := IntWalk.i64_in (d + j) (by omega)
    have d7 := IntWalk.i64_in (h + j) (by omega)
    go_quiet (fail)
    clear d1 d2 d3 d4 d5 d6 d7
    go_wp2
    go_ret3
    exact ⟨by rw [HR.out]; rfl, (by repeat (first | exact Below.refl _ _ | assumption | refine Below.drew ?_ | refine below_drewN ?_ _ | refine Below.alloc ?_ (by first | omega | (simp; done) | (simp; omega)) _ | refine Below.setCell ?_ (by first | omega | (simp; done) | (simp; omega)) _))⟩
  · have hv' : fmtB l d h j = false := by simpa using hv
    have HR := Lib.hid (volI_no hv')
    clear hv
    go_enter Tryd.func59, Tryd.ntmps59
    go_wp2_with fail
    refine (validFormat_any _ _ _ _ _).mono ?_
    rintro e1 w1 ⟨rfl, hb1⟩
    obtain ⟨hc1, hf1⟩ := bcell hb1
    have hz1 := hb1.size
    try simp at hz1
    have hz1_0 : w.heap.size < w1.heap.size := by omega
    have ha1 : Below w.heap.size w w1 := below_call (by repeat (first | exact Below.refl _ _ | assumption | refine Below.drew ?_ | refine below_drewN ?_ _ | refine Below.alloc ?_ (by first | omega | (simp; done) | (simp; omega)) _ | refine Below.setCell ?_ (by first | omega | (simp; done) | (simp; omega)) _)) hb1
    go_wp2
    go_ret3
    exact ⟨by rw [HR.out]; rfl, (by repeat (first | exact Below.refl _ _ | assumption | refine Below.drew ?_ | refine below_drewN ?_ _ | refine Below.alloc ?_ (by first | omega | (simp; done) | (simp; omega)) _ | refine Below.setCell ?_ (by first | omega | (simp; done) | (simp; omega)) _))⟩

def mortarI (l d h j b : Int) : Int × Int × Int := if fmtB l d h j then (if inB b 0 1000000 then (lwN (((l + j) * (d + j) * (h + j) - l * d * h) * b) 1000000, lwD (((l + j) * (d + j) * (h + j) - l * d * h) * b) 1000000, 0) else (0, 0, 2)) else (0, 0, 1)
theorem mortarI_yes {l d h j b : Int} (h1 : fmtB l d h j = true) (h2 : inB b 0 1000000 = true) : mortarI l d h j b = (lwN (((l + j) * (d + j) * (h + j) - l * d * h) * b) 1000000, lwD (((l + j) * (d + j) * (h + j) - l * d * h) * b) 1000000, 0) := by simp [mortarI, h1, h2]
theorem mortarI_range {l d h j b : Int} (h1 : fmtB l d h j = true) (h2 : inB b 0 1000000 = false) : mortarI l d h j b = (0, 0, 2) := by simp [mortarI, h1, h2]
theorem mortarI_no {l d h j b : Int} (h1 : fmtB l d h j = false) : mortarI l d h j b = (0, 0, 1) := by simp [mortarI, h1]
set_option maxHeartbeats 2000000 in
theorem mortarFor_any (l d h j b : Int) (w : World) :
    Calls Tryd.prog 25 #[.agg #[.int .i64 l, .int .i64 d, .int .i64 h, .int .i64 j], .int .i64 b] w fun e w' => e = .returned (.tuple #[.agg #[.int .i64 (mortarI l d h j b).1, .int .i64 (mortarI l d h j b).2.1], .int .i64 (mortarI l d h j b).2.2]) ∧ Below w.heap.size w w' := by
  have HB := Lib.hid (volumeOf_any l d h j)
  by_cases hv : fmtB l d h j = true
  · rw [volI_yes hv] at HB
    obtain ⟨h1, h2, h7, h8, h3, h4, h5, h6, _⟩ := fmtB_t hv
    obtain ⟨_, ⟨m3, m4⟩, _, ⟨m7, m8⟩, m9⟩ := volume_bd h1 h2 h7 h8 h3 h4 h5 h6
    by_cases hb : inB b 0 1000000 = true
    · obtain ⟨b1, b2⟩ := inB_t hb
      have HR := Lib.hid (mortarI_yes hv hb)
      generalize (l + j) * (d + j) * (h + j) = X at *
      generalize l * d * h = Y at *
      obtain ⟨n1, n2⟩ := mul_bd (a := X - Y) (b := b) (A := 23868000) (B := 1000000) (by omega) (by omega) b1 b2
      go_enter Tryd.func25, Tryd.ntmps25
      go_wp2_with fail
      refine (HB.out _).mono ?_
      rintro e1 w1 ⟨rfl, hb1⟩
      obtain ⟨hc1, hf1⟩ := bcell hb1
      have hz1 := hb1.size
      try simp at hz1
      have hz1_0 : w.heap.size < w1.heap.size := by omega
      have hz1_1 : w.heap.size + 1 < w1.heap.size := by omega
      have ha1 : Below w.heap.size w w1 := below_call (by repeat (first | exact Below.refl _ _ | assumption | refine Below.drew ?_ | refine below_drewN ?_ _ | refine Below.alloc ?_ (by first | omega | (simp; done) | (simp; omega)) _ | refine Below.setCell ?_ (by first | omega | (simp; done) | (simp; omega)) _)) hb1
      go_wp2_with (go_at_call 48; refine (isOrder_any _ _).mono ?_; rintro e w' ⟨rfl, rfl⟩)
      refine (lowest_any _ _ _ (by omega) (by omega) (by omega) (by omega)).mono ?_
      rintro e2 w2 ⟨rfl, hb2⟩
      have hy2 := hb2.size
      replace hb2 := below_call hb1 hb2
      clear hc1 hf1
      obtain ⟨hc2, hf2⟩ := bcell hb2
      have hz2 := hb2.size
      try simp at hz2
      have hz2_0 : w.heap.size < w2.heap.size := by omega
      have hz2_1 : w.heap.size + 1 < w2.heap.size := by omega
      have ha2 : Below w.heap.size w w2 := below_call (by repeat (first | exact Below.refl _ _ | assumption | refine Below.drew ?_ | refine below_drewN ?_ _ | refine Below.alloc ?_ (by first | omega | (simp; done) | (simp; omega)) _ | refine Below.setCell ?_ (by first | omega | (simp; done) | (simp; omega)) _)) hb2
      have r2_1_0 : w2.cell? ⟨w.heap.size + 1, 0, none⟩ = some (.int .i64 0) := by simp [hc2, go_sem]
      have r2_1_1 : w2.cell? ⟨w.heap.size + 1, 1, none⟩ = some (.int .i64 0) := by simp [hc2, go_sem]
      have q2_1_0 : w2.frozen? ⟨w.heap.size + 1, 0, none⟩ = false := by simp [hf2, go_sem]
      have q2_1_1 : w2.frozen? ⟨w.heap.size + 1, 1, none⟩ = false := by simp [hf2, go_sem]
      go_wp2
      refine bodyPost_ret (v := .tuple #[.agg #[.int .i64 (lwN ((X - Y) * b) 1000000), .int .i64 (lwD ((X - Y) * b) 1000000)], .int .i64 0]) (by simp [results, Tryd.results25, go_sem, *]) rfl ⟨by rw [HR.out], (by repeat (first | exact Below.refl _ _ | assumption | refine Below.drew ?_ | refine below_drewN ?_ _ | refine Below.alloc ?_ (by first | omega | (simp; done) | (simp; omega)) _ | refine Below.setCell ?_ (by first | omega | (simp; done) | (simp; omega)) _))⟩
    · have hb' : inB b 0 1000000 = false := by simpa using hb
      have HR := Lib.hid (mortarI_range hv hb')
      generalize (l + j) * (d + j) * (h + j) = X at *
      generalize l * d * h = Y at *
      clear hb
      go_enter Tryd.func25, Tryd.ntmps25
      go_wp2_with fail
      refine (HB.out _).mono ?_
      rintro e1 w1 ⟨rfl, hb1⟩
      obtain ⟨hc1, hf1⟩ := bcell hb1
      have hz1 := hb1.size
      try simp at hz1
      have hz1_0 : w.heap.size < w1.heap.size := by omega
      have hz1_1 : w.heap.size + 1 < w1.heap.size := by omega
      have ha1 : Below w.heap.size w w1 := below_call (by repeat (first | exact Below.refl _ _ | assumption | refine Below.drew ?_ | refine below_drewN ?_ _ | refine Below.alloc ?_ (by first | omega | (simp; done) | (simp; omega)) _ | refine Below.setCell ?_ (by first | omega | (simp; done) | (simp; omega)) _)) hb1
      have r1_1_0 : w1.cell? ⟨w.heap.size + 1, 0, none⟩ = some (.int .i64 0) := by simp [hc1, go_sem]
      have r1_1_1 : w1.cell? ⟨w.heap.size + 1, 1, none⟩ = some (.int .i64 0) := by simp [hc1, go_sem]
      have q1_1_0 : w1.frozen? ⟨w.heap.size + 1, 0, none⟩ = false := by simp [hf1, go_sem]
      have q1_1_1 : w1.frozen? ⟨w.heap.size + 1, 1, none⟩ = false := by simp [hf1, go_sem]
      go_wp2_with (go_at_call 48; refine (isOrder_any _ _).mono ?_; rintro e w' ⟨rfl, rfl⟩)
      refine bodyPost_ret (v := .tuple #[.agg #[.int .i64 0, .int .i64 0], .int .i64 2]) (by simp [results, Tryd.results25, go_sem, *]) rfl ⟨by rw [HR.out], (by repeat (first | exact Below.refl _ _ | assumption | refine Below.drew ?_ | refine below_drewN ?_ _ | refine Below.alloc ?_ (by first | omega | (simp; done) | (simp; omega)) _ | refine Below.setCell ?_ (by first | omega | (simp; done) | (simp; omega)) _))⟩
  · have hv' : fmtB l d h j = false := by simpa using hv
    rw [volI_no hv'] at HB
    have HR := Lib.hid (mortarI_no (b := b) hv')
    clear hv
    go_enter Tryd.func25, Tryd.ntmps25
    go_wp2_with fail
    refine (HB.out _).mono ?_
    rintro e1 w1 ⟨rfl, hb1⟩
    obtain ⟨hc1, hf1⟩ := bcell hb1
    have hz1 := hb1.size
    try simp at hz1
    have hz1_0 : w.heap.size < w1.heap.size := by omega
    have hz1_1 : w.heap.size + 1 < w1.heap.size := by omega
    have ha1 : Below w.heap.size w w1 := below_call (by repeat (first | exact Below.refl _ _ | assumption | refine Below.drew ?_ | refine below_drewN ?_ _ | refine Below.alloc ?_ (by first | omega | (simp; done) | (simp; omega)) _ | refine Below.setCell ?_ (by first | omega | (simp; done) | (simp; omega)) _)) hb1
    have r1_1_0 : w1.cell? ⟨w.heap.size + 1, 0, none⟩ = some (.int .i64 0) := by simp [hc1, go_sem]
    have r1_1_1 : w1.cell? ⟨w.heap.size + 1, 1, none⟩ = some (.int .i64 0) := by simp [hc1, go_sem]
    have q1_1_0 : w1.frozen? ⟨w.heap.size + 1, 0, none⟩ = false := by simp [hf1, go_sem]
    have q1_1_1 : w1.frozen? ⟨w.heap.size + 1, 1, none⟩ = false := by simp [hf1, go_sem]
    go_wp2
    refine bodyPost_ret (v := .tuple #[.agg #[.int .i64 0, .int .i64 0], .int .i64 1]) (by simp [results, Tryd.results25, go_sem, *]) rfl ⟨by rw [HR.out], (by repeat (first | exact Below.refl _ _ | assumption | refine Below.drew ?_ | refine below_drewN ?_ _ | refine Below.alloc ?_ (by first | omega | (simp; done) | (simp; omega)) _ | refine Below.setCell ?_ (by first | omega | (simp; done) | (simp; omega)) _))⟩
set_option maxHeartbeats 2000000 in
theorem specMortarFor_any (l d h j b : Int) (w : World) :
    Calls Tryd.prog 26 #[.agg #[.int .i64 l, .int .i64 d, .int .i64 h, .int .i64 j], .int .i64 b] w fun e w' => e = .returned (.tuple #[.agg #[.int .i64 (mortarI l d h j b).1, .int .i64 (mortarI l d h j b).2.1], .int .i64 (mortarI l d h j b).2.2]) ∧ Below w.heap.size w w' := by
  by_cases hv : fmtB l d h j = true
  · obtain ⟨h1, h2, h7, h8, h3, h4, h5, h6, _⟩ := fmtB_t hv
    obtain ⟨⟨m1, m2⟩, ⟨m3, m4⟩, ⟨m5, m6⟩, ⟨m7, m8⟩, m9⟩ := volume_bd h1 h2 h7 h8 h3 h4 h5 h6
    by_cases hb : inB b 0 1000000 = true
    · obtain ⟨b1, b2⟩ := inB_t hb
      have HR := Lib.hid (mortarI_yes hv hb)
      obtain ⟨n1, n2⟩ := mul_bd (a := (l + j) * (d + j) * (h + j) - l * d * h) (b := b) (A := 23868000) (B := 1000000) (by omega) (by omega) b1 b2
      go_enter Tryd.func26, Tryd.ntmps26
      go_wp2_with fail
      refine (l02Ok_any _ _ _ _ _).mono ?_
      rintro e1 w1 ⟨rfl, hb1⟩
      obtain ⟨hc1, hf1⟩ := bcell hb1
      have hz1 := hb1.size
      try simp at hz1
      have hz1_0 : w.heap.size < w1.heap.size := by omega
      have hz1_1 : w.heap.size + 1 < w1.heap.size := by omega
      have ha1 : Below w.heap.size w w1 := below_call (by repeat (first | exact Below.refl _ _ | assumption | refine Below.drew ?_ | refine below_drewN ?_ _ | refine Below.alloc ?_ (by first | omega | (simp; done) | (simp; omega)) _ | refine Below.setCell ?_ (by first | omega | (simp; done) | (simp; omega)) _)) hb1
      go_wp2_with (go_at_call 49; refine (l11Many_any _ _).mono ?_; rintro e w' ⟨rfl, rfl⟩)
      refine (l02Make_any _ _ _ (by omega) (by omega) (by omega) (by omega)).mono ?_
      rintro e2 w2 ⟨rfl, hb2⟩
      have hy2 := hb2.size
      replace hb2 := below_call hb1 hb2
      clear hc1 hf1
      obtain ⟨hc2, hf2⟩ := bcell hb2
      have hz2 := hb2.size
      try simp at hz2
      have hz2_0 : w.heap.size < w2.heap.size := by omega
      have hz2_1 : w.heap.size + 1 < w2.heap.size := by omega
      have ha2 : Below w.heap.size w w2 := below_call (by repeat (first | exact Below.refl _ _ | assumption | refine Below.drew ?_ | refine below_drewN ?_ _ | refine Below.alloc ?_ (by first | omega | (simp; done) | (simp; omega)) _ | refine Below.setCell ?_ (by first | omega | (simp; done) | (simp; omega)) _)) hb2
      have r2_1_0 : w2.cell? ⟨w.heap.size + 1, 0, none⟩ = some (.int .i64 0) := by simp [hc2, go_sem]
      have r2_1_1 : w2.cell? ⟨w.heap.size + 1, 1, none⟩ = some (.int .i64 0) := by simp [hc2, go_sem]
      have q2_1_0 : w2.frozen? ⟨w.heap.size + 1, 0, none⟩ = false := by simp [hf2, go_sem]
      have q2_1_1 : w2.frozen? ⟨w.heap.size + 1, 1, none⟩ = false := by simp [hf2, go_sem]
      go_wp2
      refine bodyPost_ret (v := .tuple #[.agg #[.int .i64 (lwN (((l + j) * (d + j) * (h + j) - l * d * h) * b) 1000000), .int .i64 (lwD (((l + j) * (d + j) * (h + j) - l * d * h) * b) 1000000)], .int .i64 0]) (by simp [results, Tryd.results26, go_sem, *]) rfl ⟨by rw [HR.out], (by repeat (first | exact Below.refl _ _ | assumption | refine Below.drew ?_ | refine below_drewN ?_ _ | refine Below.alloc ?_ (by first | omega | (simp; done) | (simp; omega)) _ | refine Below.setCell ?_ (by first | omega | (simp; done) | (simp; omega)) _))⟩
    · have hb' : inB b 0 1000000 = false := by simpa using hb
      have HR := Lib.hid (mortarI_range hv hb')
      clear hb
      go_enter Tryd.func26, Tryd.ntmps26
      go_wp2_with fail
      refine (l02Ok_any _ _ _ _ _).mono ?_
      rintro e1 w1 ⟨rfl, hb1⟩
      obtain ⟨hc1, hf1⟩ := bcell hb1
      have hz1 := hb1.size
      try simp at hz1
      have hz1_0 : w.heap.size < w1.heap.size := by omega
      have hz1_1 : w.heap.size + 1 < w1.heap.size := by omega
      have ha1 : Below w.heap.size w w1 := below_call (by repeat (first | exact Below.refl _ _ | assumption | refine Below.drew ?_ | refine below_drewN ?_ _ | refine Below.alloc ?_ (by first | omega | (simp; done) | (simp; omega)) _ | refine Below.setCell ?_ (by first | omega | (simp; done) | (simp; omega)) _)) hb1
      have r1_1_0 : w1.cell? ⟨w.heap.size + 1, 0, none⟩ = some (.int .i64 0) := by simp [hc1, go_sem]
      have r1_1_1 : w1.cell? ⟨w.heap.size + 1, 1, none⟩ = some (.int .i64 0) := by simp [hc1, go_sem]
      have q1_1_0 : w1.frozen? ⟨w.heap.size + 1, 0, none⟩ = false := by simp [hf1, go_sem]
      have q1_1_1 : w1.frozen? ⟨w.heap.size + 1, 1, none⟩ = false := by simp [hf1, go_sem]
      go_wp2_with (go_at_call 49; refine (l11Many_any _ _).mono ?_; rintro e w' ⟨rfl, rfl⟩)
      refine bodyPost_ret (v := .tuple #[.agg #[.int .i64 0, .int .i64 0], .int .i64 2]) (by simp [results, Tryd.results26, go_sem, *]) rfl ⟨by rw [HR.out], (by repeat (first | exact Below.refl _ _ | assumption | refine Below.drew ?_ | refine below_drewN ?_ _ | refine Below.alloc ?_ (by first | omega | (simp; done) | (simp; omega)) _ | refine Below.setCell ?_ (by first | omega | (simp; done) | (simp; omega)) _))⟩
  · have hv' : fmtB l d h j = false := by simpa using hv
    have HR := Lib.hid (mortarI_no (b := b) hv')
    clear hv
    go_enter Tryd.func26, Tryd.ntmps26
    go_wp2_with fail
    refine (l02Ok_any _ _ _ _ _).mono ?_
    rintro e1 w1 ⟨rfl, hb1⟩
    obtain ⟨hc1, hf1⟩ := bcell hb1
    have hz1 := hb1.size
    try simp at hz1
    have hz1_0 : w.heap.size < w1.heap.size := by omega
    have hz1_1 : w.heap.size + 1 < w1.heap.size := by omega
    have ha1 : Below w.heap.size w w1 := below_call (by repeat (first | exact Below.refl _ _ | assumption | refine Below.drew ?_ | refine below_drewN ?_ _ | refine Below.alloc ?_ (by first | omega | (simp; done) | (simp; omega)) _ | refine Below.setCell ?_ (by first | omega | (simp; done) | (simp; omega)) _)) hb1
    have r1_1_0 : w1.cell? ⟨w.heap.size + 1, 0, none⟩ = some (.int .i64 0) := by simp [hc1, go_sem]
    have r1_1_1 : w1.cell? ⟨w.heap.size + 1, 1, none⟩ = some (.int .i64 0) := by simp [hc1, go_sem]
    have q1_1_0 : w1.frozen? ⟨w.heap.size + 1, 0, none⟩ = false := by simp [hf1, go_sem]
    have q1_1_1 : w1.frozen? ⟨w.heap.size + 1, 1, none⟩ = false := by simp [hf1, go_sem]
    go_wp2
    refine bodyPost_ret (v := .tuple #[.agg #[.int .i64 0, .int .i64 0], .int .i64 1]) (by simp [results, Tryd.results26, go_sem, *]) rfl ⟨by rw [HR.out], (by repeat (first | exact Below.refl _ _ | assumption | refine Below.drew ?_ | refine below_drewN ?_ _ | refine Below.alloc ?_ (by first | omega | (simp; done) | (simp; omega)) _ | refine Below.setCell ?_ (by first | omega | (simp; done) | (simp; omega)) _))⟩
end Go.Proofs.YtgnalhnbdpigdaaDoor
