/- Contracts of the functions on bags, on the bricks of one wall and on mortar, program and reference: what each call returns, as plain functions on integers; no old memory turns. -/
import Derived.Test.YtgnalhnbdpigdaaDoorPiece
namespace Go.Proofs.YtgnalhnbdpigdaaDoor
open Go.RowKit

def bagB (n d e : Int) : Bool := inB n 0 1000000000000 && inB d 1 1000000 && inB e 1 1000
theorem bagB_f {n d e : Int} (h : ¬ bagB n d e = true) : inB n 0 1000000000000 = false ∨ (inB n 0 1000000000000 = true ∧ inB d 1 1000000 = false) ∨ (inB n 0 1000000000000 = true ∧ inB d 1 1000000 = true ∧ inB e 1 1000 = false) := by
  unfold bagB at h
  cases h1 : inB n 0 1000000000000 <;> cases h2 : inB d 1 1000000 <;> cases h3 : inB e 1 1000 <;> simp_all
def bagsI (n d e : Int) : Int × Int := if bagB n d e then (rupI n (d * e), 0) else (0, 2)
theorem bagsI_yes {n d e : Int} (h : bagB n d e = true) : bagsI n d e = (rupI n (d * e), 0) := if_pos h
theorem bagsI_no {n d e : Int} (h : ¬ bagB n d e = true) : bagsI n d e = (0, 2) := if_neg h

def pieceB (l h k : Int) : Bool := inB l 1 100000 && inB h 1 20000 && inB k 1 6
theorem pieceB_t {l h k : Int} (h0 : pieceB l h k = true) : 1 ≤ l ∧ l ≤ 100000 ∧ 1 ≤ h ∧ h ≤ 20000 ∧ 1 ≤ k ∧ k ≤ 6 := by
  simp only [pieceB, inB, Bool.and_eq_true, decide_eq_true_eq] at h0; omega
set_option maxHeartbeats 400000 in
theorem validPiece_any (l h k : Int) (w : World) :
    Calls Tryd.prog 35 #[.agg #[.int .i64 l, .int .i64 h, .int .i64 k]] w fun e w' => e = .returned (.bool (pieceB l h k)) ∧ Below w.heap.size w w' := by
  go_enter Tryd.func35, Tryd.ntmps35
  go_wp2_with (go_at_call 53; refine (within_any _ _ _ _).mono ?_; rintro e w' ⟨rfl, rfl⟩)
  all_goals
    go_ret
    exact ⟨ret_bool (by simp [pieceB, *]), (by repeat (first | exact Below.refl _ _ | assumption | refine Below.drew ?_ | refine below_drewN ?_ _ | refine Below.alloc ?_ (by first | omega | (simp; done) | (simp; omega)) _ | refine Below.setCell ?_ (by first | omega | (simp; done) | (simp; omega)) _))⟩
/-- A piece lies at an address. -/
def PieceAt (w : World) (b o : Nat) (l h k : Int) : Prop := w.cell? ⟨b, o, none⟩ = some (.int .i64 l) ∧ w.cell? ⟨b, o + 1, none⟩ = some (.int .i64 h) ∧ w.cell? ⟨b, o + 2, none⟩ = some (.int .i64 k)
set_option maxHeartbeats 400000 in
theorem l11One_any (b o : Nat) (l h k : Int) (w : World) (hp : PieceAt w b o l h k) :
    Calls Tryd.prog 33 #[.pointer (some ⟨b, o, none⟩)] w fun e w' => e = .returned (.bool (pieceB l h k)) ∧ w = w' := by
  obtain ⟨c1, c2, c3⟩ := hp
  go_enter Tryd.func33, Tryd.ntmps33
  go_wp2_with (go_at_call 55; refine (l00In_any _ _ _ _).mono ?_; rintro e w' ⟨rfl, rfl⟩)
  all_goals
    go_ret
    exact ⟨ret_bool (by simp [pieceB, *]), rfl⟩

/-- The bricks of a wall, rounded up. -/
def bricksN (l h j pl ph pk : Int) : Int := rupI (pl * ph * pk) ((l + j) * (h + j))
theorem face_bd {l h j : Int} (h1 : 100 ≤ l) (h2 : l ≤ 500) (h3 : 30 ≤ h) (h4 : h ≤ 150) (h5 : 0 ≤ j) (h6 : j ≤ 20) : 3000 ≤ (l + j) * (h + j) ∧ (l + j) * (h + j) ≤ 88400 := by
  have a := mul_bd (a := l + j) (b := h + j) (A := 520) (B := 170) (by omega) (by omega) (by omega) (by omega)
  have b : 100 * 30 ≤ (l + j) * (h + j) := Int.mul_le_mul (by omega) (by omega) (by omega) (by omega)
  omega
theorem vol_bd {l h k : Int} (h1 : 1 ≤ l) (h2 : l ≤ 100000) (h3 : 1 ≤ h) (h4 : h ≤ 20000) (h5 : 1 ≤ k) (h6 : k ≤ 6) : (1 ≤ l * h ∧ l * h ≤ 2000000000) ∧ (1 ≤ l * h * k ∧ l * h * k ≤ 12000000000) := by
  have a := mul_bd (a := l) (b := h) (A := 100000) (B := 20000) (by omega) h2 (by omega) h4
  have b : 1 * 1 ≤ l * h := Int.mul_le_mul h1 h3 (by omega) (by omega)
  have c := mul_bd (a := l * h) (b := k) (A := 2000000000) (B := 6) (by omega) (by omega) (by omega) h6
  have d : 1 * 1 ≤ l * h * k := Int.mul_le_mul (by omega) h5 (by omega) (by omega)
  omega
set_option maxHeartbeats 400000 in
theorem face_any (l d h j : Int) (w : World) (h1 : 100 ≤ l) (h2 : l ≤ 500) (h3 : 30 ≤ h) (h4 : h ≤ 150) (h5 : 0 ≤ j) (h6 : j ≤ 20) :
    Calls Tryd.prog 57 #[.agg #[.int .i64 l, .int .i64 d, .int .i64 h, .int .i64 j]] w fun e w' => e = .returned (.int .i64 ((l + j) * (h + j))) ∧ Below w.heap.size w w' := by
  obtain ⟨m1, m2⟩ := face_bd h1 h2 h3 h4 h5 h6
  go_enter Tryd.func57, Tryd.ntmps57
  go_wp2
  go_ret
  exact ⟨rfl, (by repeat (first | exact Below.refl _ _ | assumption | refine Below.drew ?_ | refine below_drewN ?_ _ | refine Below.alloc ?_ (by first | omega | (simp; done) | (simp; omega)) _ | refine Below.setCell ?_ (by first | omega | (simp; done) | (simp; omega)) _))⟩
set_option maxHeartbeats 2000000 in
theorem bricksOf_any (l d h j pl ph pk : Int) (w : World) (h1 : 100 ≤ l) (h2 : l ≤ 500) (h3 : 30 ≤ h) (h4 : h ≤ 150) (h5 : 0 ≤ j) (h6 : j ≤ 20) (g1 : 1 ≤ pl) (g2 : pl ≤ 100000) (g3 : 1 ≤ ph) (g4 : ph ≤ 20000) (g5 : 1 ≤ pk) (g6 : pk ≤ 6) :
    Calls Tryd.prog 41 #[.agg #[.int .i64 l, .int .i64 d, .int .i64 h, .int .i64 j], .agg #[.int .i64 pl, .int .i64 ph, .int .i64 pk]] w fun e w' => e = .returned (.int .i64 (bricksN l h j pl ph pk)) ∧ Below w.heap.size w w' := by
  obtain ⟨m1, m2⟩ := face_bd h1 h2 h3 h4 h5 h6
  obtain ⟨⟨m3, m4⟩, ⟨m5, m6⟩⟩ := vol_bd g1 g2 g3 g4 g5 g6
  have k1 : 0 ≤ pl * ph * pk := by omega
  have k2 : pl * ph * pk ≤ 1000000000000000000 := by omega
  have k3 : 1 ≤ (l + j) * (h + j) := by omega
  have k4 : (l + j) * (h + j) ≤ 1000000000000000000 := by omega
  have e1 := IntWalk.i64_in (pl * ph) (by omega)
  have e2 := IntWalk.i64_in (pl * ph * pk) (by omega)
  go_enter Tryd.func41, Tryd.ntmps41
  go_wp2_with fail
  go_region_held3 (fun w' => w'.cell? ⟨w.heap.size, 0, none⟩ = some (.int .i64 l) ∧ w'.cell? ⟨w.heap.size, 1, none⟩ = some (.int .i64 d) ∧ w'.cell? ⟨w.heap.size, 2, none⟩ = some (.int .i64 h) ∧ w'.cell? ⟨w.heap.size, 3, none⟩ = some (.int .i64 j) ∧ w'.cell? ⟨w.heap.size + 1, 0, none⟩ = some (.int .i64 pl) ∧ w'.cell? ⟨w.heap.size + 1, 1, none⟩ = some (.int .i64 ph) ∧ w'.cell? ⟨w.heap.size + 1, 2, none⟩ = some (.int .i64 pk)) (first | exact keep7 hbx (by assumption) | (simp [go_sem]; done) | assumption)
    (first | (go_at_call 57; refine (face_any _ _ _ _ _ (by assumption) (by assumption) (by assumption) (by assumption) (by assumption) (by assumption)).mono ?_; rintro e wx ⟨rfl, hbx⟩; have ha1 : Below w.heap.size w wx := below_call (by repeat (first | exact Below.refl _ _ | assumption | refine Below.drew ?_ | refine below_drewN ?_ _ | refine Below.alloc ?_ (by first | omega | (simp; done) | (simp; omega)) _ | refine Below.setCell ?_ (by first | omega | (simp; done) | (simp; omega)) _)) hbx) | (go_at_call 54; refine (roundedUp_any _ _ _ (by assumption) (by assumption) (by assumption) (by assumption)).mono ?_; rintro e wy ⟨rfl, rfl⟩))
  all_goals
    clear e1 e2
    go_wp2
    go_ret
    exact ⟨rfl, (by repeat (first | exact Below.refl _ _ | assumption | refine Below.drew ?_ | refine below_drewN ?_ _ | refine Below.alloc ?_ (by first | omega | (simp; done) | (simp; omega)) _ | refine Below.setCell ?_ (by first | omega | (simp; done) | (simp; omega)) _))⟩

set_option maxHeartbeats 2000000 in
theorem l11Bricks_any (l d h j pl ph pk : Int) (b o : Nat) (w : World) (hp : PieceAt w b o pl ph pk) (h1 : 100 ≤ l) (h2 : l ≤ 500) (h3 : 30 ≤ h) (h4 : h ≤ 150) (h5 : 0 ≤ j) (h6 : j ≤ 20) (g1 : 1 ≤ pl) (g2 : pl ≤ 100000) (g3 : 1 ≤ ph) (g4 : ph ≤ 20000) (g5 : 1 ≤ pk) (g6 : pk ≤ 6) :
    Calls Tryd.prog 43 #[.agg #[.int .i64 l, .int .i64 d, .int .i64 h, .int .i64 j], .pointer (some ⟨b, o, none⟩)] w fun e w' => e = .returned (.int .i64 (bricksN l h j pl ph pk)) ∧ Below w.heap.size w w' := by
  obtain ⟨m1, m2⟩ := face_bd h1 h2 h3 h4 h5 h6
  obtain ⟨⟨m3, m4⟩, ⟨m5, m6⟩⟩ := vol_bd g1 g2 g3 g4 g5 g6
  obtain ⟨c1, c2, c3⟩ := hp
  have hlt : b < w.heap.size := World.block_lt_of_cell? w ⟨b, o, none⟩ c1
  have d1 := IntWalk.i64_in (pl * ph) (by omega)
  have d2 := IntWalk.i64_in (pl * ph * pk) (by omega)
  have d3 := IntWalk.i64_in (pl * ph * pk + (l + j) * (h + j)) (by omega)
  have d4 := IntWalk.i64_in (pl * ph * pk + (l + j) * (h + j) - 1) (by omega)
  go_enter Tryd.func43, Tryd.ntmps43
  go_wp2_with fail
  go_quiet (fail)
  clear d1 d2 d3 d4
  go_wp2
  go_ret
  exact ⟨rfl, (by repeat (first | exact Below.refl _ _ | assumption | refine Below.drew ?_ | refine below_drewN ?_ _ | refine Below.alloc ?_ (by first | omega | (simp; done) | (simp; omega)) _ | refine Below.setCell ?_ (by first | omega | (simp; done) | (simp; omega)) _))⟩

def bricksI (l d h j pl ph pk : Int) : Int × Int := if fmtB l d h j && pieceB pl ph pk then (bricksN l h j pl ph pk, 0) else (0, 1)
theorem bricksI_yes {l d h j pl ph pk : Int} (h1 : fmtB l d h j = true) (h2 : pieceB pl ph pk = true) : bricksI l d h j pl ph pk = (bricksN l h j pl ph pk, 0) := by simp [bricksI, h1, h2]
theorem bricksI_no {l d h j pl ph pk : Int} (h0 : fmtB l d h j = false ∨ (fmtB l d h j = true ∧ pieceB pl ph pk = false)) : bricksI l d h j pl ph pk = (0, 1) := by
  unfold bricksI; rw [if_neg]; rcases h0 with h0 | ⟨h0, h1⟩
  · simp [h0]
  · simp [h1]
set_option maxHeartbeats 2000000 in
theorem bricksOfE_any (l d h j pl ph pk : Int) (w : World) :
    Calls Tryd.prog 10 #[.agg #[.int .i64 l, .int .i64 d, .int .i64 h, .int .i64 j], .agg #[.int .i64 pl, .int .i64 ph, .int .i64 pk]] w fun e w' => e = .returned (.tuple #[.int .i64 (bricksI l d h j pl ph pk).1, .int .i64 (bricksI l d h j pl ph pk).2]) ∧ Below w.heap.size w w' := by
  by_cases hv : fmtB l d h j = true ∧ pieceB pl ph pk = true
  · obtain ⟨v1, v2⟩ := hv
    have HR := Lib.hid (bricksI_yes v1 v2)
    obtain ⟨h1, h2, _, _, h3, h4, h5, h6, _⟩ := fmtB_t v1
    obtain ⟨g1, g2, g3, g4, g5, g6⟩ := pieceB_t v2
    go_enter Tryd.func10, Tryd.ntmps10
    go_wp2_with fail
    refine (validFormat_any _ _ _ _ _).mono ?_
    rintro e1 w1 ⟨rfl, hb1⟩
    obtain ⟨hc1, hf1⟩ := bcell hb1
    have hz1 := hb1.size
    try simp at hz1
    have hz1_0 : w.heap.size < w1.heap.size := by omega
    have hz1_1 : w.heap.size + 1 < w1.heap.size := by omega
    have ha1 : Below w.heap.size w w1 := below_call (by repeat (first | exact Below.refl _ _ | assumption | refine Below.drew ?_ | refine below_drewN ?_ _ | refine Below.alloc ?_ (by first | omega | (simp; done) | (simp; omega)) _ | refine Below.setCell ?_ (by first | omega | (simp; done) | (simp; omega)) _)) hb1
    go_wp2_with fail
    refine (validPiece_any _ _ _ _).mono ?_
    rintro e2 w2 ⟨rfl, hb2⟩
    have hy2 := hb2.size
    replace hb2 := below_call hb1 hb2
    clear hc1 hf1
    obtain ⟨hc2, hf2⟩ := bcell hb2
    have hz2 := hb2.size
    try simp at hz2
    have hz2_0 : w.heap.size < w2.heap.size := by omega
    have hz2_1 : w.heap.size + 1 < w2.heap.size := by omega
    have ha2 : Below w.heap.size w w2 := below_call (by repeat (first | exact Below.refl _ _ | assumption | refine Below.drew ?_ | refine below_drewN ?_ _ | refine Below.alloc ?_ (by first | omega | (simp; done) | (simp; omega)) _ | refine Below.setCell ?_ (by first | omega | (simp; done) | (simp; omega)) _)) hb2
    go_wp2_with fail
    refine (bricksOf_any _ _ _ _ _ _ _ _ h1 h2 h3 h4 h5 h6 g1 g2 g3 g4 g5 g6).mono ?_
    rintro e3 w3 ⟨rfl, hb3⟩
    have hy3 := hb3.size
    replace hb3 := below_call hb2 hb3
    clear hc2 hf2
    obtain ⟨hc3, hf3⟩ := bcell hb3
    have hz3 := hb3.size
    try simp at hz3
    have hz3_0 : w.heap.size < w3.heap.size := by omega
    have hz3_1 : w.heap.size + 1 < w3.heap.size := by omega
    have ha3 : Below w.heap.size w w3 := below_call (by repeat (first | exact Below.refl _ _ | assumption | refine Below.drew ?_ | refine below_drewN ?_ _ | refine Below.alloc ?_ (by first | omega | (simp; done) | (simp; omega)) _ | refine Below.setCell ?_ (by first | omega | (simp; done) | (simp; omega)) _)) hb3
    go_wp2
    go_ret2
    exact ⟨by rw [HR.out]; rfl, (by repeat (first | exact Below.refl _ _ | assumption | refine Below.drew ?_ | refine below_drewN ?_ _ | refine Below.alloc ?_ (by first | omega | (simp; done) | (simp; omega)) _ | refine Below.setCell ?_ (by first | omega | (simp; done) | (simp; omega)) _))⟩
  · have hv' := two_f hv
    have HR := Lib.hid (bricksI_no hv')
    clear hv
    rcases hv' with v1 | ⟨v1, v2⟩
    · go_enter Tryd.func10, Tryd.ntmps10
      go_wp2_with fail
      refine (validFormat_any _ _ _ _ _).mono ?_
      rintro e1 w1 ⟨rfl, hb1⟩
      obtain ⟨hc1, hf1⟩ := bcell hb1
      have hz1 := hb1.size
      try simp at hz1
      have hz1_0 : w.heap.size < w1.heap.size := by omega
      have hz1_1 : w.heap.size + 1 < w1.heap.size := by omega
      have ha1 : Below w.heap.size w w1 := below_call (by repeat (first | exact Below.refl _ _ | assumption | refine Below.drew ?_ | refine below_drewN ?_ _ | refine Below.alloc ?_ (by first | omega | (simp; done) | (simp; omega)) _ | refine Below.setCell ?_ (by first | omega | (simp; done) | (simp; omega)) _)) hb1
      go_wp2
      go_ret2
      exact ⟨by rw [HR.out]; rfl, (by repeat (first | exact Below.refl _ _ | assumption | refine Below.drew ?_ | refine below_drewN ?_ _ | refine Below.alloc ?_ (by first | omega | (simp; done) | (simp; omega)) _ | refine Below.setCell ?_ (by first | omega | (simp; done) | (simp; omega)) _))⟩
    · go_enter Tryd.func10, Tryd.ntmps10
      go_wp2_with fail
      refine (validFormat_any _ _ _ _ _).mono ?_
      rintro e1 w1 ⟨rfl, hb1⟩
      obtain ⟨hc1, hf1⟩ := bcell hb1
      have hz1 := hb1.size
      try simp at hz1
      have hz1_0 : w.heap.size < w1.heap.size := by omega
      have hz1_1 : w.heap.size + 1 < w1.heap.size := by omega
      have ha1 : Below w.heap.size w w1 := below_call (by repeat (first | exact Below.refl _ _ | assumption | refine Below.drew ?_ | refine below_drewN ?_ _ | refine Below.alloc ?_ (by first | omega | (simp; done) | (simp; omega)) _ | refine Below.setCell ?_ (by first | omega | (simp; done) | (simp; omega)) _)) hb1
      go_wp2_with fail
      refine (validPiece_any _ _ _ _).mono ?_
      rintro e2 w2 ⟨rfl, hb2⟩
      have hy2 := hb2.size
      replace hb2 := below_call hb1 hb2
      clear hc1 hf1
      obtain ⟨hc2, hf2⟩ := bcell hb2
      have hz2 := hb2.size
      try simp at hz2
      have hz2_0 : w.heap.size < w2.heap.size := by omega
      have hz2_1 : w.heap.size + 1 < w2.heap.size := by omega
      have ha2 : Below w.heap.size w w2 := below_call (by repeat (first | exact Below.refl _ _ | assumption | refine Below.drew ?_ | refine below_drewN ?_ _ | refine Below.alloc ?_ (by first | omega | (simp; done) | (simp; omega)) _ | refine Below.setCell ?_ (by first | omega | (simp; done) | (simp; omega)) _)) hb2
      go_wp2
      go_ret2
      exact ⟨by rw [HR.out]; rfl, (by repeat (first | exact Below.refl _ _ | assumption | refine Below.drew ?_ | refine below_drewN ?_ _ | refine Below.alloc ?_ (by first | omega | (simp; done) | (simp; omega)) _ | refine Below.setCell ?_ (by first | omega | (simp; done) | (simp; omega)) _))⟩
set_option maxHeartbeats 2000000 in
theorem specBricksOf_any (l d h j pl ph pk : Int) (w : World) :
    Calls Tryd.prog 11 #[.agg #[.int .i64 l, .int .i64 d, .int .i64 h, .int .i64 j], .agg #[.int .i64 pl, .int .i64 ph, .int .i64 pk]] w fun e w' => e = .returned (.tuple #[.int .i64 (bricksI l d h j pl ph pk).1, .int .i64 (bricksI l d h j pl ph pk).2]) ∧ Below w.heap.size w w' := by
  by_cases hv : fmtB l d h j = true ∧ pieceB pl ph pk = true
  · obtain ⟨v1, v2⟩ := hv
    have HR := Lib.hid (bricksI_yes v1 v2)
    obtain ⟨h1, h2, _, _, h3, h4, h5, h6, _⟩ := fmtB_t v1
    obtain ⟨g1, g2, g3, g4, g5, g6⟩ := pieceB_t v2
    go_enter Tryd.func11, Tryd.ntmps11
    go_wp2_with fail
    refine (l02Ok_any _ _ _ _ _).mono ?_
    rintro e1 w1 ⟨rfl, hb1⟩
    obtain ⟨hc1, hf1⟩ := bcell hb1
    have hz1 := hb1.size
    try simp at hz1
    have hz1_0 : w.heap.size < w1.heap.size := by omega
    have hz1_1 : w.heap.size + 1 < w1.heap.size := by omega
    have ha1 : Below w.heap.size w w1 := below_call (by repeat (first | exact Below.refl _ _ | assumption | refine Below.drew ?_ | refine below_drewN ?_ _ | refine Below.alloc ?_ (by first | omega | (simp; done) | (simp; omega)) _ | refine Below.setCell ?_ (by first | omega | (simp; done) | (simp; omega)) _)) hb1
    have hp : PieceAt w1 (w.heap.size + 1) 0 pl ph pk := ⟨by simp [hc1, go_sem], by simp [hc1, go_sem], by simp [hc1, go_sem]⟩
    go_wp2_with fail
    refine (l11One_any _ _ _ _ _ _ hp).mono ?_
    rintro e2 w2 ⟨rfl, rfl⟩
    go_wp2_with fail
    refine (l11Bricks_any _ _ _ _ _ _ _ _ _ _ hp h1 h2 h3 h4 h5 h6 g1 g2 g3 g4 g5 g6).mono ?_
    rintro e3 w3 ⟨rfl, hb3⟩
    have hy3 := hb3.size
    replace hb3 := below_call hb1 hb3
    clear hc1 hf1
    obtain ⟨hc3, hf3⟩ := bcell hb3
    have hz3 := hb3.size
    try simp at hz3
    have hz3_0 : w.heap.size < w3.heap.size := by omega
    have hz3_1 : w.heap.size + 1 < w3.heap.size := by omega
    have ha3 : Below w.heap.size w w3 := below_call (by repeat (first | exact Below.refl _ _ | assumption | refine Below.drew ?_ | refine below_drewN ?_ _ | refine Below.alloc ?_ (by first | omega | (simp; done) | (simp; omega)) _ | refine Below.setCell ?_ (by first | omega | (simp; done) | (simp; omega)) _)) hb3
    go_wp2
    go_ret2
    exact ⟨by rw [HR.out]; rfl, (by repeat (first | exact Below.refl _ _ | assumption | refine Below.drew ?_ | refine below_drewN ?_ _ | refine Below.alloc ?_ (by first | omega | (simp; done) | (simp; omega)) _ | refine Below.setCell ?_ (by first | omega | (simp; done) | (simp; omega)) _))⟩
  · have hv' := two_f hv
    have HR := Lib.hid (bricksI_no hv')
    clear hv
    rcases hv' with v1 | ⟨v1, v2⟩
    · go_enter Tryd.func11, Tryd.ntmps11
      go_wp2_with fail
      refine (l02Ok_any _ _ _ _ _).mono ?_
      rintro e1 w1 ⟨rfl, hb1⟩
      obtain ⟨hc1, hf1⟩ := bcell hb1
      have hz1 := hb1.size
      try simp at hz1
      have hz1_0 : w.heap.size < w1.heap.size := by omega
      have hz1_1 : w.heap.size + 1 < w1.heap.size := by omega
      have ha1 : Below w.heap.size w w1 := below_call (by repeat (first | exact Below.refl _ _ | assumption | refine Below.drew ?_ | refine below_drewN ?_ _ | refine Below.alloc ?_ (by first | omega | (simp; done) | (simp; omega)) _ | refine Below.setCell ?_ (by first | omega | (simp; done) | (simp; omega)) _)) hb1
      go_wp2
      go_ret2
      exact ⟨by rw [HR.out]; rfl, (by repeat (first | exact Below.refl _ _ | assumption | refine Below.drew ?_ | refine below_drewN ?_ _ | refine Below.alloc ?_ (by first | omega | (simp; done) | (simp; omega)) _ | refine Below.setCell ?_ (by first | omega | (simp; done) | (simp; omega)) _))⟩
    · go_enter Tryd.func11, Tryd.ntmps11
      go_wp2_with fail
      refine (l02Ok_any _ _ _ _ _).mono ?_
      rintro e1 w1 ⟨rfl, hb1⟩
      obtain ⟨hc1, hf1⟩ := bcell hb1
      have hz1 := hb1.size
      try simp at hz1
      have hz1_0 : w.heap.size < w1.heap.size := by omega
      have hz1_1 : w.heap.size + 1 < w1.heap.size := by omega
      have ha1 : Below w.heap.size w w1 := below_call (by repeat (first | exact Below.refl _ _ | assumption | refine Below.drew ?_ | refine below_drewN ?_ _ | refine Below.alloc ?_ (by first | omega | (simp; done) | (simp; omega)) _ | refine Below.setCell ?_ (by first | omega | (simp; done) | (simp; omega)) _)) hb1
      have hp : PieceAt w1 (w.heap.size + 1) 0 pl ph pk := ⟨by simp [hc1, go_sem], by simp [hc1, go_sem], by simp [hc1, go_sem]⟩
      go_wp2_with fail
      refine (l11One_any _ _ _ _ _ _ hp).mono ?_
      rintro e2 w2 ⟨rfl, rfl⟩
      go_wp2
      go_ret2
      exact ⟨by rw [HR.out]; rfl, (by repeat (first | exact Below.refl _ _ | assumption | refine Below.drew ?_ | refine below_drewN ?_ _ | refine Below.alloc ?_ (by first | omega | (simp; done) | (simp; omega)) _ | refine Below.setCell ?_ (by first | omega | (simp; done) | (simp; omega)) _))⟩
end Go.Proofs.YtgnalhnbdpigdaaDoor
