/- Contracts of PieceText, program and reference: a wall's text, in its decimal digits; no old memory turns; condition: for the program's the library's table of powers of ten. -/
import Derived.Test.YtgnalhnbdpigdaaDoorDecS
import Derived.Test.YtgnalhnbdpigdaaDoorPieceB
namespace Go.Proofs.YtgnalhnbdpigdaaDoor
set_option linter.unusedVariables false
open Go.RowKit

/-- The text of a wall. -/
def ptS (l h k : Int) : ByteArray := if pieceB l h k then decS l.toNat ++ ⟨#[120]⟩ ++ decS h.toNat ++ ⟨#[32]⟩ ++ decS k.toNat ++ ⟨#[47, 50]⟩ else ⟨#[]⟩
theorem dec_small (n : Nat) (h : n ≤ 1000000000) : (decS n).size ≤ 21 := by rw [decS_size]; exact dec_len n h
theorem pt_adds {A B C : ByteArray} (ha : A.size ≤ 21) (hb : B.size ≤ 21) (hc : C.size ≤ 21) :
    (∀ W, (Op.stringOp .add A ⟨#[120]⟩).run Tryd.prog W = .ok (.string (A ++ ⟨#[120]⟩)) W) ∧ (∀ W, (Op.stringOp .add (A ++ ⟨#[120]⟩) B).run Tryd.prog W = .ok (.string (A ++ ⟨#[120]⟩ ++ B)) W) ∧
    (∀ W, (Op.stringOp .add (A ++ ⟨#[120]⟩ ++ B) ⟨#[32]⟩).run Tryd.prog W = .ok (.string (A ++ ⟨#[120]⟩ ++ B ++ ⟨#[32]⟩)) W) ∧ (∀ W, (Op.stringOp .add (A ++ ⟨#[120]⟩ ++ B ++ ⟨#[32]⟩) C).run Tryd.prog W = .ok (.string (A ++ ⟨#[120]⟩ ++ B ++ ⟨#[32]⟩ ++ C)) W) ∧
    (∀ W, (Op.stringOp .add (A ++ ⟨#[120]⟩ ++ B ++ ⟨#[32]⟩ ++ C) ⟨#[47, 50]⟩).run Tryd.prog W = .ok (.string (A ++ ⟨#[120]⟩ ++ B ++ ⟨#[32]⟩ ++ C ++ ⟨#[47, 50]⟩)) W) := by
  have s1 : (⟨#[120]⟩ : ByteArray).size = 1 := rfl
  have s2 : (⟨#[32]⟩ : ByteArray).size = 1 := rfl
  have s3 : (⟨#[47, 50]⟩ : ByteArray).size = 2 := rfl
  refine ⟨fun W => run_string_add_sum W _ _ ?_, fun W => run_string_add_sum W _ _ ?_, fun W => run_string_add_sum W _ _ ?_, fun W => run_string_add_sum W _ _ ?_, fun W => run_string_add_sum W _ _ ?_⟩ <;>
    simp only [ByteArray.size_append, s1, s2, s3] <;> omega
set_option maxHeartbeats 4000000 in
theorem specPieceText_any (l h k : Int) (w : World) :
    Calls Tryd.prog 5 #[.agg #[.int .i64 l, .int .i64 h, .int .i64 k]] w fun e w' => e = .returned (.string (ptS l h k)) ∧ Below w.heap.size w w' := by
  cases hp : pieceB l h k
  · have HE := Lib.hid (show ptS l h k = ⟨#[]⟩ by simp [ptS, hp])
    have HP := Lib.hid hp
    clear hp
    go_enter Tryd.func5, Tryd.ntmps5
    go_wp2_with fail
    refine (l11One_any w.heap.size 0 l h k _ ⟨by simp [go_sem], by simp [go_sem], by simp [go_sem]⟩).mono ?_
    rintro e w1 ⟨rfl, rfl⟩
    rw [HP.out]
    go_wp2
    go_ret
    exact ⟨by rw [HE.out]; rfl, (by repeat (first | exact Below.refl _ _ | assumption | refine Below.drew ?_ | refine below_drewN ?_ _ | refine Below.alloc ?_ (by first | omega | (simp; done) | (simp; omega)) _ | refine Below.setCell ?_ (by first | omega | (simp; done) | (simp; omega)) _))⟩
  · obtain ⟨p1, p2, p3, p4, p5, p6⟩ := pieceB_t hp
    have HE := Lib.hid (show ptS l h k = decS l.toNat ++ ⟨#[120]⟩ ++ decS h.toNat ++ ⟨#[32]⟩ ++ decS k.toNat ++ ⟨#[47, 50]⟩ by simp [ptS, hp])
    have HP := Lib.hid hp
    clear hp
    obtain ⟨a, rfl⟩ := Int.eq_ofNat_of_zero_le (show 0 ≤ l by omega)
    obtain ⟨b, rfl⟩ := Int.eq_ofNat_of_zero_le (show 0 ≤ h by omega)
    obtain ⟨c, rfl⟩ := Int.eq_ofNat_of_zero_le (show 0 ≤ k by omega)
    simp only [Int.toNat_natCast] at HE
    go_enter Tryd.func5, Tryd.ntmps5
    go_wp2_with fail
    refine (l11One_any w.heap.size 0 (a : Int) (b : Int) (c : Int) _ ⟨by simp [go_sem], by simp [go_sem], by simp [go_sem]⟩).mono ?_
    rintro e w1 ⟨rfl, rfl⟩
    rw [HP.out]
    go_wp2_with fail
    obtain ⟨t1, t2, t3, t4, t5⟩ := pt_adds (dec_small a (by omega)) (dec_small b (by omega)) (dec_small c (by omega))
    go_region_held3 (fun w' => w'.cell? ⟨w.heap.size, 0, none⟩ = some (.int .i64 (a : Int)) ∧ w'.cell? ⟨w.heap.size, 1, none⟩ = some (.int .i64 (b : Int)) ∧ w'.cell? ⟨w.heap.size, 2, none⟩ = some (.int .i64 (c : Int))) (first | exact keep3 hbx (by assumption) | (simp [go_sem]; done) | assumption)
      ((go_at_call 34; refine (l01Dec_any _ _ (by omega)).mono ?_; rintro e wx ⟨rfl, hbx⟩; have ha1 : Below w.heap.size w wx := below_call (by repeat (first | exact Below.refl _ _ | assumption | refine Below.drew ?_ | refine below_drewN ?_ _ | refine Below.alloc ?_ (by first | omega | (simp; done) | (simp; omega)) _ | refine Below.setCell ?_ (by first | omega | (simp; done) | (simp; omega)) _)) hbx))
    all_goals
      go_wp2
      go_ret
      exact ⟨by rw [HE.out]; rfl, ha1⟩
set_option maxHeartbeats 4000000 in
theorem pieceText_any (l h k : Int) (w : World) (ht : Tab w) :
    Calls Tryd.prog 7 #[.agg #[.int .i64 l, .int .i64 h, .int .i64 k]] w fun e w' => e = .returned (.string (ptS l h k)) ∧ Below w.heap.size w w' := by
  have HT := Lib.hid ht
  clear ht
  cases hp : pieceB l h k
  · have HE := Lib.hid (show ptS l h k = ⟨#[]⟩ by simp [ptS, hp])
    have HP := Lib.hid hp
    clear hp
    go_enter Tryd.func7, Tryd.ntmps7
    go_wp2_with fail
    refine (validPiece_any l h k _).mono ?_
    rintro e1 w1 ⟨rfl, hb1⟩
    obtain ⟨hc1, hf1⟩ := bcell hb1
    have hz1 := hb1.size
    try simp at hz1
    have hz1_0 : w.heap.size < w1.heap.size := by omega
    have ha1 : Below w.heap.size w w1 := below_call (by repeat (first | exact Below.refl _ _ | assumption | refine Below.drew ?_ | refine below_drewN ?_ _ | refine Below.alloc ?_ (by first | omega | (simp; done) | (simp; omega)) _ | refine Below.setCell ?_ (by first | omega | (simp; done) | (simp; omega)) _)) hb1
    rw [HP.out]
    go_wp2
    go_ret
    exact ⟨by rw [HE.out]; rfl, (by repeat (first | exact Below.refl _ _ | assumption | refine Below.drew ?_ | refine below_drewN ?_ _ | refine Below.alloc ?_ (by first | omega | (simp; done) | (simp; omega)) _ | refine Below.setCell ?_ (by first | omega | (simp; done) | (simp; omega)) _))⟩
  · obtain ⟨p1, p2, p3, p4, p5, p6⟩ := pieceB_t hp
    have HE := Lib.hid (show ptS l h k = decS l.toNat ++ ⟨#[120]⟩ ++ decS h.toNat ++ ⟨#[32]⟩ ++ decS k.toNat ++ ⟨#[47, 50]⟩ by simp [ptS, hp])
    have HP := Lib.hid hp
    clear hp
    obtain ⟨a, rfl⟩ := Int.eq_ofNat_of_zero_le (show 0 ≤ l by omega)
    obtain ⟨b, rfl⟩ := Int.eq_ofNat_of_zero_le (show 0 ≤ h by omega)
    obtain ⟨c, rfl⟩ := Int.eq_ofNat_of_zero_le (show 0 ≤ k by omega)
    simp only [Int.toNat_natCast] at HE
    go_enter Tryd.func7, Tryd.ntmps7
    go_wp2_with fail
    refine (validPiece_any (a : Int) (b : Int) (c : Int) _).mono ?_
    rintro e1 w1 ⟨rfl, hb1⟩
    obtain ⟨hc1, hf1⟩ := bcell hb1
    have hz1 := hb1.size
    try simp at hz1
    have hz1_0 : w.heap.size < w1.heap.size := by omega
    have ha1 : Below w.heap.size w w1 := below_call (by repeat (first | exact Below.refl _ _ | assumption | refine Below.drew ?_ | refine below_drewN ?_ _ | refine Below.alloc ?_ (by first | omega | (simp; done) | (simp; omega)) _ | refine Below.setCell ?_ (by first | omega | (simp; done) | (simp; omega)) _)) hb1
    rw [HP.out]
    go_wp2_with fail
    obtain ⟨t1, t2, t3, t4, t5⟩ := pt_adds (dec_small a (by omega)) (dec_small b (by omega)) (dec_small c (by omega))
    go_region_held3 (fun w' => w'.cell? ⟨w.heap.size, 0, none⟩ = some (.int .i64 (a : Int)) ∧ w'.cell? ⟨w.heap.size, 1, none⟩ = some (.int .i64 (b : Int)) ∧ w'.cell? ⟨w.heap.size, 2, none⟩ = some (.int .i64 (c : Int))) (first | exact keep3 hbx (by assumption) | (simp [hc1, go_sem]; done) | assumption)
      ((go_at_call 36; refine (decimal_any _ _ (by omega) (HT.out.below (by repeat (first | exact Below.refl _ _ | assumption | refine Below.drew ?_ | refine below_drewN ?_ _ | refine Below.alloc ?_ (by first | omega | (simp; done) | (simp; omega)) _ | refine Below.setCell ?_ (by first | omega | (simp; done) | (simp; omega)) _)))).mono ?_; rintro e wx ⟨rfl, hbx⟩; have ha1 : Below w.heap.size w wx := below_call (by repeat (first | exact Below.refl _ _ | assumption | refine Below.drew ?_ | refine below_drewN ?_ _ | refine Below.alloc ?_ (by first | omega | (simp; done) | (simp; omega)) _ | refine Below.setCell ?_ (by first | omega | (simp; done) | (simp; omega)) _)) hbx))
    all_goals
      go_wp2
      go_ret
      exact ⟨by rw [HE.out]; rfl, ha1⟩
end Go.Proofs.YtgnalhnbdpigdaaDoor
