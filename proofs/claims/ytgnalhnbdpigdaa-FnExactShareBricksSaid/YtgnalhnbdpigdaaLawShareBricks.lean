/- For all arguments, the program's ShareBricks returns what the reference's ShareBricks returns, in new memory (the statement FnExactShareBricks); no condition. -/
import Derived.Test.YtgnalhnbdpigdaaPiecesS
namespace Go.Proofs.Ytgnalhnbdpigdaa
open Go.ChangeShapes Go.WideShapes Go.ChangeAt Go.RowKit
set_option maxHeartbeats 8000000 in
set_option linter.unusedVariables false in
theorem exactShareBricks_walk (a0_0 : Int) (l0_0 : -9223372036854775808 ≤ a0_0) (u0_0 : a0_0 ≤ 9223372036854775807) (a0_1 : Int) (l0_1 : -9223372036854775808 ≤ a0_1) (u0_1 : a0_1 ≤ 9223372036854775807) (a0_2 : Int) (l0_2 : -9223372036854775808 ≤ a0_2) (u0_2 : a0_2 ≤ 9223372036854775807) (a0_3 : Int) (l0_3 : -9223372036854775808 ≤ a0_3) (u0_3 : a0_3 ≤ 9223372036854775807) (a1 : Option Addr) (len1 cap1 : Nat) (z1 : List (Int × Int × Int)) (a2 : Int) (l2 : -9223372036854775808 ≤ a2) (u2 : a2 ≤ 9223372036854775807) (w : World) (hz1 : IsPieces w a1 len1 cap1 z1) :
    Calls Try.prog 12 #[.agg #[.int .i64 a0_0, .int .i64 a0_1, .int .i64 a0_2, .int .i64 a0_3], .slice a1 len1 cap1, .int .i64 a2] w fun e w' => e = .returned (.bool true) ∧ Below w.heap.size w w' := by
  have HM1 := Lib.hid (show len1 ≤ maxLen from Nat.le_trans hz1.2.1 hz1.2.2.1)
  have HZ1 := Lib.hid hz1
  clear hz1
  by_cases hbig : 1048576 < len1
  · go_enter Try.func12, Try.ntmps12
    go_wp2_with fail
    refine (szPieceS_big _ _ _ _ hbig HM1.out).mono ?_
    rintro e1 w1 ⟨rfl, rfl⟩
    go_wp2
    go_ret
    exact ⟨rfl, (by repeat (first | exact Below.refl _ _ | assumption | refine Below.drew ?_ | refine below_drewN ?_ _ | refine Below.alloc ?_ (by first | omega | (simp; done) | (simp; omega)) _ | refine Below.setCell ?_ (by first | omega | (simp; done) | (simp; omega)) _))⟩
  have hlen1 : len1 ≤ 1048576 := by omega
  have hlt1 : ¬ (1048576 - (len1 : Int) < 0) := by omega
  have hmm1 : ¬ (1 + (len1 : Int) * 3 < 0) := by omega
  clear hbig
  have HLE1 := Lib.hid hlen1
  have HS := Lib.hid fun p1 q1 r1 w => (specShareBricks_any a0_0 a0_1 a0_2 a0_3 (p1) (q1) (r1) z1 a2 w)
  have HI := Lib.hid fun p1 q1 r1 w => (shareBricks_any a0_0 a0_1 a0_2 a0_3 (p1) (q1) (r1) z1 a2 w)
  have hle : (shI a0_0 a0_1 a0_2 a0_3 z1 a2).length ≤ 1000000 := (shI_len20 _ _ _ _ _ _)
  generalize shI a0_0 a0_1 a0_2 a0_3 z1 a2 = Z at *
  generalize shC a0_0 a0_1 a0_2 a0_3 z1 a2 = C at *
  obtain ⟨n, hn⟩ : ∃ n, Z.length = n := ⟨_, rfl⟩
  rw [hn] at hle
  have HN := Lib.hid hn
  clear hn
  have hm0 : ¬ (1 + (n : Int) < 0) := by omega
  go_enter Try.func12, Try.ntmps12
  go_wp2_with fail
  refine (szPieceS_fits _ _ _ _ HLE1.out HM1.out).mono ?_
  rintro e1 w1 ⟨rfl, rfl⟩
  go_wp2_with fail
  refine (toFormat_any _ _ _ _ _).mono ?_
  rintro e2 w2 ⟨rfl, hb2⟩
  have hz2 := hb2.size
  try simp at hz2
  have ha2 : Below w.heap.size w w2 := below_call (by repeat (first | exact Below.refl _ _ | assumption | refine Below.drew ?_ | refine below_drewN ?_ _ | refine Below.alloc ?_ (by first | omega | (simp; done) | (simp; omega)) _ | refine Below.setCell ?_ (by first | omega | (simp; done) | (simp; omega)) _)) hb2
  have f0_0 : w2.cell? ⟨w.heap.size, 0, none⟩ = some (.int .i64 a0_0) := by rw [(bcell hb2).1 _ _ (by first | omega | (simp; done) | (simp; omega))]; simp [go_sem]
  have f0_1 : w2.cell? ⟨w.heap.size, 1, none⟩ = some (.int .i64 a0_1) := by rw [(bcell hb2).1 _ _ (by first | omega | (simp; done) | (simp; omega))]; simp [go_sem]
  have f0_2 : w2.cell? ⟨w.heap.size, 2, none⟩ = some (.int .i64 a0_2) := by rw [(bcell hb2).1 _ _ (by first | omega | (simp; done) | (simp; omega))]; simp [go_sem]
  have f0_3 : w2.cell? ⟨w.heap.size, 3, none⟩ = some (.int .i64 a0_3) := by rw [(bcell hb2).1 _ _ (by first | omega | (simp; done) | (simp; omega))]; simp [go_sem]
  go_wp2_with fail
  refine (toPieceS_two _ _ _ _ _ (HZ1.out.below (by repeat (first | exact Below.refl _ _ | assumption | refine Below.drew ?_ | refine below_drewN ?_ _ | refine Below.alloc ?_ (by first | omega | (simp; done) | (simp; omega)) _ | refine Below.setCell ?_ (by first | omega | (simp; done) | (simp; omega)) _))) HLE1.out).mono ?_
  rintro e3 w3 ⟨rfl, hQ3, hR3, hb3⟩
  have A1 := Lib.hid hR3
  have A1_p := Lib.hid hQ3
  clear hQ3 hR3
  have hz3 := hb3.size
  try simp at hz3
  have ha3 : Below w.heap.size w w3 := below_call (by repeat (first | exact Below.refl _ _ | assumption | refine Below.drew ?_ | refine below_drewN ?_ _ | refine Below.alloc ?_ (by first | omega | (simp; done) | (simp; omega)) _ | refine Below.setCell ?_ (by first | omega | (simp; done) | (simp; omega)) _)) hb3
  replace f0_0 := keep1 hb3 (by first | exact f0_0 | exact keepA f0_0 | exact keepA (keepA f0_0))
  replace f0_1 := keep1 hb3 (by first | exact f0_1 | exact keepA f0_1 | exact keepA (keepA f0_1))
  replace f0_2 := keep1 hb3 (by first | exact f0_2 | exact keepA f0_2 | exact keepA (keepA f0_2))
  replace f0_3 := keep1 hb3 (by first | exact f0_3 | exact keepA f0_3 | exact keepA (keepA f0_3))
  go_wp2_with fail
  refine (HS.out _ _ _ _ A1_p.out).mono ?_
  rintro e4 w4 hN4
  obtain ⟨aW0, cW0, rfl, hO4, hb4⟩ := hN4.told HN.out
  clear hN4
  have W0 := Lib.hid hO4
  clear hO4
  have A1_old := A1
  have hz4 := hb4.size
  try simp at hz4
  have ha4 : Below w.heap.size w w4 := below_call (by repeat (first | exact Below.refl _ _ | assumption | refine Below.drew ?_ | refine below_drewN ?_ _ | refine Below.alloc ?_ (by first | omega | (simp; done) | (simp; omega)) _ | refine Below.setCell ?_ (by first | omega | (simp; done) | (simp; omega)) _)) hb4
  replace f0_0 := keep1 hb4 (by first | exact f0_0 | exact keepA f0_0 | exact keepA (keepA f0_0))
  replace f0_1 := keep1 hb4 (by first | exact f0_1 | exact keepA f0_1 | exact keepA (keepA f0_1))
  replace f0_2 := keep1 hb4 (by first | exact f0_2 | exact keepA f0_2 | exact keepA (keepA f0_2))
  replace f0_3 := keep1 hb4 (by first | exact f0_3 | exact keepA f0_3 | exact keepA (keepA f0_3))
  replace A1 := Lib.hid (PBlk.below (by first | exact A1.out | exact A1.out.alloc _) hb4)
  replace A1_p := Lib.hid (IsPieces.below (by first | exact A1_p.out | exact (A1_p.out.below (by repeat (first | exact Below.refl _ _ | assumption | refine Below.drew ?_ | refine below_drewN ?_ _ | refine Below.alloc ?_ (by first | omega | (simp; done) | (simp; omega)) _ | refine Below.setCell ?_ (by first | omega | (simp; done) | (simp; omega)) _)))) hb4)
  have NE_A1_W0 := Lib.hid (W0.out.notBlk (blk_lt_P A1_old.out) (by first | exact Nat.le_refl _ | (simp; done) | (simp; omega)))
  clear A1_old
  clear A1
  clear A1_p
  go_wp2_with fail
  refine (toPieceS_two _ _ _ _ _ (HZ1.out.below (by repeat (first | exact Below.refl _ _ | assumption | refine Below.drew ?_ | refine below_drewN ?_ _ | refine Below.alloc ?_ (by first | omega | (simp; done) | (simp; omega)) _ | refine Below.setCell ?_ (by first | omega | (simp; done) | (simp; omega)) _))) HLE1.out).mono ?_
  rintro e5 w5 ⟨rfl, hQ5, hR5, hb5⟩
  have X1 := Lib.hid hR5
  have X1_p := Lib.hid hQ5
  clear hQ5 hR5
  have W0_old := W0
  have hz5 := hb5.size
  try simp at hz5
  have ha5 : Below w.heap.size w w5 := below_call (by repeat (first | exact Below.refl _ _ | assumption | refine Below.drew ?_ | refine below_drewN ?_ _ | refine Below.alloc ?_ (by first | omega | (simp; done) | (simp; omega)) _ | refine Below.setCell ?_ (by first | omega | (simp; done) | (simp; omega)) _)) hb5
  replace f0_0 := keep1 hb5 (by first | exact f0_0 | exact keepA f0_0 | exact keepA (keepA f0_0))
  replace f0_1 := keep1 hb5 (by first | exact f0_1 | exact keepA f0_1 | exact keepA (keepA f0_1))
  replace f0_2 := keep1 hb5 (by first | exact f0_2 | exact keepA f0_2 | exact keepA (keepA f0_2))
  replace f0_3 := keep1 hb5 (by first | exact f0_3 | exact keepA f0_3 | exact keepA (keepA f0_3))
  replace W0 := Lib.hid (OwnI.below (by first | exact W0.out | exact W0.out.alloc _ | exact (W0.out.alloc _).alloc _) hb5)
  have NE_W0_X1 := Lib.hid (W0_old.out.notNew (by first | exact Nat.le_refl _ | (simp; done) | (simp; omega)))
  clear W0_old
  go_wp2_with fail
  refine (toFormat_any _ _ _ _ _).mono ?_
  rintro e6 w6 ⟨rfl, hb6⟩
  have hz6 := hb6.size
  try simp at hz6
  have ha6 : Below w.heap.size w w6 := below_call (by repeat (first | exact Below.refl _ _ | assumption | refine Below.drew ?_ | refine below_drewN ?_ _ | refine Below.alloc ?_ (by first | omega | (simp; done) | (simp; omega)) _ | refine Below.setCell ?_ (by first | omega | (simp; done) | (simp; omega)) _)) hb6
  replace f0_0 := keep1 hb6 (by first | exact f0_0 | exact keepA f0_0 | exact keepA (keepA f0_0))
  replace f0_1 := keep1 hb6 (by first | exact f0_1 | exact keepA f0_1 | exact keepA (keepA f0_1))
  replace f0_2 := keep1 hb6 (by first | exact f0_2 | exact keepA f0_2 | exact keepA (keepA f0_2))
  replace f0_3 := keep1 hb6 (by first | exact f0_3 | exact keepA f0_3 | exact keepA (keepA f0_3))
  replace W0 := Lib.hid (OwnI.below (by first | exact W0.out | exact W0.out.alloc _ | exact (W0.out.alloc _).alloc _) hb6)
  replace X1 := Lib.hid (PBlk.below (by first | exact X1.out | exact X1.out.alloc _) hb6)
  replace X1_p := Lib.hid (IsPieces.below (by first | exact X1_p.out | exact (X1_p.out.below (by repeat (first | exact Below.refl _ _ | assumption | refine Below.drew ?_ | refine below_drewN ?_ _ | refine Below.alloc ?_ (by first | omega | (simp; done) | (simp; omega)) _ | refine Below.setCell ?_ (by first | omega | (simp; done) | (simp; omega)) _)))) hb6)
  go_wp2_with fail
  refine (HI.out _ _ _ _ X1_p.out).mono ?_
  rintro e7 w7 hN7
  obtain ⟨aG0, cG0, rfl, hO7, hb7⟩ := hN7.told HN.out
  clear hN7
  have G0 := Lib.hid hO7
  clear hO7
  have W0_old := W0
  have X1_old := X1
  have hz7 := hb7.size
  try simp at hz7
  have ha7 : Below w.heap.size w w7 := below_call (by repeat (first | exact Below.refl _ _ | assumption | refine Below.drew ?_ | refine below_drewN ?_ _ | refine Below.alloc ?_ (by first | omega | (simp; done) | (simp; omega)) _ | refine Below.setCell ?_ (by first | omega | (simp; done) | (simp; omega)) _)) hb7
  replace f0_0 := keep1 hb7 (by first | exact f0_0 | exact keepA f0_0 | exact keepA (keepA f0_0))
  replace f0_1 := keep1 hb7 (by first | exact f0_1 | exact keepA f0_1 | exact keepA (keepA f0_1))
  replace f0_2 := keep1 hb7 (by first | exact f0_2 | exact keepA f0_2 | exact keepA (keepA f0_2))
  replace f0_3 := keep1 hb7 (by first | exact f0_3 | exact keepA f0_3 | exact keepA (keepA f0_3))
  replace W0 := Lib.hid (OwnI.below (by first | exact W0.out | exact W0.out.alloc _ | exact (W0.out.alloc _).alloc _) hb7)
  replace X1 := Lib.hid (PBlk.below (by first | exact X1.out | exact X1.out.alloc _) hb7)
  replace X1_p := Lib.hid (IsPieces.below (by first | exact X1_p.out | exact (X1_p.out.below (by repeat (first | exact Below.refl _ _ | assumption | refine Below.drew ?_ | refine below_drewN ?_ _ | refine Below.alloc ?_ (by first | omega | (simp; done) | (simp; omega)) _ | refine Below.setCell ?_ (by first | omega | (simp; done) | (simp; omega)) _)))) hb7)
  have NE_W0_G0 := Lib.hid (W0_old.out.apart G0.out (by first | exact Nat.le_refl _ | (simp; done) | (simp; omega)))
  have NE_X1_G0 := Lib.hid (G0.out.notBlk (blk_lt_P X1_old.out) (by first | exact Nat.le_refl _ | (simp; done) | (simp; omega)))
  clear W0_old
  clear X1_old
  go_wp2_with fail
  refine (eqInt64S_same _ _ _ _ _ _ _ G0.out.row W0.out.row).mono ?_
  rintro e8 w8 ⟨rfl, hb8⟩
  have hz8 := hb8.size
  try simp at hz8
  have ha8 : Below w.heap.size w w8 := below_call (by repeat (first | exact Below.refl _ _ | assumption | refine Below.drew ?_ | refine below_drewN ?_ _ | refine Below.alloc ?_ (by first | omega | (simp; done) | (simp; omega)) _ | refine Below.setCell ?_ (by first | omega | (simp; done) | (simp; omega)) _)) hb8
  replace f0_0 := keep1 hb8 (by first | exact f0_0 | exact keepA f0_0 | exact keepA (keepA f0_0))
  replace f0_1 := keep1 hb8 (by first | exact f0_1 | exact keepA f0_1 | exact keepA (keepA f0_1))
  replace f0_2 := keep1 hb8 (by first | exact f0_2 | exact keepA f0_2 | exact keepA (keepA f0_2))
  replace f0_3 := keep1 hb8 (by first | exact f0_3 | exact keepA f0_3 | exact keepA (keepA f0_3))
  replace W0 := Lib.hid (OwnI.below (by first | exact W0.out | exact W0.out.alloc _ | exact (W0.out.alloc _).alloc _) hb8)
  replace X1 := Lib.hid (PBlk.below (by first | exact X1.out | exact X1.out.alloc _) hb8)
  replace X1_p := Lib.hid (IsPieces.below (by first | exact X1_p.out | exact (X1_p.out.below (by repeat (first | exact Below.refl _ _ | assumption | refine Below.drew ?_ | refine below_drewN ?_ _ | refine Below.alloc ?_ (by first | omega | (simp; done) | (simp; omega)) _ | refine Below.setCell ?_ (by first | omega | (simp; done) | (simp; omega)) _)))) hb8)
  replace G0 := Lib.hid (OwnI.below (by first | exact G0.out | exact G0.out.alloc _ | exact (G0.out.alloc _).alloc _) hb8)
  go_wp2_with fail
  refine (toPieceS_two _ _ _ _ _ (HZ1.out.below (by repeat (first | exact Below.refl _ _ | assumption | refine Below.drew ?_ | refine below_drewN ?_ _ | refine Below.alloc ?_ (by first | omega | (simp; done) | (simp; omega)) _ | refine Below.setCell ?_ (by first | omega | (simp; done) | (simp; omega)) _))) HLE1.out).mono ?_
  rintro e9 w9 ⟨rfl, hQ9, hR9, hb9⟩
  have Y1 := Lib.hid hR9
  have Y1_p := Lib.hid hQ9
  clear hQ9 hR9
  have W0_old := W0
  have X1_old := X1
  have G0_old := G0
  have hz9 := hb9.size
  try simp at hz9
  have ha9 : Below w.heap.size w w9 := below_call (by repeat (first | exact Below.refl _ _ | assumption | refine Below.drew ?_ | refine below_drewN ?_ _ | refine Below.alloc ?_ (by first | omega | (simp; done) | (simp; omega)) _ | refine Below.setCell ?_ (by first | omega | (simp; done) | (simp; omega)) _)) hb9
  replace f0_0 := keep1 hb9 (by first | exact f0_0 | exact keepA f0_0 | exact keepA (keepA f0_0))
  replace f0_1 := keep1 hb9 (by first | exact f0_1 | exact keepA f0_1 | exact keepA (keepA f0_1))
  replace f0_2 := keep1 hb9 (by first | exact f0_2 | exact keepA f0_2 | exact keepA (keepA f0_2))
  replace f0_3 := keep1 hb9 (by first | exact f0_3 | exact keepA f0_3 | exact keepA (keepA f0_3))
  replace W0 := Lib.hid (OwnI.below (by first | exact W0.out | exact W0.out.alloc _ | exact (W0.out.alloc _).alloc _) hb9)
  replace X1 := Lib.hid (PBlk.below (by first | exact X1.out | exact X1.out.alloc _) hb9)
  replace X1_p := Lib.hid (IsPieces.below (by first | exact X1_p.out | exact (X1_p.out.below (by repeat (first | exact Below.refl _ _ | assumption | refine Below.drew ?_ | refine below_drewN ?_ _ | refine Below.alloc ?_ (by first | omega | (simp; done) | (simp; omega)) _ | refine Below.setCell ?_ (by first | omega | (simp; done) | (simp; omega)) _)))) hb9)
  replace G0 := Lib.hid (OwnI.below (by first | exact G0.out | exact G0.out.alloc _ | exact (G0.out.alloc _).alloc _) hb9)
  have NE_W0_Y1 := Lib.hid (W0_old.out.notNew (by first | exact Nat.le_refl _ | (simp; done) | (simp; omega)))
  have NE_G0_Y1 := Lib.hid (G0_old.out.notNew (by first | exact Nat.le_refl _ | (simp; done) | (simp; omega)))
  clear W0_old
  clear X1_old
  clear G0_old
  go_wp2_with fail
  refine (eqPieceS_same _ _ _ _ _ _ _ X1_p.out Y1_p.out).mono ?_
  rintro e10 w10 ⟨rfl, hb10⟩
  have hz10 := hb10.size
  try simp at hz10
  have ha10 : Below w.heap.size w w10 := below_call (by repeat (first | exact Below.refl _ _ | assumption | refine Below.drew ?_ | refine below_drewN ?_ _ | refine Below.alloc ?_ (by first | omega | (simp; done) | (simp; omega)) _ | refine Below.setCell ?_ (by first | omega | (simp; done) | (simp; omega)) _)) hb10
  replace f0_0 := keep1 hb10 (by first | exact f0_0 | exact keepA f0_0 | exact keepA (keepA f0_0))
  replace f0_1 := keep1 hb10 (by first | exact f0_1 | exact keepA f0_1 | exact keepA (keepA f0_1))
  replace f0_2 := keep1 hb10 (by first | exact f0_2 | exact keepA f0_2 | exact keepA (keepA f0_2))
  replace f0_3 := keep1 hb10 (by first | exact f0_3 | exact keepA f0_3 | exact keepA (keepA f0_3))
  replace W0 := Lib.hid (OwnI.below (by first | exact W0.out | exact W0.out.alloc _ | exact (W0.out.alloc _).alloc _) hb10)
  replace X1 := Lib.hid (PBlk.below (by first | exact X1.out | exact X1.out.alloc _) hb10)
  replace X1_p := Lib.hid (IsPieces.below (by first | exact X1_p.out | exact (X1_p.out.below (by repeat (first | exact Below.refl _ _ | assumption | refine Below.drew ?_ | refine below_drewN ?_ _ | refine Below.alloc ?_ (by first | omega | (simp; done) | (simp; omega)) _ | refine Below.setCell ?_ (by first | omega | (simp; done) | (simp; omega)) _)))) hb10)
  replace G0 := Lib.hid (OwnI.below (by first | exact G0.out | exact G0.out.alloc _ | exact (G0.out.alloc _).alloc _) hb10)
  replace Y1 := Lib.hid (PBlk.below (by first | exact Y1.out | exact Y1.out.alloc _) hb10)
  replace Y1_p := Lib.hid (IsPieces.below (by first | exact Y1_p.out | exact (Y1_p.out.below (by repeat (first | exact Below.refl _ _ | assumption | refine Below.drew ?_ | refine below_drewN ?_ _ | refine Below.alloc ?_ (by first | omega | (simp; done) | (simp; omega)) _ | refine Below.setCell ?_ (by first | omega | (simp; done) | (simp; omega)) _)))) hb10)
  clear Y1
  clear Y1_p
  go_wp2_with fail
  have LT_X1 := blk_lt_P X1.out
  refine (markPieceS_any _ _ _ _ _ X1.out (by omega) (by omega) (by omega)).mono ?_
  rintro e11 w11 ⟨rfl, hG11⟩
  have ha11 : Below w.heap.size w w11 := below_markB (by repeat (first | exact Below.refl _ _ | assumption | refine Below.drew ?_ | refine below_drewN ?_ _ | refine Below.alloc ?_ (by first | omega | (simp; done) | (simp; omega)) _ | refine Below.setCell ?_ (by first | omega | (simp; done) | (simp; omega)) _)) (by omega) hG11
  have hz11 := hG11.size
  replace f0_0 := keepB hG11 (by omega) f0_0
  replace f0_1 := keepB hG11 (by omega) f0_1
  replace f0_2 := keepB hG11 (by omega) f0_2
  replace f0_3 := keepB hG11 (by omega) f0_3
  replace W0 := Lib.hid (OwnI.keptB W0.out hG11 NE_W0_X1.out)
  replace G0 := Lib.hid (OwnI.keptB G0.out hG11 NE_X1_G0.out)
  clear X1 X1_p
  clear hG11
  go_wp2_with fail
  refine (eqInt64S_same _ _ _ _ _ _ _ G0.out.row W0.out.row).mono ?_
  rintro e12 w12 ⟨rfl, hb12⟩
  have hz12 := hb12.size
  try simp at hz12
  have ha12 : Below w.heap.size w w12 := below_call (by repeat (first | exact Below.refl _ _ | assumption | refine Below.drew ?_ | refine below_drewN ?_ _ | refine Below.alloc ?_ (by first | omega | (simp; done) | (simp; omega)) _ | refine Below.setCell ?_ (by first | omega | (simp; done) | (simp; omega)) _)) hb12
  replace f0_0 := keep1 hb12 (by first | exact f0_0 | exact keepA f0_0 | exact keepA (keepA f0_0))
  replace f0_1 := keep1 hb12 (by first | exact f0_1 | exact keepA f0_1 | exact keepA (keepA f0_1))
  replace f0_2 := keep1 hb12 (by first | exact f0_2 | exact keepA f0_2 | exact keepA (keepA f0_2))
  replace f0_3 := keep1 hb12 (by first | exact f0_3 | exact keepA f0_3 | exact keepA (keepA f0_3))
  replace W0 := Lib.hid (OwnI.below (by first | exact W0.out | exact W0.out.alloc _ | exact (W0.out.alloc _).alloc _) hb12)
  replace G0 := Lib.hid (OwnI.below (by first | exact G0.out | exact G0.out.alloc _ | exact (G0.out.alloc _).alloc _) hb12)
  go_wp2_with fail
  refine (markInt64S_any _ _ _ _ _ _ _ G0.out (by omega) (by omega) (by omega)).mono ?_
  rintro e13 w13 ⟨rfl, hO13, hG13⟩
  have ha13 : Below w.heap.size w w13 := below_mark (by repeat (first | exact Below.refl _ _ | assumption | refine Below.drew ?_ | refine below_drewN ?_ _ | refine Below.alloc ?_ (by first | omega | (simp; done) | (simp; omega)) _ | refine Below.setCell ?_ (by first | omega | (simp; done) | (simp; omega)) _)) (by omega) G0.out hG13
  have hz13 := hG13.size
  replace f0_0 := keepM G0.out hG13 (by omega) f0_0
  replace f0_1 := keepM G0.out hG13 (by omega) f0_1
  replace f0_2 := keepM G0.out hG13 (by omega) f0_2
  replace f0_3 := keepM G0.out hG13 (by omega) f0_3
  replace W0 := Lib.hid (OwnI.keptM W0.out hG13 NE_W0_G0.out.1)
  replace G0 := Lib.hid hO13
  clear hO13 hG13
  go_wp2_with fail
  refine (heldInt64S_any _ _ _ _ _ G0.out.row (by omega) (by omega) (by omega)).mono ?_
  rintro e14 v14 ⟨rfl, rfl⟩
  go_wp2_with fail
  refine (toFormat_any _ _ _ _ _).mono ?_
  rintro e15 w15 ⟨rfl, hb15⟩
  have hz15 := hb15.size
  try simp at hz15
  have ha15 : Below w.heap.size w w15 := below_call (by repeat (first | exact Below.refl _ _ | assumption | refine Below.drew ?_ | refine below_drewN ?_ _ | refine Below.alloc ?_ (by first | omega | (simp; done) | (simp; omega)) _ | refine Below.setCell ?_ (by first | omega | (simp; done) | (simp; omega)) _)) hb15
  replace f0_0 := keep1 hb15 (by first | exact f0_0 | exact keepA f0_0 | exact keepA (keepA f0_0))
  replace f0_1 := keep1 hb15 (by first | exact f0_1 | exact keepA f0_1 | exact keepA (keepA f0_1))
  replace f0_2 := keep1 hb15 (by first | exact f0_2 | exact keepA f0_2 | exact keepA (keepA f0_2))
  replace f0_3 := keep1 hb15 (by first | exact f0_3 | exact keepA f0_3 | exact keepA (keepA f0_3))
  replace W0 := Lib.hid (OwnI.below (by first | exact W0.out | exact W0.out.alloc _ | exact (W0.out.alloc _).alloc _) hb15)
  replace G0 := Lib.hid (OwnI.below (by first | exact G0.out | exact G0.out.alloc _ | exact (G0.out.alloc _).alloc _) hb15)
  go_wp2_with fail
  refine (toPieceS_two _ _ _ _ _ (HZ1.out.below (by repeat (first | exact Below.refl _ _ | assumption | refine Below.drew ?_ | refine below_drewN ?_ _ | refine Below.alloc ?_ (by first | omega | (simp; done) | (simp; omega)) _ | refine Below.setCell ?_ (by first | omega | (simp; done) | (simp; omega)) _))) HLE1.out).mono ?_
  rintro e16 w16 ⟨rfl, hQ16, hR16, hb16⟩
  have B1 := Lib.hid hR16
  have B1_p := Lib.hid hQ16
  clear hQ16 hR16
  have W0_old := W0
  have G0_old := G0
  have hz16 := hb16.size
  try simp at hz16
  have ha16 : Below w.heap.size w w16 := below_call (by repeat (first | exact Below.refl _ _ | assumption | refine Below.drew ?_ | refine below_drewN ?_ _ | refine Below.alloc ?_ (by first | omega | (simp; done) | (simp; omega)) _ | refine Below.setCell ?_ (by first | omega | (simp; done) | (simp; omega)) _)) hb16
  replace f0_0 := keep1 hb16 (by first | exact f0_0 | exact keepA f0_0 | exact keepA (keepA f0_0))
  replace f0_1 := keep1 hb16 (by first | exact f0_1 | exact keepA f0_1 | exact keepA (keepA f0_1))
  replace f0_2 := keep1 hb16 (by first | exact f0_2 | exact keepA f0_2 | exact keepA (keepA f0_2))
  replace f0_3 := keep1 hb16 (by first | exact f0_3 | exact keepA f0_3 | exact keepA (keepA f0_3))
  replace W0 := Lib.hid (OwnI.below (by first | exact W0.out | exact W0.out.alloc _ | exact (W0.out.alloc _).alloc _) hb16)
  replace G0 := Lib.hid (OwnI.below (by first | exact G0.out | exact G0.out.alloc _ | exact (G0.out.alloc _).alloc _) hb16)
  have NE_W0_B1 := Lib.hid (W0_old.out.notNew (by first | exact Nat.le_refl _ | (simp; done) | (simp; omega)))
  have NE_G0_B1 := Lib.hid (G0_old.out.notNew (by first | exact Nat.le_refl _ | (simp; done) | (simp; omega)))
  clear W0_old
  clear G0_old
  go_wp2_with fail
  refine (HI.out _ _ _ _ B1_p.out).mono ?_
  rintro e17 w17 hN17
  obtain ⟨aH0, cH0, rfl, hO17, hb17⟩ := hN17.told HN.out
  clear hN17
  have H0 := Lib.hid hO17
  clear hO17
  have W0_old := W0
  have G0_old := G0
  have B1_old := B1
  have hz17 := hb17.size
  try simp at hz17
  have ha17 : Below w.heap.size w w17 := below_call (by repeat (first | exact Below.refl _ _ | assumption | refine Below.drew ?_ | refine below_drewN ?_ _ | refine Below.alloc ?_ (by first | omega | (simp; done) | (simp; omega)) _ | refine Below.setCell ?_ (by first | omega | (simp; done) | (simp; omega)) _)) hb17
  replace f0_0 := keep1 hb17 (by first | exact f0_0 | exact keepA f0_0 | exact keepA (keepA f0_0))
  replace f0_1 := keep1 hb17 (by first | exact f0_1 | exact keepA f0_1 | exact keepA (keepA f0_1))
  replace f0_2 := keep1 hb17 (by first | exact f0_2 | exact keepA f0_2 | exact keepA (keepA f0_2))
  replace f0_3 := keep1 hb17 (by first | exact f0_3 | exact keepA f0_3 | exact keepA (keepA f0_3))
  replace W0 := Lib.hid (OwnI.below (by first | exact W0.out | exact W0.out.alloc _ | exact (W0.out.alloc _).alloc _) hb17)
  replace G0 := Lib.hid (OwnI.below (by first | exact G0.out | exact G0.out.alloc _ | exact (G0.out.alloc _).alloc _) hb17)
  replace B1 := Lib.hid (PBlk.below (by first | exact B1.out | exact B1.out.alloc _) hb17)
  replace B1_p := Lib.hid (IsPieces.below (by first | exact B1_p.out | exact (B1_p.out.below (by repeat (first | exact Below.refl _ _ | assumption | refine Below.drew ?_ | refine below_drewN ?_ _ | refine Below.alloc ?_ (by first | omega | (simp; done) | (simp; omega)) _ | refine Below.setCell ?_ (by first | omega | (simp; done) | (simp; omega)) _)))) hb17)
  have NE_W0_H0 := Lib.hid (W0_old.out.apart H0.out (by first | exact Nat.le_refl _ | (simp; done) | (simp; omega)))
  have NE_G0_H0 := Lib.hid (G0_old.out.apart H0.out (by first | exact Nat.le_refl _ | (simp; done) | (simp; omega)))
  have NE_B1_H0 := Lib.hid (H0.out.notBlk (blk_lt_P B1_old.out) (by first | exact Nat.le_refl _ | (simp; done) | (simp; omega)))
  clear W0_old
  clear G0_old
  clear B1_old
  clear B1
  clear B1_p
  go_wp2_with fail
  refine (eqInt64S_same _ _ _ _ _ _ _ H0.out.row W0.out.row).mono ?_
  rintro e18 w18 ⟨rfl, hb18⟩
  have hz18 := hb18.size
  try simp at hz18
  have ha18 : Below w.heap.size w w18 := below_call (by repeat (first | exact Below.refl _ _ | assumption | refine Below.drew ?_ | refine below_drewN ?_ _ | refine Below.alloc ?_ (by first | omega | (simp; done) | (simp; omega)) _ | refine Below.setCell ?_ (by first | omega | (simp; done) | (simp; omega)) _)) hb18
  replace f0_0 := keep1 hb18 (by first | exact f0_0 | exact keepA f0_0 | exact keepA (keepA f0_0))
  replace f0_1 := keep1 hb18 (by first | exact f0_1 | exact keepA f0_1 | exact keepA (keepA f0_1))
  replace f0_2 := keep1 hb18 (by first | exact f0_2 | exact keepA f0_2 | exact keepA (keepA f0_2))
  replace f0_3 := keep1 hb18 (by first | exact f0_3 | exact keepA f0_3 | exact keepA (keepA f0_3))
  replace W0 := Lib.hid (OwnI.below (by first | exact W0.out | exact W0.out.alloc _ | exact (W0.out.alloc _).alloc _) hb18)
  replace G0 := Lib.hid (OwnI.below (by first | exact G0.out | exact G0.out.alloc _ | exact (G0.out.alloc _).alloc _) hb18)
  replace H0 := Lib.hid (OwnI.below (by first | exact H0.out | exact H0.out.alloc _ | exact (H0.out.alloc _).alloc _) hb18)
  go_wp2_with fail
  refine (heldInt64S_any _ _ _ _ _ G0.out.row (by omega) (by omega) (by omega)).mono ?_
  rintro e19 v19 ⟨rfl, rfl⟩
  go_wp2
  go_ret
  exact ⟨rfl, (by repeat (first | exact Below.refl _ _ | assumption | refine Below.drew ?_ | refine below_drewN ?_ _ | refine Below.alloc ?_ (by first | omega | (simp; done) | (simp; omega)) _ | refine Below.setCell ?_ (by first | omega | (simp; done) | (simp; omega)) _))⟩
/-! ### The row's step: the arguments are opened, the walk is called, the arguments read as before. -/
set_option maxRecDepth 100000 in
set_option maxHeartbeats 1000000 in
set_option linter.unusedVariables false in
theorem lifted_FnExactShareBricks (os : Os) (started : os.Started) (H : Type) (enc : TypeId × Value → H) :
    ReturnsInHanded {} Try.checked os 12 .any (Rows.fnExactShareBricksSpec.pre6 enc Try.prog Try.f12 Rows.fnExactShareBricksRow.domain false) (Rows.fnExactShareBricksSpec.post enc Try.prog Try.f12 false true false false) := by
  refine returnsInHanded_of_change (C := Try.checked) ownNone started (by kernel_rfl) Try.func12
    (ChangeSpec.witness6 (enc := enc) (C := Try.checked) false ⟨#[], #[.agg #[.int .i64 0, .int .i64 0, .int .i64 0, .int .i64 0], .slice none 0 0, .int .i64 0], []⟩ 8 (by kernel_rfl) (by kernel_rfl) (by kernel_rfl) (by kernel_rfl)) ?_
  intro W base args ds gs before hval0 hW hcnd _
  have hval : ∀ (j : Nat) t v, Try.f12.params[j]? = some t → args[j]? = some v → Value.okWide Try.prog W .any base t v := hval0
  have hW' := hW
  obtain ⟨p, q, hA0, hV, rfl, hfz, hnd⟩ := hW
  have hA : DataW.TrodAll enc Try.prog W 0 (fun _ => true) true Try.f12.params.toList args.toList ds p := hA0
  rw [Try.params12] at hA hval
  obtain ⟨v0, vs0, d0, ds0, p0, q0, hargs, rfl, rfl, h0, r0⟩ := trodAll_cons hA
  obtain ⟨v1, vs1, d1, ds1, p1, q1, rfl, rfl, rfl, h1, r1⟩ := trodAll_cons r0
  obtain ⟨v2, vs2, d2, ds2, p2, q2, rfl, rfl, rfl, h2, r2⟩ := trodAll_cons r1
  obtain ⟨rfl, rfl, rfl⟩ := trodAll_nil r2
  obtain rfl : args = #[v0, v1, v2] := by cases args; simp_all
  obtain ⟨rfl, rfl⟩ := trodVars_none hV
  have k0 := h0
  have lt0 : ∀ x ∈ p0, x.block < W.heap.size := by obtain ⟨m, hm⟩ := k0; exact DataW.trod_lt m _ _ _ hm
  obtain ⟨c0_0, c0_1, c0_2, c0_3, y0_0, y0_1, y0_2, y0_3, m0, rfl, _, _, z0_0, z0_1, z0_2, z0_3⟩ := Joins.open_agg4 Try.underlying34 (by kernel_rfl) (by kernel_rfl) (hval 0 34 v0 rfl rfl) h0
  obtain ⟨a0_0, e0_0, _, w0_0⟩ := DataW.trod_int Try.underlying2 z0_0
  simp only [List.cons.injEq, and_true] at e0_0
  subst e0_0
  obtain ⟨a0_1, e0_1, _, w0_1⟩ := DataW.trod_int Try.underlying2 z0_1
  simp only [List.cons.injEq, and_true] at e0_1
  subst e0_1
  obtain ⟨a0_2, e0_2, _, w0_2⟩ := DataW.trod_int Try.underlying2 z0_2
  simp only [List.cons.injEq, and_true] at e0_2
  subst e0_2
  obtain ⟨a0_3, e0_3, _, w0_3⟩ := DataW.trod_int Try.underlying2 z0_3
  simp only [List.cons.injEq, and_true] at e0_3
  subst e0_3
  have k1 := h1
  have lt1 : ∀ x ∈ p1, x.block < W.heap.size := by obtain ⟨m, hm⟩ := k1; exact DataW.trod_lt m _ _ _ hm
  obtain ⟨a1, len1, cap1, rfl⟩ := okWide_slice Try.underlying47 (hval 1 47 v1 rfl rfl)
  obtain ⟨z1, w1⟩ : ∃ zs, IsPieces W a1 len1 cap1 zs := by
    obtain ⟨fuel, hf⟩ := h1
    exact isPieces_open Try.underlying47 Try.underlying36 Try.underlying2 (by kernel_rfl) rfl (by kernel_rfl) hf
  obtain ⟨a2, rfl, rfl, rfl, w2⟩ := open_int Try.underlying2 (hval 2 2 v2 rfl rfl) h2
  clear hA0 hval0
  refine (exactShareBricks_walk a0_0 (bounds_i64 w0_0).1 (bounds_i64 w0_0).2 a0_1 (bounds_i64 w0_1).1 (bounds_i64 w0_1).2 a0_2 (bounds_i64 w0_2).1 (bounds_i64 w0_2).2 a0_3 (bounds_i64 w0_3).1 (bounds_i64 w0_3).2 a1 len1 cap1 z1 a2 (bounds_i64 w2).1 (bounds_i64 w2).2 W w1).mono fun e W' ⟨he, bel⟩ => ?_
  subst he
  exact ⟨_, rfl, _, _, _, [], _, [], hW', trodAll_mk1 (shut_bool Try.underlying4 _), (trodAll_cons_mk (Below.trod laidOut (by kernel_rfl) (of_decide_eq_true (by kernel_rfl)) k0 bel lt0) (trodAll_cons_mk (Below.trod laidOut (by kernel_rfl) (of_decide_eq_true (by kernel_rfl)) k1 bel lt1) (trodAll_cons_mk (shut_int Try.underlying2 w2) trodAll_mk0))), rfl, bel.frame _, fun h => by cases h⟩

/-- The statement, proved. -/
theorem fnExactShareBricks_holds : Rows.FnExactShareBricksSaid :=
  OpenClaim.holds_of_wide 12 Try.f12 rfl rfl rfl rfl rfl rfl rfl ⟨rfl, rfl, rfl, rfl, rfl⟩ rfl rfl rfl rfl rfl (by kernel_rfl) Try.func12 (by kernel_rfl)
    (of_decide_eq_true (by kernel_rfl)) (by unfold Func.isWrapper; first | (rw [if_pos (by decide +kernel)]; kernel_rfl) | (rw [if_neg (by decide +kernel)]; exact ⟨rfl, rfl⟩))
    (fun os started H enc _ => lifted_FnExactShareBricks os started H enc)
end Go.Proofs.Ytgnalhnbdpigdaa
