/- Contract of the reference's drawing of a ring (l12Draw, A2Ring): the ring that comes is valid; no condition beyond the bytes that are read. -/
import Derived.Test.YtjafjkndigchcaaDraw
namespace Go.Proofs.Ytjafjkndigchcaa
open Go.RowKit

/-- What l12Draw leaves. -/
def DrewRing (w : World) (b : Nat) (e : Ending) (w' : World) : Prop :=
  ∃ r d k j : Int, e = .returned (.agg #[.int .i64 r, .int .i64 d, .int .i64 k, .int .i64 j]) ∧ 100 ≤ r ∧ r ≤ 1599 ∧ 100 ≤ d ∧ d ≤ 395 ∧ 50 ≤ k ∧ k ≤ 109 ∧ 1 ≤ j ∧ j ≤ 12 ∧ w.grownBy w' (some b)
set_option maxHeartbeats 2000000 in
theorem l12Draw_any (b : Nat) (a : Option Addr) (len cap : Nat) (zs : List Int) (w : World) (h : Src w b a len cap zs 0) :
    Calls Try.prog 56 #[.pointer (some ⟨b, 0, none⟩)] w (DrewRing w b) := by
  have hbl := h.lt
  have hrow := Lib.hid h.row_ne
  have H := Lib.hid h
  clear h
  go_enter Try.func56, Try.ntmps56
  go_wp2_with fail
  refine (pick_any b a len cap zs 0 1500 _ (H.out.alloc _) (by omega) (by omega) (by omega)).mono ?_
  rintro e1 w1 ⟨r1, rfl, lo1, hi1, hs1, hg1⟩
  have HR1 := Lib.hid (blk_grown (blk_new w _) hg1 (by omega))
  have hz1 := hg1.size
  simp at hz1
  go_wp2_with fail
  refine (pick_any b a len cap zs 2 60 _ (hs1.alloc _) (by omega) (by omega) (by omega)).mono ?_
  rintro e2 w2 ⟨r2, rfl, lo2, hi2, hs2, hg2⟩
  have HR2 := Lib.hid (blk_grown (blk_alloc HR1.out) hg2 (by omega))
  have HQ2 := Lib.hid (blk_grown (blk_new w1 _) hg2 (by omega))
  have hz2 := hg2.size
  simp at hz2
  have q1 := cellOf HQ2.out 1
  have f1 := frozenOf HQ2.out 1
  simp at q1
  go_wp2_with fail
  clear q1 f1
  refine (pick_any b a len cap zs 4 60 _ (hs2.setCell (by simp; omega) (fun h0 x hx => by have := (hrow.out h0 x hx).2; simp; omega) _) (by omega) (by omega) (by omega)).mono ?_
  rintro e3 w3 ⟨r3, rfl, lo3, hi3, hs3, hg3⟩
  have HR3 := Lib.hid (blk_grown (blk_far HR2.out (by simp; omega) _) hg3 (by omega))
  have HQ3 := Lib.hid (blk_grown (blk_set HQ2.out 1 _) hg3 (by omega))
  have hz3 := hg3.size
  simp at hz3
  have q1 := cellOf HQ3.out 2
  have f1 := frozenOf HQ3.out 2
  simp at q1
  go_wp2_with fail
  clear q1 f1
  refine (pick_any b a len cap zs 6 12 _ (hs3.setCell (by simp; omega) (fun h0 x hx => by have := (hrow.out h0 x hx).2; simp; omega) _) (by omega) (by omega) (by omega)).mono ?_
  rintro e4 w4 ⟨r4, rfl, lo4, hi4, hs4, hg4⟩
  have HR4 := Lib.hid (blk_grown (blk_far HR3.out (by simp; omega) _) hg4 (by omega))
  have HQ4 := Lib.hid (blk_grown (blk_set HQ3.out 2 _) hg4 (by omega))
  have hz4 := hg4.size
  simp at hz4
  have q0 := cellOf HQ4.out 0
  have q1 := cellOf HQ4.out 1
  have q2 := cellOf HQ4.out 2
  have q3 := cellOf HQ4.out 3
  have f3 := frozenOf HQ4.out 3
  have p0 := cellOf HR4.out 0
  have p1 := cellOf HR4.out 1
  have p2 := cellOf HR4.out 2
  have p3 := cellOf HR4.out 3
  have g0 := frozenOf HR4.out 0
  have g1 := frozenOf HR4.out 1
  have g2 := frozenOf HR4.out 2
  have g3 := frozenOf HR4.out 3
  simp at q0 q1 q2 q3 p0 p1 p2 p3
  have hne : w.heap.size ≠ w1.heap.size := by omega
  have hne' : w1.heap.size ≠ w.heap.size := by omega
  go_wp2
  have hG : w.grownBy w4 (some b) := grown_trans (grown_new (grown_trans (grown_new (grown_trans (grown_alloc (grown_trans (grown_alloc (World.grownBy.refl w (some b)) _) hg1) _) hg2) (by simp; omega) _) hg3) (by simp; omega) _) hg4
  refine bodyPost_ret (v := .agg #[.int .i64 (100 + r1), .int .i64 (100 + 5 * r2), .int .i64 (50 + r3), .int .i64 (1 + r4)]) (by simp [results, Try.results56, go_sem, *]) rfl
    ⟨_, _, _, _, rfl, by omega, by omega, by omega, by omega, by omega, by omega, by omega, by omega, ?_⟩
  exact grown_new (grown_new (grown_new (grown_new (grown_new hG (by simp; omega) _) (by simp) _) (by simp) _) (by simp) _) (by simp) _
/-- What A2Ring leaves. -/
def NewRing (w : World) (e : Ending) (w' : World) : Prop :=
  ∃ r d k j : Int, e = .returned (.agg #[.int .i64 r, .int .i64 d, .int .i64 k, .int .i64 j]) ∧ 100 ≤ r ∧ r ≤ 1599 ∧ 100 ≤ d ∧ d ≤ 395 ∧ 50 ≤ k ∧ k ≤ 109 ∧ 1 ≤ j ∧ j ≤ 12 ∧ Below w.heap.size w w'
set_option maxHeartbeats 2000000 in
theorem a2Ring_any (a : Option Addr) (len cap : Nat) (zs : List Int) (w : World) (h : IsRow .u8 w a len cap zs) :
    Calls Try.prog 39 #[.slice a len cap] w (NewRing w) := by
  have H := Lib.hid h
  clear h
  go_enter Try.func39, Try.ntmps39
  go_wp2_with fail
  refine (l00From_any _ _ _ _).mono ?_
  rintro e1 w1 ⟨rfl, rfl⟩
  go_wp2_with fail
  refine (l12Draw_any _ _ _ _ zs _ (src_new' (H.out.below ((Below.refl _ _).alloc (Nat.le_refl _) _)) (by simp))).mono ?_
  rintro e2 w2 ⟨r, d, k, j, rfl, h1, h2, h3, h4, h5, h6, h7, h8, hg⟩
  have HR := Lib.hid (blk_grown (blk_alloc (blk_new w _)) hg (by simp))
  have p0 := cellOf HR.out 0
  have p1 := cellOf HR.out 1
  have p2 := cellOf HR.out 2
  have p3 := cellOf HR.out 3
  have g0 := frozenOf HR.out 0
  have g1 := frozenOf HR.out 1
  have g2 := frozenOf HR.out 2
  have g3 := frozenOf HR.out 3
  simp at p0 p1 p2 p3
  have ha : Below w.heap.size w w2 := below_of_grown (((Below.refl _ _).alloc (Nat.le_refl _) _).alloc (by simp) _) hg (by simp)
  clear hg
  go_wp2
  refine bodyPost_ret (v := .agg #[.int .i64 r, .int .i64 d, .int .i64 k, .int .i64 j]) (by simp [results, Try.results39, go_sem, *]) rfl
    ⟨_, _, _, _, rfl, h1, h2, h3, h4, h5, h6, h7, h8, ?_⟩
  exact (by repeat (first | exact Below.refl _ _ | assumption | refine Below.drew ?_ | refine below_drewN ?_ _ | refine Below.alloc ?_ (by first | omega | (simp; done) | (simp; omega)) _ | refine Below.setCell ?_ (by first | omega | (simp; done) | (simp; omega)) _))
end Go.Proofs.Ytjafjkndigchcaa
