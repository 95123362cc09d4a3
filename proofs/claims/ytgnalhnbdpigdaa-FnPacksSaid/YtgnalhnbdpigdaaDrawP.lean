/- Contracts of the reference's drawing of packs and bags (l11DrawMany, DrawPacksFor, DrawBagsFor): some numbers come; no old memory turns; condition: the bytes can be read. -/
import Derived.Test.YtgnalhnbdpigdaaDrawG
namespace Go.Proofs.Ytgnalhnbdpigdaa
set_option linter.unusedVariables false
open Go.RowKit

set_option maxHeartbeats 2000000 in
theorem l11DrawMany_any (b : Nat) (a : Option Addr) (len cap : Nat) (zs : List Int) (N : Int) (w : World) (h : Src w b a len cap zs N) (hN : N ≤ 100000) :
    Calls Try.prog 87 #[.pointer (some ⟨b, 0, none⟩)] w (DrewI w b a len cap zs (N + 6)) := by
  have H1 := Lib.hid (one_any b a len cap zs N 10 w h (by omega) (by omega) (by omega))
  clear h
  go_enter Try.func87, Try.ntmps87
  go_wp2_with fail
  refine H1.out.mono ?_
  rintro e1 w1 ⟨r, rfl, hs1, hg1⟩
  cases r
  · go_wp2_with fail
    refine (pick_any b a len cap zs _ 200 _ hs1 (by omega) (by omega) (by omega)).mono ?_
    rintro e2 w2 ⟨r2, rfl, r20, r21, hs2, hg2⟩
    go_wp2_with fail
    refine (pick_any b a len cap zs _ 60 _ hs2 (by omega) (by omega) (by omega)).mono ?_
    rintro e3 w3 ⟨r3, rfl, r30, r31, hs3, hg3⟩
    have HD : Hid (∀ x : Int, DrewI w b a len cap zs (N + 6) (.returned (.int .i64 x)) w3) := Lib.hid fun x => ⟨x, rfl, hs3.mono (by omega), grown_trans hg1 (grown_trans hg2 hg3)⟩
    clear hs3 hg3 hs2 hg2 hs1 hg1
    go_wp2
    go_ret
    exact HD.out _
  · go_wp2_with fail
    refine (among_lit b a len cap zs _ [-1, 0, 1, 1000000, 1000001, 9223372036854775807] 6 _ hs1 (by omega) rfl (by omega) (by omega)).mono ?_
    rintro e2 w2 ⟨r2, rfl, hs2, hg2⟩
    have HD : Hid (∀ x : Int, DrewI w b a len cap zs (N + 6) (.returned (.int .i64 x)) w2) := Lib.hid fun x => ⟨x, rfl, hs2.mono (by omega), grown_trans hg1 hg2⟩
    clear hs2 hg2 hs1 hg1
    go_wp2
    go_ret
    exact HD.out _
/-- Two numbers come. -/
def New2I (w : World) (e : Ending) (w' : World) : Prop := ∃ x y : Int, e = .returned (.tuple #[.int .i64 x, .int .i64 y]) ∧ Below w.heap.size w w'
set_option maxHeartbeats 2000000 in
theorem l11Pack_any (a : Option Addr) (len cap : Nat) (zs : List Int) (w : World) (h : IsRow .u8 w a len cap zs) :
    Calls Try.prog 78 #[.slice a len cap] w (New2I w) := by
  have H := Lib.hid (from_any a len cap zs w h)
  clear h
  go_enter Try.func78, Try.ntmps78
  go_wp2_with fail
  refine H.out.mono ?_
  rintro e1 w1 ⟨rfl, hs1, hb1, hz1⟩
  go_wp2_with fail
  refine (l11DrawMany_any _ a len cap zs _ _ hs1 (by omega)).mono ?_
  rintro e2 w2 ⟨n, rfl, hs2, hg2⟩
  have ha2 := below_of_grown hb1 hg2 (Nat.le_refl _)
  clear hg2 hs1
  go_wp2_with fail
  refine (one_any _ a len cap zs _ 10 _ hs2 (by omega) (by omega) (by omega)).mono ?_
  rintro e3 w3 ⟨r, rfl, hs3, hg3⟩
  have ha3 := below_of_grown ha2 hg3 (Nat.le_refl _)
  clear hg3 hs2
  cases r
  · go_wp2_with fail
    refine (pick_any _ a len cap zs _ 500 _ hs3 (by omega) (by omega) (by omega)).mono ?_
    rintro e4 w4 ⟨r4, rfl, r40, r41, hs4, hg4⟩
    have ha4 := below_of_grown ha3 hg4 (Nat.le_refl _)
    clear hg4 hs3
    go_wp2
    refine bodyPost_ret (v := .tuple #[.int .i64 n, .int .i64 (1 + r4)]) (by simp [results, Try.results78, go_sem, *]) rfl ⟨_, _, rfl, ha4⟩
  · go_wp2_with fail
    refine (among_lit _ a len cap zs _ [-1, 0, 1, 1000, 1001] 5 _ hs3 (by omega) rfl (by omega) (by omega)).mono ?_
    rintro e4 w4 ⟨r4, rfl, hs4, hg4⟩
    have ha4 := below_of_grown ha3 hg4 (Nat.le_refl _)
    clear hg4 hs3
    go_wp2
    refine bodyPost_ret (v := .tuple #[.int .i64 n, .int .i64 r4]) (by simp [results, Try.results78, go_sem, *]) rfl ⟨_, _, rfl, ha4⟩
theorem drawPacksFor_any (a : Option Addr) (len cap : Nat) (zs : List Int) (w : World) (h : IsRow .u8 w a len cap zs) :
    Calls Try.prog 48 #[.slice a len cap] w (New2I w) := by
  have H := Lib.hid (l11Pack_any a len cap zs w h)
  clear h
  go_enter Try.func48, Try.ntmps48
  go_wp2_with fail
  refine H.out.mono ?_
  rintro e1 w1 ⟨x, y, rfl, hb1⟩
  go_wp2
  refine bodyPost_ret (v := .tuple #[.int .i64 x, .int .i64 y]) (by simp [results, Try.results48, go_sem, *]) rfl ⟨_, _, rfl, hb1⟩
/-- A fraction and a number come. -/
def NewFI (w : World) (e : Ending) (w' : World) : Prop := ∃ n d x : Int, e = .returned (.tuple #[.agg #[.int .i64 n, .int .i64 d], .int .i64 x]) ∧ Below w.heap.size w w'
set_option maxHeartbeats 4000000 in
theorem drawBagsFor_any (a : Option Addr) (len cap : Nat) (zs : List Int) (w : World) (h : IsRow .u8 w a len cap zs) :
    Calls Try.prog 49 #[.slice a len cap] w (NewFI w) := by
  have H := Lib.hid h
  clear h
  go_enter Try.func49, Try.ntmps49
  go_wp2_with fail
  refine (from_any a len cap zs _ (H.out.below (by repeat (first | exact Below.refl _ _ | assumption | refine Below.drew ?_ | refine below_drewN ?_ _ | refine Below.alloc ?_ (by first | omega | (simp; done) | (simp; omega)) _ | refine Below.setCell ?_ (by first | omega | (simp; done) | (simp; omega)) _)))).mono ?_
  rintro e1 w1 ⟨rfl, hs1, hb1, hz1⟩
  have R1 := Lib.hid (blk_call (blk_new w _) hb1)
  have ha1 : Below w.heap.size w w1 := below_call (by repeat (first | exact Below.refl _ _ | assumption | refine Below.drew ?_ | refine below_drewN ?_ _ | refine Below.alloc ?_ (by first | omega | (simp; done) | (simp; omega)) _ | refine Below.setCell ?_ (by first | omega | (simp; done) | (simp; omega)) _)) hb1
  simp at hz1 hs1
  clear hb1
  go_wp2_with fail
  refine (pick_any (w.heap.size + 1) a len cap zs 0 5000 _ (by simpa using hs1) (by omega) (by omega) (by omega)).mono ?_
  rintro e2 w2 ⟨r2, rfl, p1, p2, hs2, hg2⟩
  have R2 := Lib.hid (blk_grown R1.out hg2 (by omega))
  have ha2 := below_of_grown ha1 hg2 (by omega)
  have hz2 := hg2.size
  clear hg2 hs1 R1
  go_wp2_with fail
  refine (pick_any (w.heap.size + 1) a len cap zs 2 100 _ hs2 (by omega) (by omega) (by omega)).mono ?_
  rintro e3 w3 ⟨r3, rfl, p3, p4, hs3, hg3⟩
  have R3 := Lib.hid (blk_grown R2.out hg3 (by omega))
  have ha3 := below_of_grown ha2 hg3 (by omega)
  have hz3 := hg3.size
  have hrow := Lib.hid (src_row hs3)
  clear hg3 hs2 R2
  have m1 := mul_bd (a := r2) (b := 1 + r3) (A := 5000) (B := 100) (by omega) (by omega) (by omega) (by omega)
  go_wp2_with fail
  refine (pick_any (w.heap.size + 1) a len cap zs 4 100 _ (hs3.alloc _) (by omega) (by omega) (by omega)).mono ?_
  rintro e4 w4 ⟨r4, rfl, p5, p6, hs4, hg4⟩
  have hl3 := hs3.lt
  have hz4 := hg4.size
  simp at hz4
  have R4 := Lib.hid (blk_grown (blk_alloc R3.out) hg4 (by omega))
  have X4 := Lib.hid (blk_grown (blk_new w3 _) hg4 (by omega))
  have ha4 := below_of_grown (ha3.alloc (by omega) _) hg4 (by omega)
  have q1 := cellOf X4.out 1
  have f1 := frozenOf X4.out 1
  simp at q1
  clear hg4 hs3 R3
  go_wp2_with fail
  clear q1 f1
  have X4' := Lib.hid (blk_set X4.out 1 (.int .i64 (1 + r4)))
  have R4' := Lib.hid (blk_far R4.out (p := ⟨w3.heap.size, 1, none⟩) (by simp; omega) (.int .i64 (1 + r4)))
  have hs4' := hs4.setCell (p := ⟨w3.heap.size, 1, none⟩) (by simp; omega) (fun h0 x hx => by have := hrow.out h0 x hx; simp; omega) (.int .i64 (1 + r4))
  have ha4' := ha4.setCell (p := ⟨w3.heap.size, 1, none⟩) (by simp; omega) (.int .i64 (1 + r4))
  refine (pick_any (w.heap.size + 1) a len cap zs 6 12 _ hs4' (by omega) (by omega) (by omega)).mono ?_
  rintro e5 w5 ⟨r5, rfl, p7, p8, hs5, hg5⟩
  have R5 := Lib.hid (blk_grown R4'.out hg5 (by omega))
  have X5 := Lib.hid (blk_grown X4'.out hg5 (by omega))
  have ha5 := below_of_grown ha4' hg5 (by omega)
  have hz5 := hg5.size
  simp at hz5
  clear hg5 hs4 hs4' R4 X4 R4' X4' ha4'
  by_cases h50 : r5 = 0
  · subst h50
    go_wp2_with fail
    refine (among_lit (w.heap.size + 1) a len cap zs 8 [-1, 0, 1000000000000, 1000000000001] 4 _ hs5 (by omega) rfl (by omega) (by omega)).mono ?_
    rintro e6 w6 ⟨r6, rfl, hs6, hg6⟩
    have R6 := Lib.hid (blk_grown R5.out hg6 (by omega))
    have X6 := Lib.hid (blk_grown X5.out hg6 (by omega))
    have ha6 := below_of_grown ha5 hg6 (by omega)
    clear hg6 hs5 R5 X5 ha5
    have q1 := cellOf X6.out 0
    have f1 := frozenOf X6.out 0
    simp at q1
    have X6' := Lib.hid (blk_set X6.out 0 (.int .i64 r6))
    have R6' := Lib.hid (blk_far R6.out (p := ⟨w3.heap.size, 0, none⟩) (by simp; omega) (.int .i64 r6))
    have hs6' := hs6.setCell (p := ⟨w3.heap.size, 0, none⟩) (by simp; omega) (fun h0 x hx => by have := hrow.out h0 x hx; simp; omega) (.int .i64 r6)
    have ha6' := ha6.setCell (p := ⟨w3.heap.size, 0, none⟩) (by simp; omega) (.int .i64 r6)
    go_wp2_with fail
    clear q1 f1
    obtain ⟨wt, hwt⟩ : ∃ wt : World, w6.setCell ⟨w3.heap.size, 0, none⟩ (.int .i64 r6) = wt := ⟨_, rfl⟩
    rw [hwt] at X6' R6' hs6' ha6'
    rw [hwt]
    obtain ⟨xn, xd, X⟩ : ∃ xn xd : Int, Hid (wt.heap[w3.heap.size]? = some (.cells #[.int .i64 xn, .int .i64 xd] 30 (0, 0))) := ⟨r6, 1 + r4, X6'⟩
    have R := R6'
    have hs := hs6'
    have ha := ha6'
    clear hwt X6' R6' hs6' ha6' X6 R6 hs6 ha6
    -- world wt, facts hs, R, X, ha
    refine (one_any (w.heap.size + 1) a len cap zs 14 10 _ (hs.mono (by omega)) (by omega) (by omega) (by omega)).mono ?_
    rintro e7 w7 ⟨r7, rfl, hs7, hg7⟩
    have X7 := Lib.hid (blk_grown X.out hg7 (by omega))
    have R7 := Lib.hid (blk_grown R.out hg7 (by omega))
    have ha7 := below_of_grown ha hg7 (by omega)
    clear hg7 hs X R ha
    cases r7
    · have ne3 : w.heap.size ≠ w3.heap.size := by omega
      go_wp2_with fail
      have q9 : w7.drew.cell? ⟨w3.heap.size, 0, none⟩ = some (.int .i64 xn) ∧ w7.drew.cell? ⟨w3.heap.size, 1, none⟩ = some (.int .i64 xd) := ⟨by exact (cellOf X7.out 0), by exact (cellOf X7.out 1)⟩
      go_region_held3 (fun w' => w'.cell? ⟨w3.heap.size, 0, none⟩ = some (.int .i64 xn) ∧ w'.cell? ⟨w3.heap.size, 1, none⟩ = some (.int .i64 xd)) (first | (with_reducible assumption) | (with_reducible exact q9) | (with_reducible exact ⟨keep1s hS.1 ne3 ne3, keep1s hS.2 ne3 ne3⟩))
        ((go_at_call 75; (with_reducible refine (pick_any (w.heap.size + 1) a len cap zs 16 60 _ hs7.drew (by omega) (by omega) (by omega)).mono ?_); rintro e8 w8 ⟨r8, rfl, p8, p9, hs8, hg8⟩; have X8 := blk_grown (blkW X7.out) hg8 (by omega); have R8 := blk_grown (blkW R7.out) hg8 (by omega); have hS : w8.cell? ⟨w3.heap.size, 0, none⟩ = some (.int .i64 xn) ∧ w8.cell? ⟨w3.heap.size, 1, none⟩ = some (.int .i64 xd) := ⟨cellOf X8 0, cellOf X8 1⟩; have ha8 := below_of_grown ha7.drew hg8 (by omega); have k0 := cellOf R8 0; have k1 := cellOf R8 1; have kf0 := frozenOf R8 0; have kf1 := frozenOf R8 1; simp at k0 k1))
      all_goals
        go_wp2
        refine bodyPost_ret (v := .tuple #[.agg #[.int .i64 xn, .int .i64 xd], .int .i64 (IntKind.i64.wrap (1 + r8))]) (by simp [results, Try.results49, go_sem, *]) rfl ⟨_, _, _, rfl, (ha8.setCell (by simp) _).setCell (by simp) _⟩
    · have ne3 : w.heap.size ≠ w3.heap.size := by omega
      go_wp2_with fail
      have hcs : ints [-1, 0, 1, 1000, 1001] = #[.int .i64 (-1), .int .i64 0, .int .i64 1, .int .i64 1000, .int .i64 1001] := rfl
      have q8 : w7.cell? ⟨w3.heap.size, 0, none⟩ = some (.int .i64 xn) ∧ w7.cell? ⟨w3.heap.size, 1, none⟩ = some (.int .i64 xd) := ⟨cellOf X7.out 0, cellOf X7.out 1⟩
      have q9 : w7.drew.cell? ⟨w3.heap.size, 0, none⟩ = some (.int .i64 xn) ∧ w7.drew.cell? ⟨w3.heap.size, 1, none⟩ = some (.int .i64 xd) := ⟨by exact (cellOf X7.out 0), by exact (cellOf X7.out 1)⟩
      go_region_held3 (fun w' => w'.cell? ⟨w3.heap.size, 0, none⟩ = some (.int .i64 xn) ∧ w'.cell? ⟨w3.heap.size, 1, none⟩ = some (.int .i64 xd)) (first | (with_reducible assumption) | (with_reducible exact q9) | (with_reducible exact ⟨keepAD q8.1, keepAD q8.2⟩) | (with_reducible exact ⟨keep1s hS.1 ne3 ne3, keep1s hS.2 ne3 ne3⟩))
        ((go_at_call 76; (with_reducible refine (among_litD (w.heap.size + 1) a len cap zs 16 [-1, 0, 1, 1000, 1001] 5 _ _ hs7 (by omega) rfl hcs (by omega) (by omega)).mono ?_); rintro e8 w8 ⟨r8, rfl, hs8, hg8⟩; have X8 := blk_grown X7.out hg8 (by omega); have R8 := blk_grown R7.out hg8 (by omega); have hS : w8.cell? ⟨w3.heap.size, 0, none⟩ = some (.int .i64 xn) ∧ w8.cell? ⟨w3.heap.size, 1, none⟩ = some (.int .i64 xd) := ⟨cellOf X8 0, cellOf X8 1⟩; have ha8 := below_of_grown ha7 hg8 (by omega); have k0 := cellOf R8 0; have k1 := cellOf R8 1; have kf0 := frozenOf R8 0; have kf1 := frozenOf R8 1; simp at k0 k1))
      all_goals
        go_wp2
        refine bodyPost_ret (v := .tuple #[.agg #[.int .i64 xn, .int .i64 xd], .int .i64 r8]) (by simp [results, Try.results49, go_sem, *]) rfl ⟨_, _, _, rfl, (ha8.setCell (by simp) _).setCell (by simp) _⟩
  · by_cases h51 : r5 = 1
    · subst h51
      go_wp2_with fail
      refine (among_lit (w.heap.size + 1) a len cap zs 8 [-1, 0, 1, 1000000, 1000001] 5 _ hs5 (by omega) rfl (by omega) (by omega)).mono ?_
      rintro e6 w6 ⟨r6, rfl, hs6, hg6⟩
      have R6 := Lib.hid (blk_grown R5.out hg6 (by omega))
      have X6 := Lib.hid (blk_grown X5.out hg6 (by omega))
      have ha6 := below_of_grown ha5 hg6 (by omega)
      clear hg6 hs5 R5 X5 ha5
      have q1 := cellOf X6.out 1
      have f1 := frozenOf X6.out 1
      simp at q1
      have X6' := Lib.hid (blk_set X6.out 1 (.int .i64 r6))
      have R6' := Lib.hid (blk_far R6.out (p := ⟨w3.heap.size, 1, none⟩) (by simp; omega) (.int .i64 r6))
      have hs6' := hs6.setCell (p := ⟨w3.heap.size, 1, none⟩) (by simp; omega) (fun h0 x hx => by have := hrow.out h0 x hx; simp; omega) (.int .i64 r6)
      have ha6' := ha6.setCell (p := ⟨w3.heap.size, 1, none⟩) (by simp; omega) (.int .i64 r6)
      go_wp2_with fail
      clear q1 f1
      obtain ⟨wt, hwt⟩ : ∃ wt : World, w6.setCell ⟨w3.heap.size, 1, none⟩ (.int .i64 r6) = wt := ⟨_, rfl⟩
      rw [hwt] at X6' R6' hs6' ha6'
      rw [hwt]
      obtain ⟨xn, xd, X⟩ : ∃ xn xd : Int, Hid (wt.heap[w3.heap.size]? = some (.cells #[.int .i64 xn, .int .i64 xd] 30 (0, 0))) := ⟨r2 * (1 + r3), r6, X6'⟩
      have R := R6'
      have hs := hs6'
      have ha := ha6'
      clear hwt X6' R6' hs6' ha6' X6 R6 hs6 ha6
      -- world wt, facts hs, R, X, ha
      refine (one_any (w.heap.size + 1) a len cap zs 14 10 _ (hs.mono (by omega)) (by omega) (by omega) (by omega)).mono ?_
      rintro e7 w7 ⟨r7, rfl, hs7, hg7⟩
      have X7 := Lib.hid (blk_grown X.out hg7 (by omega))
      have R7 := Lib.hid (blk_grown R.out hg7 (by omega))
      have ha7 := below_of_grown ha hg7 (by omega)
      clear hg7 hs X R ha
      cases r7
      · have ne3 : w.heap.size ≠ w3.heap.size := by omega
        go_wp2_with fail
        have q9 : w7.drew.cell? ⟨w3.heap.size, 0, none⟩ = some (.int .i64 xn) ∧ w7.drew.cell? ⟨w3.heap.size, 1, none⟩ = some (.int .i64 xd) := ⟨by exact (cellOf X7.out 0), by exact (cellOf X7.out 1)⟩
        go_region_held3 (fun w' => w'.cell? ⟨w3.heap.size, 0, none⟩ = some (.int .i64 xn) ∧ w'.cell? ⟨w3.heap.size, 1, none⟩ = some (.int .i64 xd)) (first | (with_reducible assumption) | (with_reducible exact q9) | (with_reducible exact ⟨keep1s hS.1 ne3 ne3, keep1s hS.2 ne3 ne3⟩))
          ((go_at_call 75; (with_reducible refine (pick_any (w.heap.size + 1) a len cap zs 16 60 _ hs7.drew (by omega) (by omega) (by omega)).mono ?_); rintro e8 w8 ⟨r8, rfl, p8, p9, hs8, hg8⟩; have X8 := blk_grown (blkW X7.out) hg8 (by omega); have R8 := blk_grown (blkW R7.out) hg8 (by omega); have hS : w8.cell? ⟨w3.heap.size, 0, none⟩ = some (.int .i64 xn) ∧ w8.cell? ⟨w3.heap.size, 1, none⟩ = some (.int .i64 xd) := ⟨cellOf X8 0, cellOf X8 1⟩; have ha8 := below_of_grown ha7.drew hg8 (by omega); have k0 := cellOf R8 0; have k1 := cellOf R8 1; have kf0 := frozenOf R8 0; have kf1 := frozenOf R8 1; simp at k0 k1))
        all_goals
          go_wp2
          refine bodyPost_ret (v := .tuple #[.agg #[.int .i64 xn, .int .i64 xd], .int .i64 (IntKind.i64.wrap (1 + r8))]) (by simp [results, Try.results49, go_sem, *]) rfl ⟨_, _, _, rfl, (ha8.setCell (by simp) _).setCell (by simp) _⟩
      · have ne3 : w.heap.size ≠ w3.heap.size := by omega
        go_wp2_with fail
        have hcs : ints [-1, 0, 1, 1000, 1001] = #[.int .i64 (-1), .int .i64 0, .int .i64 1, .int .i64 1000, .int .i64 1001] := rfl
        have q8 : w7.cell? ⟨w3.heap.size, 0, none⟩ = some (.int .i64 xn) ∧ w7.cell? ⟨w3.heap.size, 1, none⟩ = some (.int .i64 xd) := ⟨cellOf X7.out 0, cellOf X7.out 1⟩
        have q9 : w7.drew.cell? ⟨w3.heap.size, 0, none⟩ = some (.int .i64 xn) ∧ w7.drew.cell? ⟨w3.heap.size, 1, none⟩ = some (.int .i64 xd) := ⟨by exact (cellOf X7.out 0), by exact (cellOf X7.out 1)⟩
        go_region_held3 (fun w' => w'.cell? ⟨w3.heap.size, 0, none⟩ = some (.int .i64 xn) ∧ w'.cell? ⟨w3.heap.size, 1, none⟩ = some (.int .i64 xd)) (first | (with_reducible assumption) | (with_reducible exact q9) | (with_reducible exact ⟨keepAD q8.1, keepAD q8.2⟩) | (with_reducible exact ⟨keep1s hS.1 ne3 ne3, keep1s hS.2 ne3 ne3⟩))
          ((go_at_call 76; (with_reducible refine (among_litD (w.heap.size + 1) a len cap zs 16 [-1, 0, 1, 1000, 1001] 5 _ _ hs7 (by omega) rfl hcs (by omega) (by omega)).mono ?_); rintro e8 w8 ⟨r8, rfl, hs8, hg8⟩; have X8 := blk_grown X7.out hg8 (by omega); have R8 := blk_grown R7.out hg8 (by omega); have hS : w8.cell? ⟨w3.heap.size, 0, none⟩ = some (.int .i64 xn) ∧ w8.cell? ⟨w3.heap.size, 1, none⟩ = some (.int .i64 xd) := ⟨cellOf X8 0, cellOf X8 1⟩; have ha8 := below_of_grown ha7 hg8 (by omega); have k0 := cellOf R8 0; have k1 := cellOf R8 1; have kf0 := frozenOf R8 0; have kf1 := frozenOf R8 1; simp at k0 k1))
        all_goals
          go_wp2
          refine bodyPost_ret (v := .tuple #[.agg #[.int .i64 xn, .int .i64 xd], .int .i64 r8]) (by simp [results, Try.results49, go_sem, *]) rfl ⟨_, _, _, rfl, (ha8.setCell (by simp) _).setCell (by simp) _⟩
    · have g0 : (r5 == 0) = false := by simpa using h50
      have g1 : (r5 == 1) = false := by simpa using h51
      go_wp2_with fail
      obtain ⟨wt, rfl⟩ : ∃ wt : World, wt = w5 := ⟨_, rfl⟩
      obtain ⟨xn, xd, X⟩ : ∃ xn xd : Int, Hid (wt.heap[w3.heap.size]? = some (.cells #[.int .i64 xn, .int .i64 xd] 30 (0, 0))) := ⟨r2 * (1 + r3), 1 + r4, X5⟩
      have R := R5
      have hs := hs5
      have ha := ha5
      clear R5 X5 hs5 ha5 g0 g1
      -- world wt, facts hs, R, X, ha
      refine (one_any (w.heap.size + 1) a len cap zs 14 10 _ (hs.mono (by omega)) (by omega) (by omega) (by omega)).mono ?_
      rintro e7 w7 ⟨r7, rfl, hs7, hg7⟩
      have X7 := Lib.hid (blk_grown X.out hg7 (by omega))
      have R7 := Lib.hid (blk_grown R.out hg7 (by omega))
      have ha7 := below_of_grown ha hg7 (by omega)
      clear hg7 hs X R ha
      cases r7
      · have ne3 : w.heap.size ≠ w3.heap.size := by omega
        go_wp2_with fail
        have q9 : w7.drew.cell? ⟨w3.heap.size, 0, none⟩ = some (.int .i64 xn) ∧ w7.drew.cell? ⟨w3.heap.size, 1, none⟩ = some (.int .i64 xd) := ⟨by exact (cellOf X7.out 0), by exact (cellOf X7.out 1)⟩
        go_region_held3 (fun w' => w'.cell? ⟨w3.heap.size, 0, none⟩ = some (.int .i64 xn) ∧ w'.cell? ⟨w3.heap.size, 1, none⟩ = some (.int .i64 xd)) (first | (with_reducible assumption) | (with_reducible exact q9) | (with_reducible exact ⟨keep1s hS.1 ne3 ne3, keep1s hS.2 ne3 ne3⟩))
          ((go_at_call 75; (with_reducible refine (pick_any (w.heap.size + 1) a len cap zs 16 60 _ hs7.drew (by omega) (by omega) (by omega)).mono ?_); rintro e8 w8 ⟨r8, rfl, p8, p9, hs8, hg8⟩; have X8 := blk_grown (blkW X7.out) hg8 (by omega); have R8 := blk_grown (blkW R7.out) hg8 (by omega); have hS : w8.cell? ⟨w3.heap.size, 0, none⟩ = some (.int .i64 xn) ∧ w8.cell? ⟨w3.heap.size, 1, none⟩ = some (.int .i64 xd) := ⟨cellOf X8 0, cellOf X8 1⟩; have ha8 := below_of_grown ha7.drew hg8 (by omega); have k0 := cellOf R8 0; have k1 := cellOf R8 1; have kf0 := frozenOf R8 0; have kf1 := frozenOf R8 1; simp at k0 k1))
        all_goals
          go_wp2
          refine bodyPost_ret (v := .tuple #[.agg #[.int .i64 xn, .int .i64 xd], .int .i64 (IntKind.i64.wrap (1 + r8))]) (by simp [results, Try.results49, go_sem, *]) rfl ⟨_, _, _, rfl, (ha8.setCell (by simp) _).setCell (by simp) _⟩
      · have ne3 : w.heap.size ≠ w3.heap.size := by omega
        go_wp2_with fail
        have hcs : ints [-1, 0, 1, 1000, 1001] = #[.int .i64 (-1), .int .i64 0, .int .i64 1, .int .i64 1000, .int .i64 1001] := rfl
        have q8 : w7.cell? ⟨w3.heap.size, 0, none⟩ = some (.int .i64 xn) ∧ w7.cell? ⟨w3.heap.size, 1, none⟩ = some (.int .i64 xd) := ⟨cellOf X7.out 0, cellOf X7.out 1⟩
        have q9 : w7.drew.cell? ⟨w3.heap.size, 0, none⟩ = some (.int .i64 xn) ∧ w7.drew.cell? ⟨w3.heap.size, 1, none⟩ = some (.int .i64 xd) := ⟨by exact (cellOf X7.out 0), by exact (cellOf X7.out 1)⟩
        go_region_held3 (fun w' => w'.cell? ⟨w3.heap.size, 0, none⟩ = some (.int .i64 xn) ∧ w'.cell? ⟨w3.heap.size, 1, none⟩ = some (.int .i64 xd)) (first | (with_reducible assumption) | (with_reducible exact q9) | (with_reducible exact ⟨keepAD q8.1, keepAD q8.2⟩) | (with_reducible exact ⟨keep1s hS.1 ne3 ne3, keep1s hS.2 ne3 ne3⟩))
          ((go_at_call 76; (with_reducible refine (among_litD (w.heap.size + 1) a len cap zs 16 [-1, 0, 1, 1000, 1001] 5 _ _ hs7 (by omega) rfl hcs (by omega) (by omega)).mono ?_); rintro e8 w8 ⟨r8, rfl, hs8, hg8⟩; have X8 := blk_grown X7.out hg8 (by omega); have R8 := blk_grown R7.out hg8 (by omega); have hS : w8.cell? ⟨w3.heap.size, 0, none⟩ = some (.int .i64 xn) ∧ w8.cell? ⟨w3.heap.size, 1, none⟩ = some (.int .i64 xd) := ⟨cellOf X8 0, cellOf X8 1⟩; have ha8 := below_of_grown ha7 hg8 (by omega); have k0 := cellOf R8 0; have k1 := cellOf R8 1; have kf0 := frozenOf R8 0; have kf1 := frozenOf R8 1; simp at k0 k1))
        all_goals
          go_wp2
          refine bodyPost_ret (v := .tuple #[.agg #[.int .i64 xn, .int .i64 xd], .int .i64 r8]) (by simp [results, Try.results49, go_sem, *]) rfl ⟨_, _, _, rfl, (ha8.setCell (by simp) _).setCell (by simp) _⟩
end Go.Proofs.Ytgnalhnbdpigdaa
