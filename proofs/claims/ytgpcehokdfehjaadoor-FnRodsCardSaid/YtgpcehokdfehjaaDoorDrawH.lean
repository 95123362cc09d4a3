/- Contracts of the reference's drawing of heights, courses and limits (l10DrawHeight, l10DrawCourses, l10Two, l10Three, l10Both, DrawMarksOf, DrawJointsEvenly, DrawNearestMark): some numbers come; the source's block alone turns; condition: the bytes can be read. -/
import Derived.Test.YtgpcehokdfehjaaDoorDrawF
namespace Go.Proofs.YtgpcehokdfehjaaDoor
set_option linter.unusedVariables false
open Go.RowKit

set_option maxHeartbeats 2000000 in
theorem l10DrawHeight_any (b : Nat) (a : Option Addr) (len cap : Nat) (zs : List Int) (N : Int) (w : World) (h : Src w b a len cap zs N) (hN : N ≤ 100000) :
    Calls Tryd.prog 36 #[.pointer (some ⟨b, 0, none⟩)] w (DrewI w b a len cap zs (N + 6)) := by
  have H1 := Lib.hid (one_any b a len cap zs N 10 w h (by omega) (by omega) (by omega))
  clear h
  go_enter Tryd.func36, Tryd.ntmps36
  go_wp2_with fail
  refine H1.out.mono ?_
  rintro e1 w1 ⟨r, rfl, hs1, hg1⟩
  cases r
  · go_wp2_with fail
    refine (pick_any b a len cap zs _ 200 _ hs1 (by omega) (by omega) (by omega)).mono ?_
    rintro e2 w2 ⟨r2, rfl, r20, r21, hs2, hg2⟩
    have HD : Hid (∀ x : Int, DrewI w b a len cap zs (N + 6) (.returned (.int .i64 x)) w2) := Lib.hid fun x => ⟨x, rfl, hs2.mono (by omega), grown_trans hg1 hg2⟩
    clear hs2 hg2 hs1 hg1
    go_wp2
    go_ret
    exact HD.out _
  · go_wp2_with fail
    refine (among_lit b a len cap zs _ [99, 100, 6000, 6001, -9223372036854775808] 5 _ hs1 (by omega) rfl (by omega) (by omega)).mono ?_
    rintro e2 w2 ⟨r2, rfl, hs2, hg2⟩
    have HD : Hid (∀ x : Int, DrewI w b a len cap zs (N + 6) (.returned (.int .i64 x)) w2) := Lib.hid fun x => ⟨x, rfl, hs2.mono (by omega), grown_trans hg1 hg2⟩
    clear hs2 hg2 hs1 hg1
    go_wp2
    go_ret
    exact HD.out _
set_option maxHeartbeats 2000000 in
theorem l10DrawCourses_any (b : Nat) (a : Option Addr) (len cap : Nat) (zs : List Int) (N : Int) (w : World) (h : Src w b a len cap zs N) (hN : N ≤ 100000) :
    Calls Tryd.prog 37 #[.pointer (some ⟨b, 0, none⟩)] w (DrewI w b a len cap zs (N + 6)) := by
  have H1 := Lib.hid (one_any b a len cap zs N 10 w h (by omega) (by omega) (by omega))
  clear h
  go_enter Tryd.func37, Tryd.ntmps37
  go_wp2_with fail
  refine H1.out.mono ?_
  rintro e1 w1 ⟨r, rfl, hs1, hg1⟩
  cases r
  · go_wp2_with fail
    refine (pick_any b a len cap zs _ 14 _ hs1 (by omega) (by omega) (by omega)).mono ?_
    rintro e2 w2 ⟨r2, rfl, r20, r21, hs2, hg2⟩
    have HD : Hid (∀ x : Int, DrewI w b a len cap zs (N + 6) (.returned (.int .i64 x)) w2) := Lib.hid fun x => ⟨x, rfl, hs2.mono (by omega), grown_trans hg1 hg2⟩
    clear hs2 hg2 hs1 hg1
    go_wp2
    go_ret
    exact HD.out _
  · go_wp2_with fail
    refine (among_lit b a len cap zs _ [-1, 0, 1, 40, 41] 5 _ hs1 (by omega) rfl (by omega) (by omega)).mono ?_
    rintro e2 w2 ⟨r2, rfl, hs2, hg2⟩
    have HD : Hid (∀ x : Int, DrewI w b a len cap zs (N + 6) (.returned (.int .i64 x)) w2) := Lib.hid fun x => ⟨x, rfl, hs2.mono (by omega), grown_trans hg1 hg2⟩
    clear hs2 hg2 hs1 hg1
    go_wp2
    go_ret
    exact HD.out _
/-- Two numbers come. -/
def New2I (w : World) (e : Ending) (w' : World) : Prop := ∃ x y : Int, e = .returned (.tuple #[.int .i64 x, .int .i64 y]) ∧ Below w.heap.size w w'
set_option maxHeartbeats 2000000 in
theorem l10Two_any (a : Option Addr) (len cap : Nat) (zs : List Int) (w : World) (h : IsRow .u8 w a len cap zs) :
    Calls Tryd.prog 29 #[.slice a len cap] w (New2I w) := by
  have H := Lib.hid (from_any a len cap zs w h)
  clear h
  go_enter Tryd.func29, Tryd.ntmps29
  go_wp2_with fail
  refine H.out.mono ?_
  rintro e1 w1 ⟨rfl, hs1, hb1, hz1⟩
  go_wp2_with fail
  refine (l10DrawHeight_any _ a len cap zs _ _ hs1 (by omega)).mono ?_
  rintro e2 w2 ⟨n, rfl, hs2, hg2⟩
  have ha2 := below_of_grown hb1 hg2 (Nat.le_refl _)
  clear hg2 hs1
  go_wp2_with fail
  refine (l10DrawCourses_any _ a len cap zs _ _ hs2 (by omega)).mono ?_
  rintro e3 w3 ⟨m, rfl, hs3, hg3⟩
  have ha3 := below_of_grown ha2 hg3 (Nat.le_refl _)
  clear hg3 hs2
  go_wp2
  refine bodyPost_ret (v := .tuple #[.int .i64 n, .int .i64 m]) (by simp [results, Tryd.results29, go_sem, *]) rfl ⟨_, _, rfl, ha3⟩
theorem drawMarksOf_any (a : Option Addr) (len cap : Nat) (zs : List Int) (w : World) (h : IsRow .u8 w a len cap zs) :
    Calls Tryd.prog 8 #[.slice a len cap] w (New2I w) := by
  have H := Lib.hid (l10Two_any a len cap zs w h)
  clear h
  go_enter Tryd.func8, Tryd.ntmps8
  go_wp2_with fail
  refine H.out.mono ?_
  rintro e1 w1 ⟨x, y, rfl, hb1⟩
  go_wp2
  refine bodyPost_ret (v := .tuple #[.int .i64 x, .int .i64 y]) (by simp [results, Tryd.results8, go_sem, *]) rfl ⟨_, _, rfl, hb1⟩
/-- Three numbers come. -/
def New3I (w : World) (e : Ending) (w' : World) : Prop := ∃ x y z : Int, e = .returned (.tuple #[.int .i64 x, .int .i64 y, .int .i64 z]) ∧ Below w.heap.size w w'
set_option maxHeartbeats 2000000 in
theorem drawNearestMark_any (a : Option Addr) (len cap : Nat) (zs : List Int) (w : World) (h : IsRow .u8 w a len cap zs) :
    Calls Tryd.prog 18 #[.slice a len cap] w (New3I w) := by
  have H := Lib.hid (from_any a len cap zs w h)
  clear h
  go_enter Tryd.func18, Tryd.ntmps18
  go_wp2_with fail
  refine H.out.mono ?_
  rintro e1 w1 ⟨rfl, hs1, hb1, hz1⟩
  go_wp2_with fail
  refine (l10DrawHeight_any _ a len cap zs _ _ hs1 (by omega)).mono ?_
  rintro e2 w2 ⟨n, rfl, hs2, hg2⟩
  have ha2 := below_of_grown hb1 hg2 (Nat.le_refl _)
  clear hg2 hs1
  go_wp2_with fail
  refine (l10DrawCourses_any _ a len cap zs _ _ hs2 (by omega)).mono ?_
  rintro e3 w3 ⟨m, rfl, hs3, hg3⟩
  have ha3 := below_of_grown ha2 hg3 (Nat.le_refl _)
  clear hg3 hs2
  go_wp2_with fail
  refine (one_any _ a len cap zs _ 8 _ hs3 (by omega) (by omega) (by omega)).mono ?_
  rintro e4 w4 ⟨r, rfl, hs4, hg4⟩
  have ha4 := below_of_grown ha3 hg4 (Nat.le_refl _)
  clear hg4 hs3
  cases r
  · go_wp2_with fail
    refine (pick_any _ a len cap zs _ 1500 _ hs4 (by omega) (by omega) (by omega)).mono ?_
    rintro e5 w5 ⟨r5, rfl, r50, r51, hs5, hg5⟩
    have ha5 := below_of_grown ha4 hg5 (Nat.le_refl _)
    clear hg5 hs4
    go_wp2
    refine bodyPost_ret (v := .tuple #[.int .i64 n, .int .i64 m, .int .i64 r5]) (by simp [results, Tryd.results18, go_sem, *]) rfl ⟨_, _, _, rfl, ha5⟩
  · go_wp2_with fail
    refine (among_lit _ a len cap zs _ [-1, 0, n, 9223372036854775807] 4 _ hs4 (by omega) rfl (by omega) (by omega)).mono ?_
    rintro e5 w5 ⟨r5, rfl, hs5, hg5⟩
    have ha5 := below_of_grown ha4 hg5 (Nat.le_refl _)
    clear hg5 hs4
    go_wp2
    refine bodyPost_ret (v := .tuple #[.int .i64 n, .int .i64 m, .int .i64 r5]) (by simp [results, Tryd.results18, go_sem, *]) rfl ⟨_, _, _, rfl, ha5⟩
end Go.Proofs.YtgpcehokdfehjaaDoor
