/- Contracts of the reference's drawing of heights, courses and limits (l10DrawHeight, l10DrawCourses, l10Two, l10Three, l10Both, DrawMarksOf, DrawJointsEvenly, DrawNearestMark): some numbers come; the source's block alone turns; condition: the bytes can be read. -/
import Derived.Test.YtgpcehokdfehjaaDrawF
namespace Go.Proofs.Ytgpcehokdfehjaa
set_option linter.unusedVariables false
open Go.RowKit

set_option maxHeartbeats 2000000 in
theorem l10DrawHeight_any (b : Nat) (a : Option Addr) (len cap : Nat) (zs : List Int) (N : Int) (w : World) (h : Src w b a len cap zs N) (hN : N ≤ 100000) :
    Calls Try.prog 60 #[.pointer (some ⟨b, 0, none⟩)] w (DrewI w b a len cap zs (N + 6)) := by
  have H1 := Lib.hid (one_any b a len cap zs N 10 w h (by omega) (by omega) (by omega))
  clear h
  go_enter Try.func60, Try.ntmps60
  go_wp2_with fail
  refine H1.out.mono ?_
  rintro e1 w1 ⟨r, rfl, hs1, hg1⟩
  cases r
  · go_wp2_with fail
    refine (pick_any b a len cap zs _ 200 _ hs1 (by omega) (by omega) (by omega)).mono ?_
    rintro e2 w2 ⟨r2, rfl, r20, r21, hs2, hg2⟩
    have HD : Hid (∀ x : Int, DrewI w b a len cap zs (N + 6) (.returned (.int .i64 x)) w2) := Lib.hid fun x => ⟨x, rfl, hs2.mono (by omega), grown_trans hg1 hg2⟩
    clear hs2 hg2 hs1 hg1
    go_wp2
    go_ret
    exact HD.out _
  · go_wp2_with fail
    refine (among_lit b a len cap zs _ [99, 100, 6000, 6001, -9223372036854775808] 5 _ hs1 (by omega) rfl (by omega) (by omega)).mono ?_
    rintro e2 w2 ⟨r2, rfl, hs2, hg2⟩
    have HD : Hid (∀ x : Int, DrewI w b a len cap zs (N + 6) (.returned (.int .i64 x)) w2) := Lib.hid fun x => ⟨x, rfl, hs2.mono (by omega), grown_trans hg1 hg2⟩
    clear hs2 hg2 hs1 hg1
    go_wp2
    go_ret
    exact HD.out _
set_option maxHeartbeats 2000000 in
theorem l10DrawCourses_any (b : Nat) (a : Option Addr) (len cap : Nat) (zs : List Int) (N : Int) (w : World) (h : Src w b a len cap zs N) (hN : N ≤ 100000) :
    Calls Try.prog 63 #[.pointer (some ⟨b, 0, none⟩)] w (DrewI w b a len cap zs (N + 6)) := by
  have H1 := Lib.hid (one_any b a len cap zs N 10 w h (by omega) (by omega) (by omega))
  clear h
  go_enter Try.func63, Try.ntmps63
  go_wp2_with fail
  refine H1.out.mono ?_
  rintro e1 w1 ⟨r, rfl, hs1, hg1⟩
  cases r
  · go_wp2_with fail
    refine (pick_any b a len cap zs _ 14 _ hs1 (by omega) (by omega) (by omega)).mono ?_
    rintro e2 w2 ⟨r2, rfl, r20, r21, hs2, hg2⟩
    have HD : Hid (∀ x : Int, DrewI w b a len cap zs (N + 6) (.returned (.int .i64 x)) w2) := Lib.hid fun x => ⟨x, rfl, hs2.mono (by omega), grown_trans hg1 hg2⟩
    clear hs2 hg2 hs1 hg1
    go_wp2
    go_ret
    exact HD.out _
  · go_wp2_with fail
    refine (among_lit b a len cap zs _ [-1, 0, 1, 40, 41] 5 _ hs1 (by omega) rfl (by omega) (by omega)).mono ?_
    rintro e2 w2 ⟨r2, rfl, hs2, hg2⟩
    have HD : Hid (∀ x : Int, DrewI w b a len cap zs (N + 6) (.returned (.int .i64 x)) w2) := Lib.hid fun x => ⟨x, rfl, hs2.mono (by omega), grown_trans hg1 hg2⟩
    clear hs2 hg2 hs1 hg1
    go_wp2
    go_ret
    exact HD.out _
end Go.Proofs.Ytgpcehokdfehjaa
