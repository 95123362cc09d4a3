/- Contracts of the reference's drawing of packs and bags (l11DrawMany, DrawPacksFor, DrawBagsFor): some numbers come; no old memory turns; condition: the bytes can be read. -/
import Derived.Test.YtgnalhnbdpigdaaDoorDrawG
namespace Go.Proofs.YtgnalhnbdpigdaaDoor
set_option linter.unusedVariables false
open Go.RowKit

set_option maxHeartbeats 2000000 in
theorem l11DrawMany_any (b : Nat) (a : Option Addr) (len cap : Nat) (zs : List Int) (N : Int) (w : World) (h : Src w b a len cap zs N) (hN : N ≤ 100000) :
    Calls Tryd.prog 47 #[.pointer (some ⟨b, 0, none⟩)] w (DrewI w b a len cap zs (N + 6)) := by
  have H1 := Lib.hid (one_any b a len cap zs N 10 w h (by omega) (by omega) (by omega))
  clear h
  go_enter Tryd.func47, Tryd.ntmps47
  go_wp2_with fail
  refine H1.out.mono ?_
  rintro e1 w1 ⟨r, rfl, hs1, hg1⟩
  cases r
  · go_wp2_with fail
    refine (pick_any b a len cap zs _ 200 _ hs1 (by omega) (by omega) (by omega)).mono ?_
    rintro e2 w2 ⟨r2, rfl, r20, r21, hs2, hg2⟩
    go_wp2_with fail
    refine (pick_any b a len cap zs _ 60 _ hs2 (by omega) (by omega) (by omega)).mono ?_
    rintro e3 w3 ⟨r3, rfl, r30, r31, hs3, hg3⟩
    have HD : Hid (∀ x : Int, DrewI w b a len cap zs (N + 6) (.returned (.int .i64 x)) w3) := Lib.hid fun x => ⟨x, rfl, hs3.mono (by omega), grown_trans hg1 (grown_trans hg2 hg3)⟩
    clear hs3 hg3 hs2 hg2 hs1 hg1
    go_wp2
    go_ret
    exact HD.out _
  · go_wp2_with fail
    refine (among_lit b a len cap zs _ [-1, 0, 1, 1000000, 1000001, 9223372036854775807] 6 _ hs1 (by omega) rfl (by omega) (by omega)).mono ?_
    rintro e2 w2 ⟨r2, rfl, hs2, hg2⟩
    have HD : Hid (∀ x : Int, DrewI w b a len cap zs (N + 6) (.returned (.int .i64 x)) w2) := Lib.hid fun x => ⟨x, rfl, hs2.mono (by omega), grown_trans hg1 hg2⟩
    clear hs2 hg2 hs1 hg1
    go_wp2
    go_ret
    exact HD.out _
/-- Two numbers come. -/
def New2I (w : World) (e : Ending) (w' : World) : Prop := ∃ x y : Int, e = .returned (.tuple #[.int .i64 x, .int .i64 y]) ∧ Below w.heap.size w w'
end Go.Proofs.YtgnalhnbdpigdaaDoor
