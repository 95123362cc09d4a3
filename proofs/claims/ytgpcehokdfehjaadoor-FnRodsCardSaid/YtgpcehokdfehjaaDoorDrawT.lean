/- Contracts of the reference's drawing of a format, a height and a number of courses (l10Three, DrawJointsEvenly): some numbers come; no old memory turns; condition: the bytes can be read. -/
import Derived.Test.YtgpcehokdfehjaaDoorDrawH
import Derived.Deep.RegionLaw
namespace Go.Proofs.YtgpcehokdfehjaaDoor
set_option linter.unusedVariables false
open Go.RowKit

/-- A format and two numbers come. -/
def NewF2 (w : World) (e : Ending) (w' : World) : Prop := ∃ l d h j x y : Int, e = .returned (.tuple #[.agg #[.int .i64 l, .int .i64 d, .int .i64 h, .int .i64 j], .int .i64 x, .int .i64 y]) ∧ Below w.heap.size w w'
theorem below_stores4' {a w : World} (h : Below a.heap.size a w) {R : Nat} (hR : a.heap.size ≤ R) (u0 u1 u2 u3 : Value) : Below a.heap.size a ((((w.setCell ⟨R, 0, none⟩ u0).setCell ⟨R, 1, none⟩ u1).setCell ⟨R, 2, none⟩ u2).setCell ⟨R, 3, none⟩ u3) :=
  (((h.setCell hR _).setCell hR _).setCell hR _).setCell hR _
set_option maxHeartbeats 4000000 in
theorem l10Three_any (a : Option Addr) (len cap : Nat) (zs : List Int) (w : World) (h : IsRow .u8 w a len cap zs) :
    Calls Tryd.prog 32 #[.slice a len cap] w (NewF2 w) := by
  have H := Lib.hid fun W (hW : Below w.heap.size w W) => from_any a len cap zs W (h.below hW)
  clear h
  go_enter Tryd.func32, Tryd.ntmps32
  go_wp2_with fail
  refine (H.out _ (by repeat (first | exact Below.refl _ _ | assumption | refine Below.drew ?_ | refine below_drewN ?_ _ | refine Below.alloc ?_ (by first | omega | (simp; done) | (simp; omega)) _ | refine Below.setCell ?_ (by first | omega | (simp; done) | (simp; omega)) _))).mono ?_
  rintro e1 w1 ⟨rfl, hs1, hb1, hz1⟩
  have R1 := Lib.hid (B4.below (b4_new w 36 (.int .i64 0) (.int .i64 0) (.int .i64 0) (.int .i64 0)) hb1)
  have ha1 : Below w.heap.size w w1 := below_call (by repeat (first | exact Below.refl _ _ | assumption | refine Below.drew ?_ | refine below_drewN ?_ _ | refine Below.alloc ?_ (by first | omega | (simp; done) | (simp; omega)) _ | refine Below.setCell ?_ (by first | omega | (simp; done) | (simp; omega)) _)) hb1
  simp at hs1 hz1
  clear hb1
  go_wp2_with fail
  refine (l02Bent_any _ a len cap zs _ _ hs1 (by omega)).mono ?_
  rintro e2 w2 ⟨l, d, h, j, rfl, hs2, hg2⟩
  have R2 := Lib.hid (R1.out.grown hg2 (by omega))
  have ha2 := below_of_grown ha1 hg2 (by omega)
  have hz2 := hg2.size
  clear hg2 hs1 R1 ha1
  go_wp2_with fail
  refine (l10DrawHeight_any _ a len cap zs _ _ (hs2.alloc _) (by omega)).mono ?_
  rintro e3 w3 ⟨n, rfl, hs3, hg3⟩
  have R := Lib.hid ((R2.out.alloc (.cells #[.int .i64 l, .int .i64 d, .int .i64 h, .int .i64 j] 36)).grown hg3 (by omega))
  have X := Lib.hid ((b4_new w2 36 (.int .i64 l) (.int .i64 d) (.int .i64 h) (.int .i64 j)).grown hg3 (by omega))
  have ha := below_of_grown (ha2.alloc (by omega) (.cells #[.int .i64 l, .int .i64 d, .int .i64 h, .int .i64 j] 36)) hg3 (by omega)
  have hs := hs3
  have hz3 := hg3.size
  simp at hz3
  clear hg3 hs2 R2 hs3
  go_wp2_with fail
  obtain ⟨q0, q1, q2, q3⟩ := X.out.cells
  obtain ⟨k0, k1, k2, k3⟩ := R.out.cells
  obtain ⟨f0, f1, f2, f3⟩ := R.out.fz
  go_region_law (go_simp; go_at_call 37; (with_reducible refine (l10DrawCourses_any (w.heap.size + 1) a len cap zs _ _ hs.drew (by omega)).mono ?_); rintro e9 w9 ⟨m9, rfl, hs9, hg9⟩; have X9 := (B4.drew X.out).grown hg9 (by omega); have R9 := (B4.drew R.out).grown hg9 (by omega); obtain ⟨n0, n1, n2, n3⟩ := X9.cells; obtain ⟨o0, o1, o2, o3⟩ := R9.cells; obtain ⟨e0, e1, e2, e3⟩ := R9.fz; have ha9 := below_of_grown ha.drew hg9 (by omega); have HA9 := Lib.hid (below_stores4' ha9 (Nat.le_refl w.heap.size) (.int .i64 l) (.int .i64 d) (.int .i64 h) (.int .i64 j)); clear hs9 hg9 X9 R9 ha9)
  all_goals
    go_wp2
    refine bodyPost_ret (v := .tuple #[.agg #[.int .i64 l, .int .i64 d, .int .i64 h, .int .i64 j], .int .i64 n, .int .i64 m9]) (by simp [results, Tryd.results32, go_sem, *]) rfl ⟨_, _, _, _, _, _, rfl, HA9.out⟩
set_option maxHeartbeats 4000000 in
theorem drawJointsEvenly_any (a : Option Addr) (len cap : Nat) (zs : List Int) (w : World) (h : IsRow .u8 w a len cap zs) :
    Calls Tryd.prog 13 #[.slice a len cap] w (NewF2 w) := by
  have H := Lib.hid fun W (hW : Below w.heap.size w W) => l10Three_any a len cap zs W (h.below hW)
  clear h
  go_enter Tryd.func13, Tryd.ntmps13
  go_wp2_with fail
  refine (H.out _ (by repeat (first | exact Below.refl _ _ | assumption | refine Below.drew ?_ | refine below_drewN ?_ _ | refine Below.alloc ?_ (by first | omega | (simp; done) | (simp; omega)) _ | refine Below.setCell ?_ (by first | omega | (simp; done) | (simp; omega)) _))).mono ?_
  rintro e1 w1 ⟨l, d, h, j, x, y, rfl, hb1⟩
  have R1 := Lib.hid (B4.below (b4_new w 36 (.int .i64 0) (.int .i64 0) (.int .i64 0) (.int .i64 0)) hb1)
  have ha1 : Below w.heap.size w w1 := below_call (by repeat (first | exact Below.refl _ _ | assumption | refine Below.drew ?_ | refine below_drewN ?_ _ | refine Below.alloc ?_ (by first | omega | (simp; done) | (simp; omega)) _ | refine Below.setCell ?_ (by first | omega | (simp; done) | (simp; omega)) _)) hb1
  have HA := Lib.hid (below_stores4' ha1 (Nat.le_refl w.heap.size) (.int .i64 l) (.int .i64 d) (.int .i64 h) (.int .i64 j))
  obtain ⟨o0, o1, o2, o3⟩ := R1.out.cells
  obtain ⟨e0, e1, e2, e3⟩ := R1.out.fz
  clear hb1 ha1 H
  go_wp2
  refine bodyPost_ret (v := .tuple #[.agg #[.int .i64 l, .int .i64 d, .int .i64 h, .int .i64 j], .int .i64 x, .int .i64 y]) (by simp [results, Tryd.results13, go_sem, *]) rfl ⟨_, _, _, _, _, _, rfl, HA.out⟩
end Go.Proofs.YtgpcehokdfehjaaDoor
