/- Contracts of the reference's drawing for the counts of bricks (DrawBricksOf, DrawBricksOfAll, DrawShareBricks, DrawWithWaste, DrawBricksForMetre, DrawMortarFor, DrawPieceText, DrawValidPieces): formats, walls and numbers come; no old memory turns; condition: the bytes can be read. -/
import Derived.Test.YtgnalhnbdpigdaaDoorDrawO
namespace Go.Proofs.YtgnalhnbdpigdaaDoor
set_option linter.unusedVariables false
open Go.RowKit

def NewFo (w : World) (e : Ending) (w' : World) : Prop := ∃ l d h j : Int, e = .returned (.agg #[.int .i64 l, .int .i64 d, .int .i64 h, .int .i64 j]) ∧ Below w.heap.size w w'
def NewPo (w : World) (e : Ending) (w' : World) : Prop := ∃ x y z : Int, e = .returned (.agg #[.int .i64 x, .int .i64 y, .int .i64 z]) ∧ Below w.heap.size w w'
def NewWo (w : World) (e : Ending) (w' : World) : Prop := ∃ a n c ps, e = .returned (.slice a n c) ∧ IsPieces w' a n c ps ∧ Below w.heap.size w w'
def NewFI (w : World) (e : Ending) (w' : World) : Prop := ∃ l d h j x : Int, e = .returned (.tuple #[.agg #[.int .i64 l, .int .i64 d, .int .i64 h, .int .i64 j], .int .i64 x]) ∧ Below w.heap.size w w'
def NewFP (w : World) (e : Ending) (w' : World) : Prop := ∃ l d h j x y z : Int, e = .returned (.tuple #[.agg #[.int .i64 l, .int .i64 d, .int .i64 h, .int .i64 j], .agg #[.int .i64 x, .int .i64 y, .int .i64 z]]) ∧ Below w.heap.size w w'
def NewFW (w : World) (e : Ending) (w' : World) : Prop := ∃ a n c ps, ∃ l d h j : Int, e = .returned (.tuple #[.agg #[.int .i64 l, .int .i64 d, .int .i64 h, .int .i64 j], .slice a n c]) ∧ IsPieces w' a n c ps ∧ Below w.heap.size w w'
def NewFWI (w : World) (e : Ending) (w' : World) : Prop := ∃ a n c ps, ∃ l d h j x : Int, e = .returned (.tuple #[.agg #[.int .i64 l, .int .i64 d, .int .i64 h, .int .i64 j], .slice a n c, .int .i64 x]) ∧ IsPieces w' a n c ps ∧ Below w.heap.size w w'
theorem below_st4 {a w : World} (h : Below a.heap.size a w) {R : Nat} (hR : a.heap.size ≤ R) (u0 u1 u2 u3 : Value) : Below a.heap.size a ((((w.setCell ⟨R, 0, none⟩ u0).setCell ⟨R, 1, none⟩ u1).setCell ⟨R, 2, none⟩ u2).setCell ⟨R, 3, none⟩ u3) :=
  (((h.setCell hR _).setCell hR _).setCell hR _).setCell hR _
theorem below_st3 {a w : World} (h : Below a.heap.size a w) {R : Nat} (hR : a.heap.size ≤ R) (u0 u1 u2 : Value) : Below a.heap.size a (((w.setCell ⟨R, 0, none⟩ u0).setCell ⟨R, 1, none⟩ u1).setCell ⟨R, 2, none⟩ u2) :=
  ((h.setCell hR _).setCell hR _).setCell hR _
theorem own_st4 {w : World} {base R n size : Nat} {e : TypeId} {v : Value} {xs : List Value} (h : w.ownsRow base e size v n xs) (hR : R < base) (u0 u1 u2 u3 : Value) :
    ((((w.setCell ⟨R, 0, none⟩ u0).setCell ⟨R, 1, none⟩ u1).setCell ⟨R, 2, none⟩ u2).setCell ⟨R, 3, none⟩ u3).ownsRow base e size v n xs :=
  own_src h (grown_store (grown_store (grown_store (grown_store (World.grownBy.refl w (some R)) 0 u0) 1 u1) 2 u2) 3 u3) hR
theorem ownW_shape {w : World} {base n : Nat} {v : Value} {xs : List Value} (h : w.ownsRow base 25 3 v n xs) : ∃ a c, v = .slice a n c := by
  rcases h.2 with ⟨rfl, h0⟩ | ⟨g, cap, _, rfl, _⟩
  · exact ⟨none, 0, by rw [h0]⟩
  · exact ⟨_, _, rfl⟩
set_option maxHeartbeats 4000000 in
theorem drawBricksForMetre_any (a : Option Addr) (len cap : Nat) (zs : List Int) (w : World) (h : IsRow .u8 w a len cap zs) :
    Calls Tryd.prog 21 #[.slice a len cap] w (NewFo w) := by
  have H := Lib.hid fun W (hW : Below w.heap.size w W) => from_any a len cap zs W (h.below hW)
  clear h
  go_enter Tryd.func21, Tryd.ntmps21
  go_wp2_with fail
  refine (H.out _ (by repeat (first | exact Below.refl _ _ | assumption | refine Below.drew ?_ | refine below_drewN ?_ _ | refine Below.alloc ?_ (by first | omega | (simp; done) | (simp; omega)) _ | refine Below.setCell ?_ (by first | omega | (simp; done) | (simp; omega)) _))).mono ?_
  rintro e1 w1 ⟨rfl, hs1, hb1, hz1⟩
  have R1 := Lib.hid (B4.below (b4_new w 31 (.int .i64 0) (.int .i64 0) (.int .i64 0) (.int .i64 0)) hb1)
  have ha1 : Below w.heap.size w w1 := below_call (by repeat (first | exact Below.refl _ _ | assumption | refine Below.drew ?_ | refine below_drewN ?_ _ | refine Below.alloc ?_ (by first | omega | (simp; done) | (simp; omega)) _ | refine Below.setCell ?_ (by first | omega | (simp; done) | (simp; omega)) _)) hb1
  simp at hs1 hz1
  clear hb1
  go_wp2_with fail
  refine (l02Bent_any _ a len cap zs _ _ hs1 (by omega)).mono ?_
  rintro e2 w2 ⟨l, d, h, j, rfl, hs2, hg2⟩
  have R2 := Lib.hid (R1.out.grown hg2 (by omega))
  have ha2 := below_of_grown ha1 hg2 (by omega)
  have hz2 := hg2.size
  clear hg2 hs1 R1 ha1
  obtain ⟨o0, o1, o2, o3⟩ := R2.out.cells
  obtain ⟨e0, e1, e2, e3⟩ := R2.out.fz
  have HA := Lib.hid (below_st4 ha2 (Nat.le_refl w.heap.size) (.int .i64 l) (.int .i64 d) (.int .i64 h) (.int .i64 j))
  clear ha2 hs2 H
  go_wp2
  refine bodyPost_ret (v := .agg #[.int .i64 l, .int .i64 d, .int .i64 h, .int .i64 j]) (by simp [results, Tryd.results21, go_sem, *]) rfl ⟨_, _, _, _, rfl, HA.out⟩
set_option maxHeartbeats 4000000 in
theorem drawMortarFor_any (a : Option Addr) (len cap : Nat) (zs : List Int) (w : World) (h : IsRow .u8 w a len cap zs) :
    Calls Tryd.prog 24 #[.slice a len cap] w (NewFI w) := by
  have H := Lib.hid fun W (hW : Below w.heap.size w W) => from_any a len cap zs W (h.below hW)
  clear h
  go_enter Tryd.func24, Tryd.ntmps24
  go_wp2_with fail
  refine (H.out _ (by repeat (first | exact Below.refl _ _ | assumption | refine Below.drew ?_ | refine below_drewN ?_ _ | refine Below.alloc ?_ (by first | omega | (simp; done) | (simp; omega)) _ | refine Below.setCell ?_ (by first | omega | (simp; done) | (simp; omega)) _))).mono ?_
  rintro e1 w1 ⟨rfl, hs1, hb1, hz1⟩
  have R1 := Lib.hid (B4.below (b4_new w 31 (.int .i64 0) (.int .i64 0) (.int .i64 0) (.int .i64 0)) hb1)
  have ha1 : Below w.heap.size w w1 := below_call (by repeat (first | exact Below.refl _ _ | assumption | refine Below.drew ?_ | refine below_drewN ?_ _ | refine Below.alloc ?_ (by first | omega | (simp; done) | (simp; omega)) _ | refine Below.setCell ?_ (by first | omega | (simp; done) | (simp; omega)) _)) hb1
  simp at hs1 hz1
  clear hb1
  go_wp2_with fail
  refine (l02Bent_any _ a len cap zs _ _ hs1 (by omega)).mono ?_
  rintro e2 w2 ⟨l, d, h, j, rfl, hs2, hg2⟩
  have R2 := Lib.hid (R1.out.grown hg2 (by omega))
  have ha2 := below_of_grown ha1 hg2 (by omega)
  have hz2 := hg2.size
  clear hg2 hs1 R1 ha1
  -- the format in its own block (X), the result's block (R) at the world at hand (w2 with the format's block)
  have R := Lib.hid (R2.out.alloc (.cells #[.int .i64 l, .int .i64 d, .int .i64 h, .int .i64 j] 31))
  have X := Lib.hid (b4_new w2 31 (.int .i64 l) (.int .i64 d) (.int .i64 h) (.int .i64 j))
  have ha := ha2.alloc (by omega) (.cells #[.int .i64 l, .int .i64 d, .int .i64 h, .int .i64 j] 31)
  have hs := hs2.alloc (.cells #[.int .i64 l, .int .i64 d, .int .i64 h, .int .i64 j] 31)
  clear R2 ha2 hs2 H
  go_wp2_with fail
  obtain ⟨q0, q1, q2, q3⟩ := X.out.cells
  obtain ⟨k0, k1, k2, k3⟩ := R.out.cells
  obtain ⟨f0, f1, f2, f3⟩ := R.out.fz
  go_region_law (go_simp; go_at_call 47; (with_reducible refine (l11DrawMany_any (w.heap.size + 1) a len cap zs _ _ hs.drew (by omega)).mono ?_); rintro e9 w9 ⟨m9, rfl, hs9, hg9⟩; have X9 := (B4.drew X.out).grown hg9 (by omega); have R9 := (B4.drew R.out).grown hg9 (by omega); obtain ⟨n0, n1, n2, n3⟩ := X9.cells; obtain ⟨o0, o1, o2, o3⟩ := R9.cells; obtain ⟨e0, e1, e2, e3⟩ := R9.fz; have ha9 := below_of_grown ha.drew hg9 (by omega); have HA9 := Lib.hid (below_st4 ha9 (Nat.le_refl w.heap.size) (.int .i64 l) (.int .i64 d) (.int .i64 h) (.int .i64 j)); clear hs9 hg9 X9 R9 ha9)
  all_goals
    go_wp2
    refine bodyPost_ret (v := .tuple #[.agg #[.int .i64 l, .int .i64 d, .int .i64 h, .int .i64 j], .int .i64 m9]) (by simp [results, Tryd.results24, go_sem, *]) rfl ⟨_, _, _, _, _, rfl, HA9.out⟩
set_option maxHeartbeats 4000000 in
theorem drawBricksOfAll_any (a : Option Addr) (len cap : Nat) (zs : List Int) (w : World) (h : IsRow .u8 w a len cap zs) :
    Calls Tryd.prog 12 #[.slice a len cap] w (NewFW w) := by
  have H := Lib.hid fun W (hW : Below w.heap.size w W) => from_any a len cap zs W (h.below hW)
  clear h
  go_enter Tryd.func12, Tryd.ntmps12
  go_wp2_with fail
  refine (H.out _ (by repeat (first | exact Below.refl _ _ | assumption | refine Below.drew ?_ | refine below_drewN ?_ _ | refine Below.alloc ?_ (by first | omega | (simp; done) | (simp; omega)) _ | refine Below.setCell ?_ (by first | omega | (simp; done) | (simp; omega)) _))).mono ?_
  rintro e1 w1 ⟨rfl, hs1, hb1, hz1⟩
  have R1 := Lib.hid (B4.below (b4_new w 31 (.int .i64 0) (.int .i64 0) (.int .i64 0) (.int .i64 0)) hb1)
  have ha1 : Below w.heap.size w w1 := below_call (by repeat (first | exact Below.refl _ _ | assumption | refine Below.drew ?_ | refine below_drewN ?_ _ | refine Below.alloc ?_ (by first | omega | (simp; done) | (simp; omega)) _ | refine Below.setCell ?_ (by first | omega | (simp; done) | (simp; omega)) _)) hb1
  simp at hs1 hz1
  clear hb1
  go_wp2_with fail
  refine (l02Bent_any _ a len cap zs _ _ hs1 (by omega)).mono ?_
  rintro e2 w2 ⟨l, d, h, j, rfl, hs2, hg2⟩
  have R2 := Lib.hid (R1.out.grown hg2 (by omega))
  have ha2 := below_of_grown ha1 hg2 (by omega)
  have hz2 := hg2.size
  clear hg2 hs1 R1 ha1
  -- the format in its own block (X), the result's block (R) at the world at hand (w2 with the format's block)
  have R := Lib.hid (R2.out.alloc (.cells #[.int .i64 l, .int .i64 d, .int .i64 h, .int .i64 j] 31))
  have X := Lib.hid (b4_new w2 31 (.int .i64 l) (.int .i64 d) (.int .i64 h) (.int .i64 j))
  have ha := ha2.alloc (by omega) (.cells #[.int .i64 l, .int .i64 d, .int .i64 h, .int .i64 j] 31)
  have hs := hs2.alloc (.cells #[.int .i64 l, .int .i64 d, .int .i64 h, .int .i64 j] 31)
  clear R2 ha2 hs2 H
  go_wp2_with fail
  obtain ⟨q0, q1, q2, q3⟩ := X.out.cells
  obtain ⟨k0, k1, k2, k3⟩ := R.out.cells
  obtain ⟨f0, f1, f2, f3⟩ := R.out.fz
  go_region_law (go_simp; go_at_call 44; (with_reducible refine (l11Bent_any (w.heap.size + 1) a len cap zs _ _ hs.drew (by omega)).mono ?_); rintro e9 w9 ⟨v9, n9, x9, rfl, ho9, hx9, hs9, hg9⟩; obtain ⟨a9, c9, rfl⟩ := ownW_shape ho9; have X9 := (B4.drew X.out).grown hg9 (by omega); have R9 := (B4.drew R.out).grown hg9 (by omega); obtain ⟨n0, n1, n2, n3⟩ := X9.cells; obtain ⟨o0, o1, o2, o3⟩ := R9.cells; obtain ⟨e0, e1, e2, e3⟩ := R9.fz; have ha9 := below_of_grown ha.drew hg9 (by omega); have HO9 := Lib.hid (isPieces_own (own_st4 ho9 (show w.heap.size < _ from by simp; omega) (.int .i64 l) (.int .i64 d) (.int .i64 h) (.int .i64 j)) hx9); have HA9 := Lib.hid (below_st4 ha9 (Nat.le_refl w.heap.size) (.int .i64 l) (.int .i64 d) (.int .i64 h) (.int .i64 j)); clear ho9 hx9 hs9 hg9 X9 R9 ha9)
  all_goals
    obtain ⟨ps, hps⟩ := HO9.out
    have HPS := Lib.hid hps
    clear hps HO9
    go_wp2
    refine bodyPost_ret (v := .tuple #[.agg #[.int .i64 l, .int .i64 d, .int .i64 h, .int .i64 j], .slice a9 n9 c9]) (by simp [results, Tryd.results12, go_sem, *]) rfl ⟨_, _, _, ps, _, _, _, _, rfl, HPS.out, HA9.out⟩
set_option maxHeartbeats 4000000 in
theorem drawShareBricks_any (a : Option Addr) (len cap : Nat) (zs : List Int) (w : World) (h : IsRow .u8 w a len cap zs) :
    Calls Tryd.prog 15 #[.slice a len cap] w (NewFWI w) := by
  have H := Lib.hid fun W (hW : Below w.heap.size w W) => from_any a len cap zs W (h.below hW)
  clear h
  go_enter Tryd.func15, Tryd.ntmps15
  go_wp2_with fail
  refine (H.out _ (by repeat (first | exact Below.refl _ _ | assumption | refine Below.drew ?_ | refine below_drewN ?_ _ | refine Below.alloc ?_ (by first | omega | (simp; done) | (simp; omega)) _ | refine Below.setCell ?_ (by first | omega | (simp; done) | (simp; omega)) _))).mono ?_
  rintro e1 w1 ⟨rfl, hs1, hb1, hz1⟩
  have R1 := Lib.hid (B4.below (b4_new w 31 (.int .i64 0) (.int .i64 0) (.int .i64 0) (.int .i64 0)) hb1)
  have ha1 : Below w.heap.size w w1 := below_call (by repeat (first | exact Below.refl _ _ | assumption | refine Below.drew ?_ | refine below_drewN ?_ _ | refine Below.alloc ?_ (by first | omega | (simp; done) | (simp; omega)) _ | refine Below.setCell ?_ (by first | omega | (simp; done) | (simp; omega)) _)) hb1
  simp at hs1 hz1
  clear hb1
  go_wp2_with fail
  refine (l02Bent_any _ a len cap zs _ _ hs1 (by omega)).mono ?_
  rintro e2 w2 ⟨l, d, h, j, rfl, hs2, hg2⟩
  have R2 := Lib.hid (R1.out.grown hg2 (by omega))
  have ha2 := below_of_grown ha1 hg2 (by omega)
  have hz2 := hg2.size
  clear hg2 hs1 R1 ha1
  go_wp2_with fail
  refine (l11Bent_any _ a len cap zs _ _ (hs2.alloc _) (by omega)).mono ?_
  rintro e3 w3 ⟨v3, n3, x3, rfl, ho3, hx3, hs3, hg3⟩
  obtain ⟨a3, c3, rfl⟩ := ownW_shape ho3
  have R := Lib.hid ((R2.out.alloc (.cells #[.int .i64 l, .int .i64 d, .int .i64 h, .int .i64 j] 31)).grown hg3 (by omega))
  have X := Lib.hid ((b4_new w2 31 (.int .i64 l) (.int .i64 d) (.int .i64 h) (.int .i64 j)).grown hg3 (by omega))
  have ha := below_of_grown (ha2.alloc (by omega) (.cells #[.int .i64 l, .int .i64 d, .int .i64 h, .int .i64 j] 31)) hg3 (by omega)
  have hs := hs3
  have hz3 := hg3.size
  simp at hz3
  simp at ho3
  clear hg3 hs2 R2 hs3 H ha2
  go_wp2_with fail
  obtain ⟨q0, q1, q2, q3⟩ := X.out.cells
  obtain ⟨k0, k1, k2, k3⟩ := R.out.cells
  obtain ⟨f0, f1, f2, f3⟩ := R.out.fz
  have HO3 := Lib.hid ho3
  have HX3 := Lib.hid hx3
  clear ho3 hx3
  go_region_law (go_simp; go_at_call 47; (with_reducible refine (l11DrawMany_any (w.heap.size + 1) a len cap zs _ _ hs.drew (by omega)).mono ?_); rintro e9 w9 ⟨m9, rfl, hs9, hg9⟩; have X9 := (B4.drew X.out).grown hg9 (by omega); have R9 := (B4.drew R.out).grown hg9 (by omega); obtain ⟨n0, n1, n2, n3'⟩ := X9.cells; obtain ⟨o0, o1, o2, o3⟩ := R9.cells; obtain ⟨e0, e1, e2, e3⟩ := R9.fz; have ha9 := below_of_grown ha.drew hg9 (by omega); have HO9 := Lib.hid (isPieces_own (own_st4 (own_src (World.ownsRow.drew HO3.out) hg9 (by omega)) (show w.heap.size < _ from by omega) (.int .i64 l) (.int .i64 d) (.int .i64 h) (.int .i64 j)) HX3.out); have HA9 := Lib.hid (below_st4 ha9 (Nat.le_refl w.heap.size) (.int .i64 l) (.int .i64 d) (.int .i64 h) (.int .i64 j)); clear hs9 hg9 X9 R9 ha9)
  all_goals
    obtain ⟨ps, hps⟩ := HO9.out
    have HPS := Lib.hid hps
    clear hps HO9
    go_wp2
    refine bodyPost_ret (v := .tuple #[.agg #[.int .i64 l, .int .i64 d, .int .i64 h, .int .i64 j], .slice a3 n3 c3, .int .i64 m9]) (by simp [results, Tryd.results15, go_sem, *]) rfl ⟨_, _, _, ps, _, _, _, _, _, rfl, HPS.out, HA9.out⟩
set_option maxHeartbeats 4000000 in
theorem drawPieceText_any (a : Option Addr) (len cap : Nat) (zs : List Int) (w : World) (h : IsRow .u8 w a len cap zs) :
    Calls Tryd.prog 27 #[.slice a len cap] w (NewPo w) := by
  have H := Lib.hid fun W (hW : Below w.heap.size w W) => from_any a len cap zs W (h.below hW)
  clear h
  go_enter Tryd.func27, Tryd.ntmps27
  go_wp2_with fail
  refine (H.out _ (by repeat (first | exact Below.refl _ _ | assumption | refine Below.drew ?_ | refine below_drewN ?_ _ | refine Below.alloc ?_ (by first | omega | (simp; done) | (simp; omega)) _ | refine Below.setCell ?_ (by first | omega | (simp; done) | (simp; omega)) _))).mono ?_
  rintro e1 w1 ⟨rfl, hs1, hb1, hz1⟩
  have R1 := Lib.hid (B3.below (b3_new w 25 (.int .i64 0) (.int .i64 0) (.int .i64 0)) hb1)
  have ha1 : Below w.heap.size w w1 := below_call (by repeat (first | exact Below.refl _ _ | assumption | refine Below.drew ?_ | refine below_drewN ?_ _ | refine Below.alloc ?_ (by first | omega | (simp; done) | (simp; omega)) _ | refine Below.setCell ?_ (by first | omega | (simp; done) | (simp; omega)) _)) hb1
  simp at hs1 hz1
  clear hb1
  go_wp2_with fail
  refine (l11Other_any _ a len cap zs _ _ hs1 (by omega)).mono ?_
  rintro e2 w2 ⟨x, y, z, rfl, hs2, hg2⟩
  have R2 := Lib.hid (R1.out.grown hg2 (by omega))
  have ha2 := below_of_grown ha1 hg2 (by omega)
  obtain ⟨o0, o1, o2⟩ := R2.out.cells
  obtain ⟨e0, e1, e2⟩ := R2.out.fz
  have HA := Lib.hid (below_st3 ha2 (Nat.le_refl w.heap.size) (.int .i64 x) (.int .i64 y) (.int .i64 z))
  clear hg2 hs1 R1 ha1 ha2 hs2 H
  go_wp2
  refine bodyPost_ret (v := .agg #[.int .i64 x, .int .i64 y, .int .i64 z]) (by simp [results, Tryd.results27, go_sem, *]) rfl ⟨_, _, _, rfl, HA.out⟩
set_option maxHeartbeats 4000000 in
theorem drawValidPieces_any (a : Option Addr) (len cap : Nat) (zs : List Int) (w : World) (h : IsRow .u8 w a len cap zs) :
    Calls Tryd.prog 28 #[.slice a len cap] w (NewWo w) := by
  have H := Lib.hid (from_any a len cap zs w h)
  clear h
  go_enter Tryd.func28, Tryd.ntmps28
  go_wp2_with fail
  refine H.out.mono ?_
  rintro e1 w1 ⟨rfl, hs1, hb1, hz1⟩
  go_wp2_with fail
  refine (l11Bent_any _ a len cap zs _ _ hs1 (by omega)).mono ?_
  rintro e2 w2 ⟨v2, n2, x2, rfl, ho2, hx2, hs2, hg2⟩
  obtain ⟨a2, c2, rfl⟩ := ownW_shape ho2
  obtain ⟨ps, hps⟩ := isPieces_own ho2 hx2
  have HPS := Lib.hid hps
  have ha2 := Lib.hid (below_of_grown hb1 hg2 (Nat.le_refl _))
  clear hg2 hs1 hs2 ho2 hx2 hps H hb1
  go_wp2
  go_ret
  exact ⟨_, _, _, ps, rfl, HPS.out, ha2.out⟩
/-- Two numbers come (drawn waste). -/
theorem drawWithWaste_any (a : Option Addr) (len cap : Nat) (zs : List Int) (w : World) (h : IsRow .u8 w a len cap zs) :
    Calls Tryd.prog 18 #[.slice a len cap] w (New2I w) := by
  have H := Lib.hid (from_any a len cap zs w h)
  clear h
  go_enter Tryd.func18, Tryd.ntmps18
  go_wp2_with fail
  refine H.out.mono ?_
  rintro e1 w1 ⟨rfl, hs1, hb1, hz1⟩
  go_wp2_with fail
  refine (l11DrawMany_any _ a len cap zs _ _ hs1 (by omega)).mono ?_
  rintro e2 w2 ⟨n, rfl, hs2, hg2⟩
  have ha2 := below_of_grown hb1 hg2 (Nat.le_refl _)
  clear hg2 hs1
  go_wp2_with fail
  refine (one_any _ a len cap zs _ 10 _ hs2 (by omega) (by omega) (by omega)).mono ?_
  rintro e3 w3 ⟨r, rfl, hs3, hg3⟩
  have ha3 := below_of_grown ha2 hg3 (Nat.le_refl _)
  clear hg3 hs2
  cases r
  · go_wp2_with fail
    refine (pick_any _ a len cap zs _ 40 _ hs3 (by omega) (by omega) (by omega)).mono ?_
    rintro e4 w4 ⟨r4, rfl, r40, r41, hs4, hg4⟩
    have ha4 := below_of_grown ha3 hg4 (Nat.le_refl _)
    clear hg4 hs3
    go_wp2
    refine bodyPost_ret (v := .tuple #[.int .i64 n, .int .i64 (5 * r4)]) (by simp [results, Tryd.results18, go_sem, *]) rfl ⟨_, _, rfl, ha4⟩
  · go_wp2_with fail
    refine (among_lit _ a len cap zs _ [-1, 0, 1000, 1001] 4 _ hs3 (by omega) rfl (by omega) (by omega)).mono ?_
    rintro e4 w4 ⟨r4, rfl, hs4, hg4⟩
    have ha4 := below_of_grown ha3 hg4 (Nat.le_refl _)
    clear hg4 hs3
    go_wp2
    refine bodyPost_ret (v := .tuple #[.int .i64 n, .int .i64 r4]) (by simp [results, Tryd.results18, go_sem, *]) rfl ⟨_, _, rfl, ha4⟩
set_option maxHeartbeats 8000000 in
theorem drawBricksOf_any (a : Option Addr) (len cap : Nat) (zs : List Int) (w : World) (h : IsRow .u8 w a len cap zs) :
    Calls Tryd.prog 9 #[.slice a len cap] w (NewFP w) := by
  have H := Lib.hid fun W (hW : Below w.heap.size w W) => from_any a len cap zs W (h.below hW)
  clear h
  go_enter Tryd.func9, Tryd.ntmps9
  go_wp2_with fail
  refine (H.out _ (by repeat (first | exact Below.refl _ _ | assumption | refine Below.drew ?_ | refine below_drewN ?_ _ | refine Below.alloc ?_ (by first | omega | (simp; done) | (simp; omega)) _ | refine Below.setCell ?_ (by first | omega | (simp; done) | (simp; omega)) _))).mono ?_
  rintro e1 w1 ⟨rfl, hs1, hb1, hz1⟩
  have R1 := Lib.hid (B4.below ((b4_new w 31 (.int .i64 0) (.int .i64 0) (.int .i64 0) (.int .i64 0)).alloc (.cells #[.int .i64 0, .int .i64 0, .int .i64 0] 25)) hb1)
  have P1 := Lib.hid (B3.below (b3_new (w.alloc (.cells #[.int .i64 0, .int .i64 0, .int .i64 0, .int .i64 0] 31)) 25 (.int .i64 0) (.int .i64 0) (.int .i64 0)) hb1)
  have ha1 : Below w.heap.size w w1 := below_call (by repeat (first | exact Below.refl _ _ | assumption | refine Below.drew ?_ | refine below_drewN ?_ _ | refine Below.alloc ?_ (by first | omega | (simp; done) | (simp; omega)) _ | refine Below.setCell ?_ (by first | omega | (simp; done) | (simp; omega)) _)) hb1
  simp at hs1 hz1 P1
  clear hb1
  go_wp2_with fail
  refine (l02Bent_any _ a len cap zs _ _ hs1 (by omega)).mono ?_
  rintro e2 w2 ⟨l, d, h, j, rfl, hs2, hg2⟩
  have R2 := Lib.hid (R1.out.grown hg2 (by omega))
  have P2 := Lib.hid (P1.out.grown hg2 (by omega))
  have ha2 := below_of_grown ha1 hg2 (by omega)
  have hz2 := hg2.size
  clear hg2 hs1 R1 P1 ha1
  have R := Lib.hid (R2.out.alloc (.cells #[.int .i64 l, .int .i64 d, .int .i64 h, .int .i64 j] 31))
  have P := Lib.hid (P2.out.alloc (.cells #[.int .i64 l, .int .i64 d, .int .i64 h, .int .i64 j] 31))
  have X := Lib.hid (b4_new w2 31 (.int .i64 l) (.int .i64 d) (.int .i64 h) (.int .i64 j))
  have ha := ha2.alloc (by omega) (.cells #[.int .i64 l, .int .i64 d, .int .i64 h, .int .i64 j] 31)
  have hs := hs2.alloc (.cells #[.int .i64 l, .int .i64 d, .int .i64 h, .int .i64 j] 31)
  clear R2 P2 ha2 hs2 H
  go_wp2_with fail
  obtain ⟨q0, q1, q2, q3⟩ := X.out.cells
  obtain ⟨k0, k1, k2, k3⟩ := R.out.cells
  obtain ⟨f0, f1, f2, f3⟩ := R.out.fz
  obtain ⟨i0, i1, i2⟩ := P.out.cells
  obtain ⟨j0, j1, j2⟩ := P.out.fz
  go_region_law (go_simp; go_at_call 39; (with_reducible refine (l11Other_any (w.heap.size + 1 + 1) a len cap zs _ _ hs.drew (by omega)).mono ?_); rintro e9 w9 ⟨x, y, z, rfl, hs9, hg9⟩; have X9 := (B4.drew X.out).grown hg9 (by omega); have R9 := (B4.drew R.out).grown hg9 (by omega); have P9 := (B3.drew P.out).grown hg9 (by omega); obtain ⟨n0, n1, n2, n3⟩ := X9.cells; obtain ⟨o0, o1, o2, o3⟩ := R9.cells; obtain ⟨e0, e1, e2, e3⟩ := R9.fz; obtain ⟨p0, p1, p2⟩ := P9.cells; obtain ⟨g0, g1, g2⟩ := P9.fz; have ha9 := below_of_grown ha.drew hg9 (by omega); have HA9 := Lib.hid (below_st3 (below_st4 ha9 (Nat.le_refl w.heap.size) (.int .i64 l) (.int .i64 d) (.int .i64 h) (.int .i64 j)) (Nat.le_succ w.heap.size) (.int .i64 x) (.int .i64 y) (.int .i64 z)); have HA8 := Lib.hid (below_st4 (below_st3 ha9 (Nat.le_succ w.heap.size) (.int .i64 x) (.int .i64 y) (.int .i64 z)) (Nat.le_refl w.heap.size) (.int .i64 l) (.int .i64 d) (.int .i64 h) (.int .i64 j)); clear hs9 hg9 X9 R9 P9 ha9)
  all_goals
    go_wp2
    refine bodyPost_ret (v := .tuple #[.agg #[.int .i64 l, .int .i64 d, .int .i64 h, .int .i64 j], .agg #[.int .i64 x, .int .i64 y, .int .i64 z]]) (by simp [results, Tryd.results9, go_sem, *]) rfl ⟨_, _, _, _, _, _, _, rfl, by first | exact HA9.out | exact HA8.out⟩
end Go.Proofs.YtgnalhnbdpigdaaDoor
