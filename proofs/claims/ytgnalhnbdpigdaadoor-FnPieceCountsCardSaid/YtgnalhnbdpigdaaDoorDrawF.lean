/- Contracts of the reference's drawing of formats (l02Draw, l02Bent): some format comes; the source's block alone turns; condition: the bytes can be read. -/
import Derived.Test.YtgnalhnbdpigdaaDoorDrawG
import Derived.Deep.RegionLaw
namespace Go.Proofs.YtgnalhnbdpigdaaDoor
set_option linter.unusedVariables false
open Go.RowKit

/-- A block of four cells. -/
def B4 (w : World) (g : Nat) (t : TypeId) (c0 c1 c2 c3 : Value) : Prop := w.heap[g]? = some (.cells #[c0, c1, c2, c3] t (0, 0))
theorem B4.s0 {w : World} {g : Nat} {t : TypeId} {c0 c1 c2 c3 : Value} (h : B4 w g t c0 c1 c2 c3) (u : Value) : B4 (w.setCell ⟨g, 0, none⟩ u) g t u c1 c2 c3 := by have := blk_set h 0 u; simpa [B4] using this
theorem B4.s1 {w : World} {g : Nat} {t : TypeId} {c0 c1 c2 c3 : Value} (h : B4 w g t c0 c1 c2 c3) (u : Value) : B4 (w.setCell ⟨g, 1, none⟩ u) g t c0 u c2 c3 := by have := blk_set h 1 u; simpa [B4] using this
theorem B4.s2 {w : World} {g : Nat} {t : TypeId} {c0 c1 c2 c3 : Value} (h : B4 w g t c0 c1 c2 c3) (u : Value) : B4 (w.setCell ⟨g, 2, none⟩ u) g t c0 c1 u c3 := by have := blk_set h 2 u; simpa [B4] using this
theorem B4.s3 {w : World} {g : Nat} {t : TypeId} {c0 c1 c2 c3 : Value} (h : B4 w g t c0 c1 c2 c3) (u : Value) : B4 (w.setCell ⟨g, 3, none⟩ u) g t c0 c1 c2 u := by have := blk_set h 3 u; simpa [B4] using this
theorem B4.far {w : World} {g : Nat} {t : TypeId} {c0 c1 c2 c3 : Value} (h : B4 w g t c0 c1 c2 c3) {p : Addr} (hne : g ≠ p.block) (u : Value) : B4 (w.setCell p u) g t c0 c1 c2 c3 := blk_far h hne u
theorem B4.grown {w w' : World} {g b : Nat} {t : TypeId} {c0 c1 c2 c3 : Value} (h : B4 w g t c0 c1 c2 c3) (hg : w.grownBy w' (some b)) (hne : g ≠ b) : B4 w' g t c0 c1 c2 c3 := blk_grown h hg hne
theorem B4.alloc {w : World} {g : Nat} {t : TypeId} {c0 c1 c2 c3 : Value} (h : B4 w g t c0 c1 c2 c3) (o : Obj) : B4 (w.alloc o) g t c0 c1 c2 c3 := blk_alloc h
theorem B4.below {w w' : World} {g : Nat} {t : TypeId} {c0 c1 c2 c3 : Value} (h : B4 w g t c0 c1 c2 c3) (hb : Below w.heap.size w w') : B4 w' g t c0 c1 c2 c3 := blk_call h hb
theorem B4.drew {w : World} {g : Nat} {t : TypeId} {c0 c1 c2 c3 : Value} (h : B4 w g t c0 c1 c2 c3) : B4 w.drew g t c0 c1 c2 c3 := h
theorem B4.cells {w : World} {g : Nat} {t : TypeId} {c0 c1 c2 c3 : Value} (h : B4 w g t c0 c1 c2 c3) : w.cell? ⟨g, 0, none⟩ = some c0 ∧ w.cell? ⟨g, 1, none⟩ = some c1 ∧ w.cell? ⟨g, 2, none⟩ = some c2 ∧ w.cell? ⟨g, 3, none⟩ = some c3 := by
  refine ⟨?_, ?_, ?_, ?_⟩ <;> (rw [cellOf h]; rfl)
theorem B4.fz {w : World} {g : Nat} {t : TypeId} {c0 c1 c2 c3 : Value} (h : B4 w g t c0 c1 c2 c3) : w.frozen? ⟨g, 0, none⟩ = false ∧ w.frozen? ⟨g, 1, none⟩ = false ∧ w.frozen? ⟨g, 2, none⟩ = false ∧ w.frozen? ⟨g, 3, none⟩ = false := ⟨frozenOf h 0, frozenOf h 1, frozenOf h 2, frozenOf h 3⟩
theorem b4_new (w : World) (t : TypeId) (c0 c1 c2 c3 : Value) : B4 (w.alloc (.cells #[c0, c1, c2, c3] t (0, 0))) w.heap.size t c0 c1 c2 c3 := blk_new w _
theorem B4.lt {w : World} {g : Nat} {t : TypeId} {c0 c1 c2 c3 : Value} (h : B4 w g t c0 c1 c2 c3) : g < w.heap.size := blk_lt h
/-- What a drawn format leaves. -/
def DrewF (w : World) (b : Nat) (a : Option Addr) (len cap : Nat) (zs : List Int) (M : Int) (e : Ending) (w' : World) : Prop :=
  ∃ l d h j : Int, e = .returned (.agg #[.int .i64 l, .int .i64 d, .int .i64 h, .int .i64 j]) ∧ Src w' b a len cap zs M ∧ w.grownBy w' (some b)
theorem src4 {w : World} {b g : Nat} {a : Option Addr} {len cap : Nat} {zs : List Int} {N : Int} (h : Src w b a len cap zs N) (hg : g ≠ b) (hr : 0 < len → ∀ x, a = some x → x.block < g) (u0 u1 u2 u3 : Value) :
    Src ((((w.setCell ⟨g, 0, none⟩ u0).setCell ⟨g, 1, none⟩ u1).setCell ⟨g, 2, none⟩ u2).setCell ⟨g, 3, none⟩ u3) b a len cap zs N := by
  have hq : 0 < len → ∀ x, a = some x → x.block ≠ g := fun h0 x hx => by have := hr h0 x hx; omega
  exact (((h.setCell (p := ⟨g, 0, none⟩) hg hq u0).setCell (p := ⟨g, 1, none⟩) hg hq u1).setCell (p := ⟨g, 2, none⟩) hg hq u2).setCell (p := ⟨g, 3, none⟩) hg hq u3
theorem grown4 {a w : World} {r : Option Nat} {g : Nat} (h : a.grownBy w r) (hg : a.heap.size ≤ g) (u0 u1 u2 u3 : Value) : a.grownBy ((((w.setCell ⟨g, 0, none⟩ u0).setCell ⟨g, 1, none⟩ u1).setCell ⟨g, 2, none⟩ u2).setCell ⟨g, 3, none⟩ u3) r :=
  grown_new (grown_new (grown_new (grown_new h (p := ⟨g, 0, none⟩) hg u0) (p := ⟨g, 1, none⟩) hg u1) (p := ⟨g, 2, none⟩) hg u2) (p := ⟨g, 3, none⟩) hg u3
set_option maxHeartbeats 4000000 in
theorem l02Draw_any (b : Nat) (a : Option Addr) (len cap : Nat) (zs : List Int) (N : Int) (w : World) (h : Src w b a len cap zs N) (hN : N ≤ 100000) :
    Calls Tryd.prog 63 #[.pointer (some ⟨b, 0, none⟩)] w (DrewF w b a len cap zs (N + 10)) := by
  have hbl := h.lt
  have hbne : w.heap.size ≠ b := by omega
  have hrow := Lib.hid (src_row h)
  have H := Lib.hid h
  clear h
  go_enter Tryd.func63, Tryd.ntmps63
  go_wp2_with fail
  refine (pick_any b a len cap zs N 30 _ (H.out.alloc _) (by omega) (by omega) (by omega)).mono ?_
  rintro e1 w1 ⟨r1, rfl, lo1, hi1, hs1, hg1⟩
  have R1 := Lib.hid ((b4_new w 31 (.int .i64 0) (.int .i64 0) (.int .i64 0) (.int .i64 0)).grown hg1 hbne)
  have G1 := grown_trans (grown_alloc (World.grownBy.refl w (some b)) _) hg1
  have hz1 := hg1.size
  simp at hz1
  clear hg1 H
  go_wp2_with fail
  refine (pick_any b a len cap zs (N + 2) 13 _ (hs1.alloc _) (by omega) (by omega) (by omega)).mono ?_
  rintro e2 w2 ⟨r2, rfl, lo2, hi2, hs2, hg2⟩
  have R2 := Lib.hid ((R1.out.alloc _).grown hg2 hbne)
  have X2 := Lib.hid ((b4_new w1 31 (.int .i64 0) (.int .i64 (90 + r1)) (.int .i64 0) (.int .i64 0)).grown hg2 (by omega))
  have G2 := grown_trans (grown_alloc G1 _) hg2
  have hz2 := hg2.size
  simp at hz2
  obtain ⟨q0, q1, q2, q3⟩ := X2.out.cells
  obtain ⟨f0, f1, f2, f3⟩ := X2.out.fz
  have hrow1 : 0 < len → ∀ x, a = some x → x.block ≠ w1.heap.size := fun h0 x hx => by have := hrow.out h0 x hx; omega
  have hb1 : w1.heap.size ≠ b := by omega
  clear hg2 hs1 R1 G1
  go_wp2_with fail
  clear q0 q1 q2 q3 f0 f1 f2 f3
  refine (pick_any b a len cap zs (N + 4) 40 _ (by exact (hs2.setCell (p := ⟨w1.heap.size, 3, none⟩) hb1 hrow1 (.int .i64 r2)).mono (by omega)) (by omega) (by omega) (by omega)).mono ?_
  rintro e3 w3 ⟨r3, rfl, lo3, hi3, hs3, hg3⟩
  have R3 := Lib.hid ((R2.out.far (p := ⟨w1.heap.size, 3, none⟩) (by simp; omega) (.int .i64 r2)).grown hg3 hbne)
  have X3 := Lib.hid ((X2.out.s3 (.int .i64 r2)).grown hg3 hb1)
  have G3 := grown_trans (grown_new G2 (p := ⟨w1.heap.size, 3, none⟩) (by simp; omega) (.int .i64 r2)) hg3
  have hz3 := hg3.size
  simp at hz3
  obtain ⟨q0, q1, q2, q3⟩ := X3.out.cells
  obtain ⟨f0, f1, f2, f3⟩ := X3.out.fz
  clear hg3 hs2 R2 X2 G2
  go_wp2_with fail
  clear q0 q1 q2 q3 f0 f1 f2 f3
  refine (one_any b a len cap zs (N + 6) 3 _ (by exact ((hs3.setCell (p := ⟨w1.heap.size, 2, none⟩) hb1 hrow1 (.int .i64 (50 + r3))).setCell (p := ⟨w1.heap.size, 0, none⟩) hb1 hrow1 (.int .i64 (2 * (90 + r1) + r2))).mono (by omega)) (by omega) (by omega) (by omega)).mono ?_
  rintro e4 w4 ⟨r4, rfl, hs4, hg4⟩
  have R4 := Lib.hid (((R3.out.far (p := ⟨w1.heap.size, 2, none⟩) (by simp; omega) (.int .i64 (50 + r3))).far (p := ⟨w1.heap.size, 0, none⟩) (by simp; omega) (.int .i64 (2 * (90 + r1) + r2))).grown hg4 hbne)
  have X4 := Lib.hid (((X3.out.s2 (.int .i64 (50 + r3))).s0 (.int .i64 (2 * (90 + r1) + r2))).grown hg4 hb1)
  have G4 := grown_trans (grown_new (grown_new G3 (p := ⟨w1.heap.size, 2, none⟩) (by simp; omega) (.int .i64 (50 + r3))) (p := ⟨w1.heap.size, 0, none⟩) (by simp; omega) (.int .i64 (2 * (90 + r1) + r2))) hg4
  have hz4 := hg4.size
  simp at hz4
  obtain ⟨q0, q1, q2, q3⟩ := X4.out.cells
  obtain ⟨f0, f1, f2, f3⟩ := X4.out.fz
  clear hg4 hs3 R3 X3 G3
  cases r4
  · have hs := hs4
    have hg := G4
    have X := X4
    have R := R4
    clear hs4 G4 X4 R4 q0 q1 q2 q3 f0 f1 f2 f3
    obtain ⟨q0, q1, q2, q3⟩ := X.out.cells
    obtain ⟨k0, k1, k2, k3⟩ := R.out.cells
    obtain ⟨f0, f1, f2, f3⟩ := R.out.fz
    have HS := Lib.hid (src4 hs hbne hrow.out (.int .i64 (2 * (90 + r1) + r2)) (.int .i64 (90 + r1)) (.int .i64 (50 + r3)) (.int .i64 (r2)))
    have HG := Lib.hid (grown4 hg (Nat.le_refl w.heap.size) (.int .i64 (2 * (90 + r1) + r2)) (.int .i64 (90 + r1)) (.int .i64 (50 + r3)) (.int .i64 (r2)))
    clear hs hg
    go_wp2
    refine bodyPost_ret (v := .agg #[.int .i64 (2 * (90 + r1) + r2), .int .i64 (90 + r1), .int .i64 (50 + r3), .int .i64 (r2)]) (by simp [results, Tryd.results63, go_sem, *]) rfl ⟨_, _, _, _, rfl, HS.out.mono (by omega), HG.out⟩
  · go_wp2_with fail
    have q9 : w4.drew.cell? ⟨w1.heap.size, 0, none⟩ = some (.int .i64 (2 * (90 + r1) + r2)) := q0
    clear q1 q2 q3 f0 f1 f2 f3
    go_region_law (go_simp; go_at_call 52; (with_reducible refine (pick_any b a len cap zs (N + 6 + 2) 30 _ hs4.drew (by omega) (by omega) (by omega)).mono ?_); rintro e5 w5 ⟨r5, rfl, lo5, hi5, hs5, hg5⟩; have X5 := Lib.hid ((B4.drew X4.out).grown hg5 hb1); have R5 := Lib.hid ((B4.drew R4.out).grown hg5 hbne); have hS : w5.cell? ⟨w1.heap.size, 0, none⟩ = some (.int .i64 (2 * (90 + r1) + r2)) := X5.out.cells.1; have f5 := X5.out.fz.1; have G5 := grown_trans (grown_drew G4) hg5; have hz5 := hg5.size)
    all_goals
      have X := Lib.hid (X5.out.s0 (.int .i64 (2 * (90 + r1) + r2 + r5)))
      have R := Lib.hid (R5.out.far (p := ⟨w1.heap.size, 0, none⟩) (by simp; omega) (.int .i64 (2 * (90 + r1) + r2 + r5)))
      have hs := hs5.setCell (p := ⟨w1.heap.size, 0, none⟩) hb1 hrow1 (.int .i64 (2 * (90 + r1) + r2 + r5))
      have hg := grown_new G5 (p := ⟨w1.heap.size, 0, none⟩) (by simp; omega) (.int .i64 (2 * (90 + r1) + r2 + r5))
      obtain ⟨n0, n1, n2, n3⟩ := X5.out.cells
      obtain ⟨m0, m1, m2, m3⟩ := X5.out.fz
      obtain ⟨o0, o1, o2, o3⟩ := R5.out.cells
      obtain ⟨e0, e1, e2, e3⟩ := R5.out.fz
      clear hs5 hg5 X5 R5 G5 hs4 X4 R4 G4 q0 q9
      obtain ⟨q0, q1, q2, q3⟩ := X.out.cells
      obtain ⟨k0, k1, k2, k3⟩ := R.out.cells
      obtain ⟨f0, f1, f2, f3⟩ := R.out.fz
      have HS := Lib.hid (src4 hs hbne hrow.out (.int .i64 (2 * (90 + r1) + r2 + r5)) (.int .i64 (90 + r1)) (.int .i64 (50 + r3)) (.int .i64 (r2)))
      have HG := Lib.hid (grown4 hg (Nat.le_refl w.heap.size) (.int .i64 (2 * (90 + r1) + r2 + r5)) (.int .i64 (90 + r1)) (.int .i64 (50 + r3)) (.int .i64 (r2)))
      clear hs hg
      go_wp2
      refine bodyPost_ret (v := .agg #[.int .i64 (2 * (90 + r1) + r2 + r5), .int .i64 (90 + r1), .int .i64 (50 + r3), .int .i64 (r2)]) (by simp [results, Tryd.results63, go_sem, *]) rfl ⟨_, _, _, _, rfl, HS.out.mono (by omega), HG.out⟩
set_option maxHeartbeats 8000000 in
theorem l02Bent_any (b : Nat) (a : Option Addr) (len cap : Nat) (zs : List Int) (N : Int) (w : World) (h : Src w b a len cap zs N) (hN : N ≤ 90000) :
    Calls Tryd.prog 38 #[.pointer (some ⟨b, 0, none⟩)] w (DrewF w b a len cap zs (N + 16)) := by
  have hbl := h.lt
  have hbne : w.heap.size ≠ b := by omega
  have hrow := Lib.hid (src_row h)
  have H := Lib.hid h
  clear h
  go_enter Tryd.func38, Tryd.ntmps38
  go_wp2_with fail
  refine (l02Draw_any b a len cap zs N _ (H.out.alloc _) (by omega)).mono ?_
  rintro e1 w1 ⟨l, d, h, j, rfl, hs1, hg1⟩
  have R1 := Lib.hid ((b4_new w 31 (.int .i64 0) (.int .i64 0) (.int .i64 0) (.int .i64 0)).grown hg1 hbne)
  have G1 := grown_trans (grown_alloc (World.grownBy.refl w (some b)) _) hg1
  have hz1 := hg1.size
  simp at hz1
  have hrow1 : 0 < len → ∀ x, a = some x → x.block ≠ w1.heap.size := fun h0 x hx => by have := hrow.out h0 x hx; omega
  have hb1 : w1.heap.size ≠ b := by omega
  clear hg1 H
  go_wp2_with fail
  refine (pick_any b a len cap zs _ 20 _ (hs1.alloc _) (by omega) (by omega) (by omega)).mono ?_
  rintro e3 w3 ⟨r3, rfl, lo3, hi3, hs3, hg3⟩
  have R3 := Lib.hid ((R1.out.alloc (.cells #[.int .i64 l, .int .i64 d, .int .i64 h, .int .i64 j] 31)).grown hg3 hbne)
  have X3 := Lib.hid ((b4_new w1 31 (.int .i64 l) (.int .i64 d) (.int .i64 h) (.int .i64 j)).grown hg3 hb1)
  have G3 := grown_trans (grown_alloc G1 _) hg3
  have hz3 := hg3.size
  simp at hz3
  clear hg3 hs1 R1 G1
  by_cases g0 : r3 = 0
  · subst g0
    obtain ⟨q0, q1, q2, q3⟩ := X3.out.cells
    go_wp2_with fail
    clear q0 q1 q2 q3
    refine (among_lit b a len cap zs _ [99, 100, 500, 501, d, -9223372036854775808] 6 _ hs3 (by omega) rfl (by omega) (by omega)).mono ?_
    rintro e4 w4 ⟨t, rfl, hs4, hg4⟩
    have R4 := Lib.hid (R3.out.grown hg4 hbne)
    have X4 := Lib.hid (X3.out.grown hg4 hb1)
    have G4 := grown_trans G3 hg4
    have hz4 := hg4.size
    try simp at hz4
    obtain ⟨m0, m1, m2, m3⟩ := X4.out.fz
    obtain ⟨n0, n1, n2, n3⟩ := X4.out.cells
    obtain ⟨o0, o1, o2, o3⟩ := R4.out.cells
    obtain ⟨e0, e1, e2, e3⟩ := R4.out.fz
    have X := Lib.hid (X4.out.s0 (.int .i64 t))
    have R := Lib.hid (R4.out.far (p := ⟨w1.heap.size, 0, none⟩) (by simp; omega) (.int .i64 t))
    have hs := hs4.setCell (p := ⟨w1.heap.size, 0, none⟩) hb1 hrow1 (.int .i64 t)
    have hg := grown_new G4 (p := ⟨w1.heap.size, 0, none⟩) (by simp; omega) (.int .i64 t)
    clear hs4 hg4 X4 R4 G4 X3 R3 G3
    obtain ⟨q0, q1, q2, q3⟩ := X.out.cells
    obtain ⟨k0, k1, k2, k3⟩ := R.out.cells
    obtain ⟨f0, f1, f2, f3⟩ := R.out.fz
    have HS := Lib.hid (src4 hs hbne hrow.out (.int .i64 (t)) (.int .i64 (d)) (.int .i64 (h)) (.int .i64 (j)))
    have HG := Lib.hid (grown4 hg (Nat.le_refl w.heap.size) (.int .i64 (t)) (.int .i64 (d)) (.int .i64 (h)) (.int .i64 (j)))
    clear hs hg
    go_wp2
    refine bodyPost_ret (v := .agg #[.int .i64 (t), .int .i64 (d), .int .i64 (h), .int .i64 (j)]) (by simp [results, Tryd.results38, go_sem, *]) rfl ⟨_, _, _, _, rfl, HS.out.mono (by omega), HG.out⟩
  · by_cases g1 : r3 = 1
    · subst g1
      go_wp2_with fail
      refine (among_lit b a len cap zs _ [49, 50, 250, 251] 4 _ hs3 (by omega) rfl (by omega) (by omega)).mono ?_
      rintro e4 w4 ⟨t, rfl, hs4, hg4⟩
      have R4 := Lib.hid (R3.out.grown hg4 hbne)
      have X4 := Lib.hid (X3.out.grown hg4 hb1)
      have G4 := grown_trans G3 hg4
      have hz4 := hg4.size
      try simp at hz4
      obtain ⟨m0, m1, m2, m3⟩ := X4.out.fz
      obtain ⟨n0, n1, n2, n3⟩ := X4.out.cells
      obtain ⟨o0, o1, o2, o3⟩ := R4.out.cells
      obtain ⟨e0, e1, e2, e3⟩ := R4.out.fz
      have X := Lib.hid (X4.out.s1 (.int .i64 t))
      have R := Lib.hid (R4.out.far (p := ⟨w1.heap.size, 1, none⟩) (by simp; omega) (.int .i64 t))
      have hs := hs4.setCell (p := ⟨w1.heap.size, 1, none⟩) hb1 hrow1 (.int .i64 t)
      have hg := grown_new G4 (p := ⟨w1.heap.size, 1, none⟩) (by simp; omega) (.int .i64 t)
      clear hs4 hg4 X4 R4 G4 X3 R3 G3
      obtain ⟨q0, q1, q2, q3⟩ := X.out.cells
      obtain ⟨k0, k1, k2, k3⟩ := R.out.cells
      obtain ⟨f0, f1, f2, f3⟩ := R.out.fz
      have HS := Lib.hid (src4 hs hbne hrow.out (.int .i64 (l)) (.int .i64 (t)) (.int .i64 (h)) (.int .i64 (j)))
      have HG := Lib.hid (grown4 hg (Nat.le_refl w.heap.size) (.int .i64 (l)) (.int .i64 (t)) (.int .i64 (h)) (.int .i64 (j)))
      clear hs hg
      go_wp2
      refine bodyPost_ret (v := .agg #[.int .i64 (l), .int .i64 (t), .int .i64 (h), .int .i64 (j)]) (by simp [results, Tryd.results38, go_sem, *]) rfl ⟨_, _, _, _, rfl, HS.out.mono (by omega), HG.out⟩
    · by_cases g2 : r3 = 2
      · subst g2
        go_wp2_with fail
        refine (among_lit b a len cap zs _ [29, 30, 150, 151] 4 _ hs3 (by omega) rfl (by omega) (by omega)).mono ?_
        rintro e4 w4 ⟨t, rfl, hs4, hg4⟩
        have R4 := Lib.hid (R3.out.grown hg4 hbne)
        have X4 := Lib.hid (X3.out.grown hg4 hb1)
        have G4 := grown_trans G3 hg4
        have hz4 := hg4.size
        try simp at hz4
        obtain ⟨m0, m1, m2, m3⟩ := X4.out.fz
        obtain ⟨n0, n1, n2, n3⟩ := X4.out.cells
        obtain ⟨o0, o1, o2, o3⟩ := R4.out.cells
        obtain ⟨e0, e1, e2, e3⟩ := R4.out.fz
        have X := Lib.hid (X4.out.s2 (.int .i64 t))
        have R := Lib.hid (R4.out.far (p := ⟨w1.heap.size, 2, none⟩) (by simp; omega) (.int .i64 t))
        have hs := hs4.setCell (p := ⟨w1.heap.size, 2, none⟩) hb1 hrow1 (.int .i64 t)
        have hg := grown_new G4 (p := ⟨w1.heap.size, 2, none⟩) (by simp; omega) (.int .i64 t)
        clear hs4 hg4 X4 R4 G4 X3 R3 G3
        obtain ⟨q0, q1, q2, q3⟩ := X.out.cells
        obtain ⟨k0, k1, k2, k3⟩ := R.out.cells
        obtain ⟨f0, f1, f2, f3⟩ := R.out.fz
        have HS := Lib.hid (src4 hs hbne hrow.out (.int .i64 (l)) (.int .i64 (d)) (.int .i64 (t)) (.int .i64 (j)))
        have HG := Lib.hid (grown4 hg (Nat.le_refl w.heap.size) (.int .i64 (l)) (.int .i64 (d)) (.int .i64 (t)) (.int .i64 (j)))
        clear hs hg
        go_wp2
        refine bodyPost_ret (v := .agg #[.int .i64 (l), .int .i64 (d), .int .i64 (t), .int .i64 (j)]) (by simp [results, Tryd.results38, go_sem, *]) rfl ⟨_, _, _, _, rfl, HS.out.mono (by omega), HG.out⟩
      · by_cases g3 : r3 = 3
        · subst g3
          go_wp2_with fail
          refine (among_lit b a len cap zs _ [-1, 0, 20, 21, 9223372036854775807] 5 _ hs3 (by omega) rfl (by omega) (by omega)).mono ?_
          rintro e4 w4 ⟨t, rfl, hs4, hg4⟩
          have R4 := Lib.hid (R3.out.grown hg4 hbne)
          have X4 := Lib.hid (X3.out.grown hg4 hb1)
          have G4 := grown_trans G3 hg4
          have hz4 := hg4.size
          try simp at hz4
          obtain ⟨m0, m1, m2, m3⟩ := X4.out.fz
          obtain ⟨n0, n1, n2, n3⟩ := X4.out.cells
          obtain ⟨o0, o1, o2, o3⟩ := R4.out.cells
          obtain ⟨e0, e1, e2, e3⟩ := R4.out.fz
          have X := Lib.hid (X4.out.s3 (.int .i64 t))
          have R := Lib.hid (R4.out.far (p := ⟨w1.heap.size, 3, none⟩) (by simp; omega) (.int .i64 t))
          have hs := hs4.setCell (p := ⟨w1.heap.size, 3, none⟩) hb1 hrow1 (.int .i64 t)
          have hg := grown_new G4 (p := ⟨w1.heap.size, 3, none⟩) (by simp; omega) (.int .i64 t)
          clear hs4 hg4 X4 R4 G4 X3 R3 G3
          obtain ⟨q0, q1, q2, q3⟩ := X.out.cells
          obtain ⟨k0, k1, k2, k3⟩ := R.out.cells
          obtain ⟨f0, f1, f2, f3⟩ := R.out.fz
          have HS := Lib.hid (src4 hs hbne hrow.out (.int .i64 (l)) (.int .i64 (d)) (.int .i64 (h)) (.int .i64 (t)))
          have HG := Lib.hid (grown4 hg (Nat.le_refl w.heap.size) (.int .i64 (l)) (.int .i64 (d)) (.int .i64 (h)) (.int .i64 (t)))
          clear hs hg
          go_wp2
          refine bodyPost_ret (v := .agg #[.int .i64 (l), .int .i64 (d), .int .i64 (h), .int .i64 (t)]) (by simp [results, Tryd.results38, go_sem, *]) rfl ⟨_, _, _, _, rfl, HS.out.mono (by omega), HG.out⟩
        · have x0 : (r3 == 0) = false := by simpa using g0
          have x1 : (r3 == 1) = false := by simpa using g1
          have x2 : (r3 == 2) = false := by simpa using g2
          have x3 : (r3 == 3) = false := by simpa using g3
          have X := X3
          have R := R3
          have hs := hs3
          have hg := G3
          clear X3 R3 hs3 G3
          obtain ⟨q0, q1, q2, q3⟩ := X.out.cells
          obtain ⟨k0, k1, k2, k3⟩ := R.out.cells
          obtain ⟨f0, f1, f2, f3⟩ := R.out.fz
          have HS := Lib.hid (src4 hs hbne hrow.out (.int .i64 (l)) (.int .i64 (d)) (.int .i64 (h)) (.int .i64 (j)))
          have HG := Lib.hid (grown4 hg (Nat.le_refl w.heap.size) (.int .i64 (l)) (.int .i64 (d)) (.int .i64 (h)) (.int .i64 (j)))
          clear hs hg
          go_wp2
          refine bodyPost_ret (v := .agg #[.int .i64 (l), .int .i64 (d), .int .i64 (h), .int .i64 (j)]) (by simp [results, Tryd.results38, go_sem, *]) rfl ⟨_, _, _, _, rfl, HS.out.mono (by omega), HG.out⟩
end Go.Proofs.YtgnalhnbdpigdaaDoor
