/- Contracts of the reference's drawing of walls (l11New, l11Spoil, l11Other, l11Bent): some numbers come, in slices that can be read; the source's block alone turns; condition: the bytes can be read. -/
import Derived.Test.YtgnalhnbdpigdaaDoorDrawF
import Derived.Test.YtgnalhnbdpigdaaDoorDrawP
import Derived.Test.YtgnalhnbdpigdaaDoorPieces
import Derived.Laws.OwnMore
namespace Go.Proofs.YtgnalhnbdpigdaaDoor
set_option linter.unusedVariables false
open Go.RowKit

/-- A block of three cells. -/
def B3 (w : World) (g : Nat) (t : TypeId) (c0 c1 c2 : Value) : Prop := w.heap[g]? = some (.cells #[c0, c1, c2] t (0, 0))
theorem B3.s0 {w : World} {g : Nat} {t : TypeId} {c0 c1 c2 : Value} (h : B3 w g t c0 c1 c2) (u : Value) : B3 (w.setCell ⟨g, 0, none⟩ u) g t u c1 c2 := by have := blk_set h 0 u; simpa [B3] using this
theorem B3.s1 {w : World} {g : Nat} {t : TypeId} {c0 c1 c2 : Value} (h : B3 w g t c0 c1 c2) (u : Value) : B3 (w.setCell ⟨g, 1, none⟩ u) g t c0 u c2 := by have := blk_set h 1 u; simpa [B3] using this
theorem B3.s2 {w : World} {g : Nat} {t : TypeId} {c0 c1 c2 : Value} (h : B3 w g t c0 c1 c2) (u : Value) : B3 (w.setCell ⟨g, 2, none⟩ u) g t c0 c1 u := by have := blk_set h 2 u; simpa [B3] using this
theorem B3.far {w : World} {g : Nat} {t : TypeId} {c0 c1 c2 : Value} (h : B3 w g t c0 c1 c2) {p : Addr} (hne : g ≠ p.block) (u : Value) : B3 (w.setCell p u) g t c0 c1 c2 := blk_far h hne u
theorem B3.grown {w w' : World} {g b : Nat} {t : TypeId} {c0 c1 c2 : Value} (h : B3 w g t c0 c1 c2) (hg : w.grownBy w' (some b)) (hne : g ≠ b) : B3 w' g t c0 c1 c2 := blk_grown h hg hne
theorem B3.alloc {w : World} {g : Nat} {t : TypeId} {c0 c1 c2 : Value} (h : B3 w g t c0 c1 c2) (o : Obj) : B3 (w.alloc o) g t c0 c1 c2 := blk_alloc h
theorem B3.drew {w : World} {g : Nat} {t : TypeId} {c0 c1 c2 : Value} (h : B3 w g t c0 c1 c2) : B3 w.drew g t c0 c1 c2 := h
theorem B3.below {w w' : World} {g : Nat} {t : TypeId} {c0 c1 c2 : Value} (h : B3 w g t c0 c1 c2) (hb : Below w.heap.size w w') : B3 w' g t c0 c1 c2 := blk_call h hb
theorem B3.cells {w : World} {g : Nat} {t : TypeId} {c0 c1 c2 : Value} (h : B3 w g t c0 c1 c2) : w.cell? ⟨g, 0, none⟩ = some c0 ∧ w.cell? ⟨g, 1, none⟩ = some c1 ∧ w.cell? ⟨g, 2, none⟩ = some c2 := by
  refine ⟨?_, ?_, ?_⟩ <;> (rw [cellOf h]; rfl)
theorem B3.fz {w : World} {g : Nat} {t : TypeId} {c0 c1 c2 : Value} (h : B3 w g t c0 c1 c2) : w.frozen? ⟨g, 0, none⟩ = false ∧ w.frozen? ⟨g, 1, none⟩ = false ∧ w.frozen? ⟨g, 2, none⟩ = false := ⟨frozenOf h 0, frozenOf h 1, frozenOf h 2⟩
theorem b3_new (w : World) (t : TypeId) (c0 c1 c2 : Value) : B3 (w.alloc (.cells #[c0, c1, c2] t (0, 0))) w.heap.size t c0 c1 c2 := blk_new w _
/-- What a drawn wall leaves. -/
def DrewP (w : World) (b : Nat) (a : Option Addr) (len cap : Nat) (zs : List Int) (M : Int) (e : Ending) (w' : World) : Prop :=
  ∃ x y z : Int, e = .returned (.agg #[.int .i64 x, .int .i64 y, .int .i64 z]) ∧ Src w' b a len cap zs M ∧ w.grownBy w' (some b)
theorem src3 {w : World} {b g : Nat} {a : Option Addr} {len cap : Nat} {zs : List Int} {N : Int} (h : Src w b a len cap zs N) (hg : g ≠ b) (hr : 0 < len → ∀ x, a = some x → x.block < g) (u0 u1 u2 : Value) :
    Src (((w.setCell ⟨g, 0, none⟩ u0).setCell ⟨g, 1, none⟩ u1).setCell ⟨g, 2, none⟩ u2) b a len cap zs N := by
  have hq : 0 < len → ∀ x, a = some x → x.block ≠ g := fun h0 x hx => by have := hr h0 x hx; omega
  exact ((h.setCell (p := ⟨g, 0, none⟩) hg hq u0).setCell (p := ⟨g, 1, none⟩) hg hq u1).setCell (p := ⟨g, 2, none⟩) hg hq u2
theorem grown3 {a w : World} {r : Option Nat} {g : Nat} (h : a.grownBy w r) (hg : a.heap.size ≤ g) (u0 u1 u2 : Value) : a.grownBy (((w.setCell ⟨g, 0, none⟩ u0).setCell ⟨g, 1, none⟩ u1).setCell ⟨g, 2, none⟩ u2) r :=
  grown_new (grown_new (grown_new h (p := ⟨g, 0, none⟩) hg u0) (p := ⟨g, 1, none⟩) hg u1) (p := ⟨g, 2, none⟩) hg u2
set_option maxHeartbeats 4000000 in
theorem l11New_any (b : Nat) (a : Option Addr) (len cap : Nat) (zs : List Int) (N : Int) (w : World) (h : Src w b a len cap zs N) (hN : N ≤ 100000) :
    Calls Tryd.prog 64 #[.pointer (some ⟨b, 0, none⟩)] w (DrewP w b a len cap zs (N + 6)) := by
  have hbl := h.lt
  have hbne : w.heap.size ≠ b := by omega
  have hrow := Lib.hid (src_row h)
  have H := Lib.hid h
  clear h
  go_enter Tryd.func64, Tryd.ntmps64
  go_wp2_with fail
  refine (pick_any b a len cap zs N 90 _ (H.out.alloc _) (by omega) (by omega) (by omega)).mono ?_
  rintro e1 w1 ⟨r1, rfl, lo1, hi1, hs1, hg1⟩
  have R1 := Lib.hid ((b3_new w 25 (.int .i64 0) (.int .i64 0) (.int .i64 0)).grown hg1 hbne)
  have G1 := grown_trans (grown_alloc (World.grownBy.refl w (some b)) _) hg1
  have hz1 := hg1.size
  simp at hz1
  have hrow1 : 0 < len → ∀ x, a = some x → x.block ≠ w1.heap.size := fun h0 x hx => by have := hrow.out h0 x hx; omega
  have hb1 : w1.heap.size ≠ b := by omega
  clear hg1 H
  go_wp2_with fail
  refine (pick_any b a len cap zs _ 40 _ (hs1.alloc _) (by omega) (by omega) (by omega)).mono ?_
  rintro e2 w2 ⟨r2, rfl, lo2, hi2, hs2, hg2⟩
  have R2 := Lib.hid ((R1.out.alloc (.cells #[.int .i64 (100 * (1 + r1)), .int .i64 0, .int .i64 0] 25)).grown hg2 hbne)
  have X2 := Lib.hid ((b3_new w1 25 (.int .i64 (100 * (1 + r1))) (.int .i64 0) (.int .i64 0)).grown hg2 hb1)
  have G2 := grown_trans (grown_alloc G1 _) hg2
  have hz2 := hg2.size
  simp at hz2
  obtain ⟨q0, q1, q2⟩ := X2.out.cells
  obtain ⟨f0, f1, f2⟩ := X2.out.fz
  clear hg2 hs1 R1 G1
  go_wp2_with fail
  clear q0 q1 q2 f0 f1 f2
  refine (pick_any b a len cap zs _ 4 _ (by exact hs2.setCell (p := ⟨w1.heap.size, 1, none⟩) hb1 hrow1 (.int .i64 (100 * (1 + r2)))) (by omega) (by omega) (by omega)).mono ?_
  rintro e3 w3 ⟨r3, rfl, lo3, hi3, hs3, hg3⟩
  have R3 := Lib.hid ((R2.out.far (p := ⟨w1.heap.size, 1, none⟩) (by simp; omega) (.int .i64 (100 * (1 + r2)))).grown hg3 hbne)
  have X3 := Lib.hid ((X2.out.s1 (.int .i64 (100 * (1 + r2)))).grown hg3 hb1)
  have G3 := grown_trans (grown_new G2 (p := ⟨w1.heap.size, 1, none⟩) (by simp; omega) (.int .i64 (100 * (1 + r2)))) hg3
  have hz3 := hg3.size
  simp at hz3
  obtain ⟨n0, n1, n2⟩ := X3.out.cells
  obtain ⟨m0, m1, m2⟩ := X3.out.fz
  obtain ⟨o0, o1, o2⟩ := R3.out.cells
  obtain ⟨e0, e1, e2⟩ := R3.out.fz
  have X := Lib.hid (X3.out.s2 (.int .i64 (1 + r3)))
  have R := Lib.hid (R3.out.far (p := ⟨w1.heap.size, 2, none⟩) (by simp; omega) (.int .i64 (1 + r3)))
  have hs := hs3.setCell (p := ⟨w1.heap.size, 2, none⟩) hb1 hrow1 (.int .i64 (1 + r3))
  have hg := grown_new G3 (p := ⟨w1.heap.size, 2, none⟩) (by simp; omega) (.int .i64 (1 + r3))
  clear hg3 hs2 R2 X2 G2 hs3 X3 R3 G3
  -- X (wall's block), R (result's) at the world; hs, hg
  obtain ⟨q0, q1, q2⟩ := X.out.cells
  obtain ⟨k0, k1, k2⟩ := R.out.cells
  obtain ⟨f0, f1, f2⟩ := R.out.fz
  have HS := Lib.hid (src3 hs hbne hrow.out (.int .i64 (100 * (1 + r1))) (.int .i64 (100 * (1 + r2))) (.int .i64 (1 + r3)))
  have HG := Lib.hid (grown3 hg (Nat.le_refl w.heap.size) (.int .i64 (100 * (1 + r1))) (.int .i64 (100 * (1 + r2))) (.int .i64 (1 + r3)))
  clear hs hg
  go_wp2
  refine bodyPost_ret (v := .agg #[.int .i64 (100 * (1 + r1)), .int .i64 (100 * (1 + r2)), .int .i64 (1 + r3)]) (by simp [results, Tryd.results64, go_sem, *]) rfl ⟨_, _, _, rfl, HS.out.mono (by omega), HG.out⟩
/-- What a spoilt wall leaves: one of its cells is another number. -/
def Spoilt (w : World) (b : Nat) (a : Option Addr) (len cap : Nat) (zs : List Int) (M : Int) (g o : Nat) (e : Ending) (w' : World) : Prop :=
  ∃ (W : World) (k : Nat) (t : Int), k < 3 ∧ e = .returned (.tuple #[]) ∧ Src W b a len cap zs M ∧ w.grownBy W (some b) ∧ w' = W.setCell ⟨g, o + k, none⟩ (.int .i64 t)
theorem keepG {w w' : World} {b g o : Nat} {v : Value} (hG : w.grownBy w' (some b)) (hne : g ≠ b) (hc : w.cell? ⟨g, o, none⟩ = some v) (hf : w.frozen? ⟨g, o, none⟩ = false) : w'.cell? ⟨g, o, none⟩ = some v ∧ w'.frozen? ⟨g, o, none⟩ = false := by
  have e : w'.heap[g]? = w.heap[g]? := hG.block g (World.block_lt_of_cell? _ _ hc) (fun e => hne (by injection e))
  refine ⟨?_, ?_⟩
  · rw [← hc]; unfold World.cell?; simp only [e]
  · rw [← hf]; unfold World.frozen?; simp only [e]
set_option maxHeartbeats 4000000 in
theorem l11Spoil_any (b : Nat) (a : Option Addr) (len cap : Nat) (zs : List Int) (N : Int) (g o : Nat) (w : World) (h : Src w b a len cap zs N) (hN : N ≤ 100000) (hgb : g ≠ b) (hc : ∀ k, k < 3 → ∃ v, w.cell? ⟨g, o + k, none⟩ = some v ∧ w.frozen? ⟨g, o + k, none⟩ = false) :
    Calls Tryd.prog 65 #[.pointer (some ⟨b, 0, none⟩), .pointer (some ⟨g, o, none⟩)] w (Spoilt w b a len cap zs (N + 4) g o) := by
  have HC := Lib.hid hc
  have H := Lib.hid h
  clear h hc
  go_enter Tryd.func65, Tryd.ntmps65
  go_wp2_with fail
  refine (pick_any b a len cap zs N 3 _ H.out (by omega) (by omega) (by omega)).mono ?_
  rintro e1 w1 ⟨r1, rfl, lo1, hi1, hs1, hg1⟩
  by_cases g0 : r1 = 0
  · subst g0
    go_wp2_with fail
    refine (among_lit b a len cap zs _ [-1, 0, 1, 100000, 100001, -9223372036854775808] 6 _ hs1 (by omega) rfl (by omega) (by omega)).mono ?_
    rintro e2 w2 ⟨t, rfl, hs2, hg2⟩
    have hg := Lib.hid (grown_trans hg1 hg2)
    have HS := Lib.hid (hs2.mono (M := N + 4) (by omega))
    obtain ⟨v0, hv0, hf0⟩ := HC.out 0 (by omega)
    obtain ⟨hc0, hfz⟩ := keepG hg.out hgb hv0 hf0
    try simp only [Nat.add_zero] at hc0 hfz
    clear hg1 hg2 hs1 hs2 hv0 hf0
    go_wp2
    go_end0
    exact ⟨w2, 0, t, by omega, rfl, HS.out, hg.out, rfl⟩
  · by_cases g1 : r1 = 1
    · subst g1
      go_wp2_with fail
      refine (among_lit b a len cap zs _ [-1, 0, 1, 20000, 20001] 5 _ hs1 (by omega) rfl (by omega) (by omega)).mono ?_
      rintro e2 w2 ⟨t, rfl, hs2, hg2⟩
      have hg := Lib.hid (grown_trans hg1 hg2)
      have HS := Lib.hid (hs2.mono (M := N + 4) (by omega))
      obtain ⟨v0, hv0, hf0⟩ := HC.out 1 (by omega)
      obtain ⟨hc0, hfz⟩ := keepG hg.out hgb hv0 hf0
      try simp only [Nat.add_zero] at hc0 hfz
      clear hg1 hg2 hs1 hs2 hv0 hf0
      go_wp2
      go_end0
      exact ⟨w2, 1, t, by omega, rfl, HS.out, hg.out, rfl⟩
    · have g2 : r1 = 2 := by omega
      subst g2
      go_wp2_with fail
      refine (among_lit b a len cap zs _ [-1, 0, 1, 6, 7] 5 _ hs1 (by omega) rfl (by omega) (by omega)).mono ?_
      rintro e2 w2 ⟨t, rfl, hs2, hg2⟩
      have hg := Lib.hid (grown_trans hg1 hg2)
      have HS := Lib.hid (hs2.mono (M := N + 4) (by omega))
      obtain ⟨v0, hv0, hf0⟩ := HC.out 2 (by omega)
      obtain ⟨hc0, hfz⟩ := keepG hg.out hgb hv0 hf0
      try simp only [Nat.add_zero] at hc0 hfz
      clear hg1 hg2 hs1 hs2 hv0 hf0
      go_wp2
      go_end0
      exact ⟨w2, 2, t, by omega, rfl, HS.out, hg.out, rfl⟩
set_option maxHeartbeats 4000000 in
theorem l11Other_any (b : Nat) (a : Option Addr) (len cap : Nat) (zs : List Int) (N : Int) (w : World) (h : Src w b a len cap zs N) (hN : N ≤ 90000) :
    Calls Tryd.prog 39 #[.pointer (some ⟨b, 0, none⟩)] w (DrewP w b a len cap zs (N + 12)) := by
  have hbl := h.lt
  have hbne : w.heap.size ≠ b := by omega
  have hrow := Lib.hid (src_row h)
  have H := Lib.hid h
  clear h
  go_enter Tryd.func39, Tryd.ntmps39
  go_wp2_with fail
  refine (l11New_any b a len cap zs N _ (H.out.alloc _) (by omega)).mono ?_
  rintro e1 w1 ⟨x, y, z, rfl, hs1, hg1⟩
  have R1 := Lib.hid ((b3_new w 25 (.int .i64 0) (.int .i64 0) (.int .i64 0)).grown hg1 hbne)
  have G1 := grown_trans (grown_alloc (World.grownBy.refl w (some b)) _) hg1
  have hz1 := hg1.size
  simp at hz1
  have hrow1 : 0 < len → ∀ x, a = some x → x.block ≠ w1.heap.size := fun h0 x hx => by have := hrow.out h0 x hx; omega
  have hb1 : w1.heap.size ≠ b := by omega
  clear hg1 H
  go_wp2_with fail
  refine (one_any b a len cap zs _ 6 _ (hs1.alloc _) (by omega) (by omega) (by omega)).mono ?_
  rintro e2 w2 ⟨r, rfl, hs2, hg2⟩
  have R2 := Lib.hid ((R1.out.alloc (.cells #[.int .i64 x, .int .i64 y, .int .i64 z] 25)).grown hg2 hbne)
  have X2 := Lib.hid ((b3_new w1 25 (.int .i64 x) (.int .i64 y) (.int .i64 z)).grown hg2 hb1)
  have G2 := grown_trans (grown_alloc G1 _) hg2
  have hz2 := hg2.size
  simp at hz2
  clear hg2 hs1 R1 G1
  cases r
  · have X := X2
    have R := R2
    have hs := hs2
    have hg := G2
    clear X2 R2 hs2 G2
    -- X (wall's block), R (result's) at the world; hs, hg
    obtain ⟨q0, q1, q2⟩ := X.out.cells
    obtain ⟨k0, k1, k2⟩ := R.out.cells
    obtain ⟨f0, f1, f2⟩ := R.out.fz
    have HS := Lib.hid (src3 hs hbne hrow.out (.int .i64 (x)) (.int .i64 (y)) (.int .i64 (z)))
    have HG := Lib.hid (grown3 hg (Nat.le_refl w.heap.size) (.int .i64 (x)) (.int .i64 (y)) (.int .i64 (z)))
    clear hs hg
    go_wp2
    refine bodyPost_ret (v := .agg #[.int .i64 (x), .int .i64 (y), .int .i64 (z)]) (by simp [results, Tryd.results39, go_sem, *]) rfl ⟨_, _, _, rfl, HS.out.mono (by omega), HG.out⟩
  · go_wp2_with fail
    refine (l11Spoil_any b a len cap zs _ w1.heap.size 0 _ hs2 (by omega) hb1 (fun k hk => ?_)).mono ?_
    · obtain ⟨q0, q1, q2⟩ := X2.out.cells
      obtain ⟨f0, f1, f2⟩ := X2.out.fz
      rcases k with _ | _ | _ | k
      · exact ⟨_, q0, f0⟩
      · exact ⟨_, q1, f1⟩
      · exact ⟨_, q2, f2⟩
      · omega
    rintro e3 w3 ⟨W, k, t, hk, rfl, hsW, hgW, rfl⟩
    have X3 := Lib.hid (X2.out.grown hgW hb1)
    have R3 := Lib.hid (R2.out.grown hgW hbne)
    have G3 := grown_trans G2 hgW
    have hs := hsW.setCell (p := ⟨w1.heap.size, 0 + k, none⟩) hb1 hrow1 (.int .i64 t)
    have R := Lib.hid (R3.out.far (p := ⟨w1.heap.size, 0 + k, none⟩) (by simp; omega) (.int .i64 t))
    have hg := grown_new G3 (p := ⟨w1.heap.size, 0 + k, none⟩) (by simp; omega) (.int .i64 t)
    obtain ⟨x', y', z', X⟩ : ∃ x' y' z' : Int, Hid (B3 (W.setCell ⟨w1.heap.size, 0 + k, none⟩ (.int .i64 t)) w1.heap.size 25 (.int .i64 x') (.int .i64 y') (.int .i64 z')) := by
      rcases k with _ | _ | _ | k
      · exact ⟨t, y, z, Lib.hid (X3.out.s0 (.int .i64 t))⟩
      · exact ⟨x, t, z, Lib.hid (X3.out.s1 (.int .i64 t))⟩
      · exact ⟨x, y, t, Lib.hid (X3.out.s2 (.int .i64 t))⟩
      · omega
    clear hs2 hsW hgW X2 R2 G2 X3 R3 G3
    generalize W.setCell ⟨w1.heap.size, 0 + k, none⟩ (.int .i64 t) = W3 at *
    -- X (wall's block), R (result's) at the world; hs, hg
    obtain ⟨q0, q1, q2⟩ := X.out.cells
    obtain ⟨k0, k1, k2⟩ := R.out.cells
    obtain ⟨f0, f1, f2⟩ := R.out.fz
    have HS := Lib.hid (src3 hs hbne hrow.out (.int .i64 (x')) (.int .i64 (y')) (.int .i64 (z')))
    have HG := Lib.hid (grown3 hg (Nat.le_refl w.heap.size) (.int .i64 (x')) (.int .i64 (y')) (.int .i64 (z')))
    clear hs hg
    go_wp2
    refine bodyPost_ret (v := .agg #[.int .i64 (x'), .int .i64 (y'), .int .i64 (z')]) (by simp [results, Tryd.results39, go_sem, *]) rfl ⟨_, _, _, rfl, HS.out.mono (by omega), HG.out⟩
/-! ### Slices of walls of the call's own -/
def AllI (xs : List Value) : Prop := ∀ x ∈ xs, ∃ z : Int, x = .int .i64 z
theorem AllI.snoc {xs : List Value} (h : AllI xs) (x y z : Int) : AllI (xs ++ [.int .i64 x, .int .i64 y, .int .i64 z]) := by
  intro u hu
  rcases List.mem_append.1 hu with h1 | h1
  · exact h u h1
  · simp at h1
    rcases h1 with rfl | rfl | rfl <;> exact ⟨_, rfl⟩
theorem AllI.set {xs : List Value} (h : AllI xs) (j : Nat) (t : Int) : AllI (xs.set j (.int .i64 t)) := by
  intro u hu
  rcases List.mem_or_eq_of_mem_set hu with h1 | rfl
  · exact h u h1
  · exact ⟨t, rfl⟩
theorem isPieces_own {w : World} {base n c : Nat} {a : Option Addr} {xs : List Value} (h : w.ownsRow base 25 3 (.slice a n c) n xs) (hx : AllI xs) : ∃ ps, IsPieces w a n c ps := by
  have h0 := h
  obtain ⟨hl, h⟩ := h
  rcases h with ⟨hv, hn⟩ | ⟨g, cap, cur, hv, hb, hh, hnc, hm, hs', ht⟩
  · injection hv with h1 h2 h3
    subst h1 h2 h3
    exact ⟨[], rfl, Nat.le_refl _, Nat.zero_le _, fun h => absurd h (by omega)⟩
  · injection hv with h1 h2 h3
    subst h1 h3
    have hq : ∀ i, i < n → ∃ p : Int × Int × Int, w.cell? ⟨g, 0 + i * 3, none⟩ = some (.int .i64 p.1) ∧ w.cell? ⟨g, 0 + i * 3 + 1, none⟩ = some (.int .i64 p.2.1) ∧ w.cell? ⟨g, 0 + i * 3 + 2, none⟩ = some (.int .i64 p.2.2) := by
      intro i hi
      have hg : ∀ j, j < n * 3 → ∃ z : Int, w.cell? ⟨g, j, none⟩ = some (.int .i64 z) := fun j hj => by
        rw [h0.cellAt j hj]
        have hj' : j < xs.length := by rw [hl]; exact hj
        obtain ⟨z, hz⟩ := hx xs[j] (List.getElem_mem hj')
        exact ⟨z, by rw [List.getElem?_eq_getElem hj', hz]⟩
      obtain ⟨x, e1⟩ := hg (0 + i * 3) (by omega)
      obtain ⟨y, e2⟩ := hg (0 + i * 3 + 1) (by omega)
      obtain ⟨z, e3⟩ := hg (0 + i * 3 + 2) (by omega)
      exact ⟨(x, y, z), e1, e2, e3⟩
    obtain ⟨ps, hpl, hps⟩ := list_of _ n hq
    exact ⟨ps, hpl, hnc, hm, fun _ => ⟨g, 0, rfl, blk_lt hh, hps⟩⟩
/-- What drawn walls leave. -/
def DrewW (w : World) (b : Nat) (a : Option Addr) (len cap : Nat) (zs : List Int) (M : Int) (e : Ending) (w' : World) : Prop :=
  ∃ v n xs, e = .returned v ∧ w'.ownsRow w.heap.size 25 3 v n xs ∧ AllI xs ∧ Src w' b a len cap zs M ∧ w.grownBy w' (some b)
theorem info_p : (Tryd.prog.info? 25).map (fun i => (i.zero, i.size, i.bytes)) = some (some (.agg #[.int .i64 0, .int .i64 0, .int .i64 0]), 3, 24) := by kernel_rfl
end Go.Proofs.YtgnalhnbdpigdaaDoor
