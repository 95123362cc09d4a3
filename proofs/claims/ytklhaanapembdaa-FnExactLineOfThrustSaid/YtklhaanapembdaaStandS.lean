/- Contract of the reference's stands, a method on its record of what it found; no old memory turns; conditions: the record can be read, its indexes lie in the list. -/
import Derived.Test.YtklhaanapembdaaStandP
import Derived.Test.YtklhaanapembdaaLess
namespace Go.Proofs.Ytklhaanapembdaa
open Go.RowKit

theorem keep9 {W wx : World} {a0 a1 a2 a3 a4 a5 a6 a7 a8 : Addr} {v0 v1 v2 v3 v4 v5 v6 v7 v8 : Value} (hb : Below W.heap.size W wx) (h : W.cell? a0 = some v0 ∧ W.cell? a1 = some v1 ∧ W.cell? a2 = some v2 ∧ W.cell? a3 = some v3 ∧ W.cell? a4 = some v4 ∧ W.cell? a5 = some v5 ∧ W.cell? a6 = some v6 ∧ W.cell? a7 = some v7 ∧ W.cell? a8 = some v8) : wx.cell? a0 = some v0 ∧ wx.cell? a1 = some v1 ∧ wx.cell? a2 = some v2 ∧ wx.cell? a3 = some v3 ∧ wx.cell? a4 = some v4 ∧ wx.cell? a5 = some v5 ∧ wx.cell? a6 = some v6 ∧ wx.cell? a7 = some v7 ∧ wx.cell? a8 = some v8 :=
  ⟨keep1 hb h.1, keep1 hb h.2.1, keep1 hb h.2.2.1, keep1 hb h.2.2.2.1, keep1 hb h.2.2.2.2.1, keep1 hb h.2.2.2.2.2.1, keep1 hb h.2.2.2.2.2.2.1, keep1 hb h.2.2.2.2.2.2.2.1, keep1 hb h.2.2.2.2.2.2.2.2⟩
set_option maxRecDepth 100000 in
set_option maxHeartbeats 4000000 in
theorem standsS_any (base b : Nat) (v : Value) (l : List Cnd) (gs : List Nat) (F : Fnd) (w : World) (h : FindAt base w b v l gs F) (hG : ∀ i : Int, 0 ≤ i → i < l.length → goodC (at0 l i)) (h0 : 0 ≤ F.high) (h1 : F.high < l.length) (h2 : F.low < l.length) :
    Calls Try.prog 100 #[.pointer (some ⟨b, 0, none⟩)] w fun e w' => e = .returned (.bool (standF l F)) ∧ Below w.heap.size w w' := by
  have HV : Hid (standF l F = (!decide (0 ≤ F.never) && !decide (0 ≤ (at0 l F.high).a) && (decide (F.low < 0) || !lessC (at0 l F.high).a (at0 l F.high).b (at0 l F.low).a (at0 l F.low).b))) := Lib.hid rfl
  rw [HV.out]
  clear HV
  obtain ⟨gv, cap, rfl, hv1, hv2⟩ := h.2.1.shape (by omega)
  obtain ⟨s0, s1, s2, s3⟩ := h.cells
  obtain ⟨nv, lw, hg⟩ := F
  simp only at s1 s2 s3 h0 h1 h2 ⊢
  obtain ⟨m, rfl⟩ : ∃ m : Nat, hg = (m : Int) := ⟨hg.toNat, by omega⟩
  have hmi : m < l.length := by omega
  obtain ⟨d0, d1, d2⟩ := h.2.1.get hmi
  obtain ⟨q1, q2, q3, q4⟩ := hG (m : Int) (by omega) (by omega)
  have hblt := blk_lt h.1
  by_cases hn : 0 ≤ nv
  · have y1 : decide (0 ≤ nv) = true := decide_eq_true hn
    clear hG h q1 q2 q3 q4
    go_enter Try.func100, Try.ntmps100
    go_wp2_with fail
    go_quiet (fail)
    go_wp2
    go_ret
    exact ⟨ret_bool (by rw [y1]; rfl), (by repeat (first | exact Below.refl _ _ | assumption | refine Below.drew ?_ | refine below_drewN ?_ _ | refine Below.alloc ?_ (by first | omega | (simp; done) | (simp; omega)) _ | refine Below.setCell ?_ (by first | omega | (simp; done) | (simp; omega)) _))⟩
  · have y1 : decide (0 ≤ nv) = false := decide_eq_false hn
    obtain ⟨d, hd⟩ : ∃ d, at0 l (m : Int) = d := ⟨_, rfl⟩
    rw [hd] at d0 d1 q1 q2 q3 q4 ⊢
    clear hd
    by_cases ha : 0 ≤ d.a
    · have y2 : decide (0 ≤ d.a) = true := decide_eq_true ha
      clear hG h q1 q2 q3 q4
      go_enter Try.func100, Try.ntmps100
      go_wp2_with fail
      go_quiet (fail)
      go_wp2
      go_ret
      exact ⟨ret_bool (by rw [y1, y2]; rfl), (by repeat (first | exact Below.refl _ _ | assumption | refine Below.drew ?_ | refine below_drewN ?_ _ | refine Below.alloc ?_ (by first | omega | (simp; done) | (simp; omega)) _ | refine Below.setCell ?_ (by first | omega | (simp; done) | (simp; omega)) _))⟩
    · have y2 : decide (0 ≤ d.a) = false := decide_eq_false ha
      by_cases hl : lw < 0
      · have y3 : decide (lw < 0) = true := decide_eq_true hl
        clear hG h q1 q2 q3 q4
        go_enter Try.func100, Try.ntmps100
        go_wp2_with fail
        go_quiet (fail)
        go_wp2_with fail
        go_quiet (fail)
        go_wp2
        go_ret
        exact ⟨ret_bool (by rw [y1, y2, y3]; rfl), (by repeat (first | exact Below.refl _ _ | assumption | refine Below.drew ?_ | refine below_drewN ?_ _ | refine Below.alloc ?_ (by first | omega | (simp; done) | (simp; omega)) _ | refine Below.setCell ?_ (by first | omega | (simp; done) | (simp; omega)) _))⟩
      · have y3 : decide (lw < 0) = false := decide_eq_false hl
        obtain ⟨k, rfl⟩ : ∃ k : Nat, lw = (k : Int) := ⟨lw.toNat, by omega⟩
        have hki : k < l.length := by omega
        obtain ⟨c0, c1, c2⟩ := h.2.1.get hki
        obtain ⟨p1, p2, p3, p4⟩ := hG (k : Int) (by omega) (by omega)
        obtain ⟨c, hc⟩ : ∃ c, at0 l (k : Int) = c := ⟨_, rfl⟩
        rw [hc] at c0 c1 p1 p2 p3 p4 ⊢
        have HLS := Lib.hid (fun W o1 o2 => l13Less_any d.a d.b c.a c.b o1 o2 W q1 q2 q3 q4 p1 p2 p3 p4)
        obtain ⟨L, hL⟩ : ∃ L, lessC d.a d.b c.a c.b = L := ⟨_, rfl⟩
        rw [hL] at HLS ⊢
        clear p1 p2 p3 p4 q1 q2 q3 q4 hc hL hG h
        obtain ⟨gk, hgk⟩ : ∃ gk, gs.getD k 0 = gk := ⟨_, rfl⟩
        obtain ⟨gm, hgm⟩ : ∃ gm, gs.getD m 0 = gm := ⟨_, rfl⟩
        rw [hgk] at c2
        rw [hgm] at d2
        clear hgk hgm
        have z1 : (m : Int) < (l.length : Int) := by omega
        have z2 : (k : Int) < (l.length : Int) := by omega
        have z3 : (0 : Int) ≤ (m : Int) := by omega
        have z4 : (0 : Int) ≤ (k : Int) := by omega
        clear hv1 hv2 h0 h1 h2
        go_enter Try.func100, Try.ntmps100
        go_wp2_with fail
        go_quiet (fail)
        go_wp2_with fail
        generalize hW : w.drewN _ = W
        have hB : Below w.heap.size w W := by rw [← hW]; exact (by repeat (first | exact Below.refl _ _ | assumption | refine Below.drew ?_ | refine below_drewN ?_ _ | refine Below.alloc ?_ (by first | omega | (simp; done) | (simp; omega)) _ | refine Below.setCell ?_ (by first | omega | (simp; done) | (simp; omega)) _))
        have hZ : W.heap.size = w.heap.size := by rw [← hW]; rfl
        clear hW
        have hS0 : W.cell? ⟨b, 0, none⟩ = some (Value.slice (some ⟨gv, 0, none⟩) l.length cap) ∧ W.cell? ⟨b, 2, none⟩ = some (Value.int .i64 (k : Int)) ∧ W.cell? ⟨b, 3, none⟩ = some (Value.int .i64 (m : Int)) ∧ W.cell? ⟨gv, m * 3, none⟩ = some (Value.int .i64 d.a) ∧ W.cell? ⟨gv, m * 3 + 1, none⟩ = some (Value.int .i64 d.b) ∧ W.cell? ⟨gv, m * 3 + 2, none⟩ = some (Value.slice (some ⟨gm, 0, none⟩) 4 4) ∧ W.cell? ⟨gv, k * 3, none⟩ = some (Value.int .i64 c.a) ∧ W.cell? ⟨gv, k * 3 + 1, none⟩ = some (Value.int .i64 c.b) ∧ W.cell? ⟨gv, k * 3 + 2, none⟩ = some (Value.slice (some ⟨gk, 0, none⟩) 4 4) := ⟨keep1 hB s0, keep1 hB s2, keep1 hB s3, keep1 hB d0, keep1 hB d1, keep1 hB d2, keep1 hB c0, keep1 hB c1, keep1 hB c2⟩
        have hS1 : W.drew.cell? ⟨b, 0, none⟩ = some (Value.slice (some ⟨gv, 0, none⟩) l.length cap) ∧ W.drew.cell? ⟨b, 2, none⟩ = some (Value.int .i64 (k : Int)) ∧ W.drew.cell? ⟨b, 3, none⟩ = some (Value.int .i64 (m : Int)) ∧ W.drew.cell? ⟨gv, m * 3, none⟩ = some (Value.int .i64 d.a) ∧ W.drew.cell? ⟨gv, m * 3 + 1, none⟩ = some (Value.int .i64 d.b) ∧ W.drew.cell? ⟨gv, m * 3 + 2, none⟩ = some (Value.slice (some ⟨gm, 0, none⟩) 4 4) ∧ W.drew.cell? ⟨gv, k * 3, none⟩ = some (Value.int .i64 c.a) ∧ W.drew.cell? ⟨gv, k * 3 + 1, none⟩ = some (Value.int .i64 c.b) ∧ W.drew.cell? ⟨gv, k * 3 + 2, none⟩ = some (Value.slice (some ⟨gk, 0, none⟩) 4 4) := hS0
        go_region_held3 (fun w' => w'.cell? ⟨b, 0, none⟩ = some (Value.slice (some ⟨gv, 0, none⟩) l.length cap) ∧ w'.cell? ⟨b, 2, none⟩ = some (Value.int .i64 (k : Int)) ∧ w'.cell? ⟨b, 3, none⟩ = some (Value.int .i64 (m : Int)) ∧ w'.cell? ⟨gv, m * 3, none⟩ = some (Value.int .i64 d.a) ∧ w'.cell? ⟨gv, m * 3 + 1, none⟩ = some (Value.int .i64 d.b) ∧ w'.cell? ⟨gv, m * 3 + 2, none⟩ = some (Value.slice (some ⟨gm, 0, none⟩) 4 4) ∧ w'.cell? ⟨gv, k * 3, none⟩ = some (Value.int .i64 c.a) ∧ w'.cell? ⟨gv, k * 3 + 1, none⟩ = some (Value.int .i64 c.b) ∧ w'.cell? ⟨gv, k * 3 + 2, none⟩ = some (Value.slice (some ⟨gk, 0, none⟩) 4 4)) ((first | (with_reducible assumption) | exact hS1 | exact hS0)) ((go_at_call 96; (with_reducible refine (HLS.out _ _ _).mono ?_); rintro e wx ⟨rfl, hbx⟩; have hax : Below w.heap.size w wx := below_callB (by repeat (first | exact Below.refl _ _ | assumption | refine Below.drew ?_ | refine below_drewN ?_ _ | refine Below.alloc ?_ (by first | omega | (simp; done) | (simp; omega)) _ | refine Below.setCell ?_ (by first | omega | (simp; done) | (simp; omega)) _)) (by first | omega | (simp; done) | (simp; omega)) hbx; have hS := keep9 hbx (by first | (with_reducible assumption) | exact hS1)))
        all_goals
          go_wp2
          go_ret
          exact ⟨ret_bool (by rw [y1, y2, y3]; rfl), (by repeat (first | exact Below.refl _ _ | assumption | refine Below.drew ?_ | refine below_drewN ?_ _ | refine Below.alloc ?_ (by first | omega | (simp; done) | (simp; omega)) _ | refine Below.setCell ?_ (by first | omega | (simp; done) | (simp; omega)) _))⟩
end Go.Proofs.Ytklhaanapembdaa
