/- Contracts of the functions on conditions of four joints, program and reference: their numbers, and which bound is less; no old memory turns; conditions: valid blocks that can be read, joints in their ranges. -/
import Derived.Deep.DrawnRows
import Derived.Test.YtklhaanapembdaaM04

namespace Go.Proofs.Ytklhaanapembdaa
open Go.RowKit

theorem IsRow.same {w : World} {b o len cap : Nat} {zs : List Int} (h : IsRow .i64 w (some ⟨b, o, none⟩) len cap zs) {i : Nat} (hi : i < len) : w.cell? ⟨b, o + i, none⟩ = some (.int .i64 (zs.getD i 0)) := by
  obtain ⟨b', o', e, _, hc⟩ := h.cell hi
  injection e with e
  injection e with e1 e2
  subst e1 e2
  exact hc
theorem IsRow.addr {w : World} {a : Option Addr} {len cap : Nat} {zs : List Int} (h : IsRow .i64 w a len cap zs) (hi : 0 < len) : ∃ b o, a = some ⟨b, o, none⟩ ∧ b < w.heap.size := by
  obtain ⟨b', o', e, hb, _⟩ := h.cell hi
  exact ⟨b', o', e, hb⟩
/-- A numerator with the denominator's sign. -/
def sgn (n d : Int) : Int := if d < 0 then -n else n
set_option maxHeartbeats 1000000 in
theorem lowest2_any (n d : Int) (w : World) (hn : -1000000000000 ≤ n) (hn' : n ≤ 1000000000000) (hd : -1000000000000 ≤ d) (hd' : d ≤ 1000000000000) (h0 : d ≠ 0) :
    Calls Try.prog 66 #[.int .i64 n, .int .i64 d] w fun e w' => e = .returned (.agg #[.int .i64 (lwN (sgn n d) d.natAbs), .int .i64 (lwD (sgn n d) d.natAbs)]) ∧ Below w.heap.size w w' := by
  by_cases h : 0 < d
  · have e1 : sgn n d = n := if_neg (by omega)
    have e2 : (d.natAbs : Int) = d := by omega
    rw [e1, e2]
    exact lowest_any n d w (by omega) (by omega) h (by omega)
  · have e1 : sgn n d = -n := if_pos (by omega)
    have e2 : (d.natAbs : Int) = -d := by omega
    rw [e1, e2]
    obtain ⟨n', rfl⟩ : ∃ n', n = -n' := ⟨-n, by omega⟩
    obtain ⟨d', rfl⟩ : ∃ d', d = -d' := ⟨-d, by omega⟩
    rw [Int.neg_neg, Int.neg_neg]
    have hg0 := gcd_ge n' d' (by omega)
    have HD := Lib.hid (lwD_eq n' d' (by omega))
    have hneg : -d' < 0 := by omega
    have hpos : 0 < d' := by omega
    have k1 : IntKind.i64.wrap (- -n') = n' := by rw [Int.neg_neg]; exact IntWalk.i64_in _ (by omega)
    have k2 : IntKind.i64.wrap (- -d') = d' := by rw [Int.neg_neg]; exact IntWalk.i64_in _ (by omega)
    clear e1 e2
    go_enter Try.func66, Try.ntmps66
    go_wp2_with fail
    refine (gcd_any n' d' _ (by omega) (by omega) (by omega) (by omega)).mono ?_
    rintro e w1 ⟨rfl, hb⟩
    obtain ⟨hc, hf⟩ := bcell hb
    have hz : w.heap.size < w1.heap.size := by have := hb.size; simp at this; omega
    go_wp2
    go_region
    all_goals
      go_wp2
      refine bodyPost_ret (v := .agg #[.int .i64 (lwN n' d'), .int .i64 (lwD n' d')]) (by rw [HD.out]; simp [results, Try.results66, go_sem, hc, lwN]) rfl ⟨rfl, ?_⟩
      exact (((below_call ((Below.refl _ _).alloc (Nat.le_refl _) _) hb).drew).setCell (by simp) _).setCell (by simp) _
/-- Fractions in lowest terms compare as the fractions. -/
theorem lw_less {n d n' d' : Int} (hd : 0 < d) (hd' : 0 < d') : (lwN n d * lwD n' d' < lwN n' d' * lwD n d) ↔ (n * d' < n' * d) := by
  have g1 := gcd_ge n d hd
  have g2 := gcd_ge n' d' hd'
  have hg : 0 < (Int.gcd n d : Int) * (Int.gcd n' d' : Int) := Int.mul_pos (by omega) (by omega)
  have e1 : n * d' = (lwN n d * lwD n' d') * ((Int.gcd n d : Int) * (Int.gcd n' d' : Int)) := by
    have a := lwN_mul n d
    have b := lwD_mul n' d'
    calc n * d' = (lwN n d * (Int.gcd n d : Int)) * (lwD n' d' * (Int.gcd n' d' : Int)) := by rw [a, b]
      _ = _ := by simp only [Int.mul_assoc, Int.mul_comm, Int.mul_left_comm]
  have e2 : n' * d = (lwN n' d' * lwD n d) * ((Int.gcd n d : Int) * (Int.gcd n' d' : Int)) := by
    have a := lwN_mul n' d'
    have b := lwD_mul n d
    calc n' * d = (lwN n' d' * (Int.gcd n' d' : Int)) * (lwD n d * (Int.gcd n d : Int)) := by rw [a, b]
      _ = _ := by simp only [Int.mul_assoc, Int.mul_comm, Int.mul_left_comm]
  rw [e1, e2]
  constructor
  · intro h; exact Int.mul_lt_mul_of_pos_right h hg
  · intro h; exact Int.lt_of_mul_lt_mul_right h (by omega)
theorem lessC_low {xa xb ya yb : Int} (hx : xb ≠ 0) (hy : yb ≠ 0) :
    lessC xa xb ya yb = decide (lwN (sgn xa xb) xb.natAbs * lwD (sgn ya yb) yb.natAbs < lwN (sgn ya yb) yb.natAbs * lwD (sgn xa xb) xb.natAbs) := by
  unfold lessC
  exact decide_eq_decide.2 (lw_less (by omega) (by omega)).symm
theorem sgn_bd {n d B : Int} (h1 : -B ≤ n) (h2 : n ≤ B) : -B ≤ sgn n d ∧ sgn n d ≤ B := by unfold sgn; split <;> omega
theorem keep4A {W : World} {o : Obj} {a0 a1 a2 a3 : Addr} {v0 v1 v2 v3 : Value} (h : W.cell? a0 = some v0 ∧ W.cell? a1 = some v1 ∧ W.cell? a2 = some v2 ∧ W.cell? a3 = some v3) :
    (W.alloc o).cell? a0 = some v0 ∧ (W.alloc o).cell? a1 = some v1 ∧ (W.alloc o).cell? a2 = some v2 ∧ (W.alloc o).cell? a3 = some v3 := ⟨keepA h.1, keepA h.2.1, keepA h.2.2.1, keepA h.2.2.2⟩
theorem below_callB {B : Nat} {a W w1 : World} (h : Below B a W) (hW : B ≤ W.heap.size) (hb : Below W.heap.size W w1) : Below B a w1 := h.trans (hb.mono hW)
theorem keepD {W : World} {a : Addr} {v : Value} (h : W.cell? a = some v) : W.drew.cell? a = some v := h
theorem keep1S {W : World} {p a : Addr} {u v : Value} (h : W.cell? a = some v) (hp : p.block ≠ a.block) : (W.setCell p u).cell? a = some v := by
  rw [World.cell?_setCell_other _ _ _ _ (fun e => by subst e; exact hp rfl)]; exact h
theorem keep4S {W : World} {p a0 a1 a2 a3 : Addr} {u v0 v1 v2 v3 : Value} (h : W.cell? a0 = some v0 ∧ W.cell? a1 = some v1 ∧ W.cell? a2 = some v2 ∧ W.cell? a3 = some v3) (h0 : p.block ≠ a0.block) (h1 : p.block ≠ a1.block) (h2 : p.block ≠ a2.block) (h3 : p.block ≠ a3.block) :
    (W.setCell p u).cell? a0 = some v0 ∧ (W.setCell p u).cell? a1 = some v1 ∧ (W.setCell p u).cell? a2 = some v2 ∧ (W.setCell p u).cell? a3 = some v3 := ⟨keep1S h.1 h0, keep1S h.2.1 h1, keep1S h.2.2.1 h2, keep1S h.2.2.2 h3⟩
theorem new0 (w : World) (a b : Value) (t : TypeId) : (w.alloc (.cells #[a, b] t)).cell? ⟨w.heap.size, 0, none⟩ = some a ∧ (w.alloc (.cells #[a, b] t)).frozen? ⟨w.heap.size, 0, none⟩ = false := by
  rw [cellOf (blk_new w _), frozenOf (blk_new w _)]; exact ⟨rfl, rfl⟩
theorem new1 (w : World) (a b : Value) (t : TypeId) : (w.alloc (.cells #[a, b] t)).cell? ⟨w.heap.size, 1, none⟩ = some b ∧ (w.alloc (.cells #[a, b] t)).frozen? ⟨w.heap.size, 1, none⟩ = false := by
  rw [cellOf (blk_new w _), frozenOf (blk_new w _)]; exact ⟨rfl, rfl⟩
theorem keepCF {W wx : World} {a : Addr} {v : Value} (hb : Below W.heap.size W wx) (h : W.cell? a = some v ∧ W.frozen? a = false) : wx.cell? a = some v ∧ wx.frozen? a = false := ⟨keep1 hb h.1, keepf hb h.1 h.2⟩
theorem dropD {W : World} {a : Addr} {v : Value} (h : W.cell? a = some v ∧ W.frozen? a = false) : W.drew.cell? a = some v ∧ W.drew.frozen? a = false := h
theorem keepACF {W : World} {a : Addr} {v : Value} {o : Obj} (h : W.cell? a = some v ∧ W.frozen? a = false) : (W.alloc o).cell? a = some v ∧ (W.alloc o).frozen? a = false := by
  refine ⟨keepA h.1, ?_⟩
  have := World.block_lt_of_cell? _ _ h.1
  rw [show (W.alloc o).frozen? a = W.frozen? a from World.frozen?_of_block (Below.heap_alloc W o _ this)]
  exact h.2
attribute [local go_sem ↓] Go.wp_at_zero Go.wp_at_succ
set_option maxHeartbeats 4000000 in
theorem lessBound_any (xj xk xp xq xa xb yj yk yp yq ya yb : Int) (w : World) (h1 : -1000000 ≤ xa) (h2 : xa ≤ 1000000) (h3 : -1000000000 ≤ xb) (h4 : xb ≤ 1000000000) (h5 : -1000000 ≤ ya) (h6 : ya ≤ 1000000) (h7 : -1000000000 ≤ yb) (h8 : yb ≤ 1000000000) (hx : xb ≠ 0) (hy : yb ≠ 0) :
    Calls Try.prog 73 #[.agg #[.int .i64 xj, .int .i64 xk, .int .i64 xp, .int .i64 xq, .int .i64 xa, .int .i64 xb], .agg #[.int .i64 yj, .int .i64 yk, .int .i64 yp, .int .i64 yq, .int .i64 ya, .int .i64 yb]] w fun e w' => e = .returned (.bool (lessC xa xb ya yb)) ∧ Below w.heap.size w w' := by
  have HV := Lib.hid (lessC_low (xa := xa) (ya := ya) hx hy)
  go_enter Try.func73, Try.ntmps73
  go_wp2
  have g1 := sgn_bd (d := xb) h1 h2
  have g2 := sgn_bd (d := yb) h5 h6
  have g3 := lwN_bd (sgn xa xb) xb.natAbs _ g1.1 g1.2
  have g4 := lwN_bd (sgn ya yb) yb.natAbs _ g2.1 g2.2
  have g5 := lwD_pos (sgn xa xb) xb.natAbs (by omega)
  have g6 := lwD_pos (sgn ya yb) yb.natAbs (by omega)
  have g7 := lwD_le (sgn xa xb) xb.natAbs (by omega)
  have g8 := lwD_le (sgn ya yb) yb.natAbs (by omega)
  have g9 := prod_bd (A := 1000000) (B := 1000000000) g3.1 g3.2 (show 0 ≤ lwD (sgn ya yb) yb.natAbs by omega) (by omega) (by omega)
  have g10 := prod_bd (A := 1000000) (B := 1000000000) g4.1 g4.2 (show 0 ≤ lwD (sgn xa xb) xb.natAbs by omega) (by omega) (by omega)
  have LX := Lib.hid (fun W => lowest2_any xa xb W (by omega) (by omega) (by omega) (by omega) hx)
  have LY := Lib.hid (fun W => lowest2_any ya yb W (by omega) (by omega) (by omega) (by omega) hy)
  generalize lwN (sgn xa xb) xb.natAbs = N1 at *
  generalize lwN (sgn ya yb) yb.natAbs = N2 at *
  generalize lwD (sgn xa xb) xb.natAbs = D1 at *
  generalize lwD (sgn ya yb) yb.natAbs = D2 at *
  have G9 := Lib.hid g9
  have G10 := Lib.hid g10
  clear g1 g2 g3 g4 g5 g6 g7 g8 g9 g10 h1 h2 h3 h4 h5 h6 h7 h8 hx hy
  obtain ⟨W0, hW0⟩ : ∃ W0, W0 = (w.alloc (.cells #[.int .i64 xj, .int .i64 xk, .int .i64 xp, .int .i64 xq, .int .i64 xa, .int .i64 xb] 85)).alloc (.cells #[.int .i64 yj, .int .i64 yk, .int .i64 yp, .int .i64 yq, .int .i64 ya, .int .i64 yb] 85) := ⟨_, rfl⟩
  have hS0 : W0.cell? ⟨w.heap.size, 4, none⟩ = some (.int .i64 xa) ∧ W0.cell? ⟨w.heap.size, 5, none⟩ = some (.int .i64 xb) ∧ W0.cell? ⟨w.heap.size + 1, 4, none⟩ = some (.int .i64 ya) ∧ W0.cell? ⟨w.heap.size + 1, 5, none⟩ = some (.int .i64 yb) := by
    subst hW0
    refine ⟨?_, ?_, ?_, ?_⟩ <;> simp [go_sem]
  have hB0 : Below w.heap.size w W0 := by subst hW0; exact (by repeat (first | exact Below.refl _ _ | assumption | refine Below.drew ?_ | refine below_drewN ?_ _ | refine Below.alloc ?_ (by first | omega | (simp; done) | (simp; omega)) _ | refine Below.setCell ?_ (by first | omega | (simp; done) | (simp; omega)) _))
  have hZ0 : w.heap.size + 1 < W0.heap.size := by subst hW0; simp
  have hZ1 : w.heap.size < W0.heap.size := by omega
  rw [← hW0]
  clear hW0
  generalize hBw : w.heap.size = B0 at hS0 hB0 hZ0 hZ1
  have HBw := Lib.hid hBw
  clear hBw
  have hS1 : W0.drew.cell? ⟨B0, 4, none⟩ = some (.int .i64 xa) ∧ W0.drew.cell? ⟨B0, 5, none⟩ = some (.int .i64 xb) ∧ W0.drew.cell? ⟨B0 + 1, 4, none⟩ = some (.int .i64 ya) ∧ W0.drew.cell? ⟨B0 + 1, 5, none⟩ = some (.int .i64 yb) := hS0
  go_region_held3 (fun w' => w'.cell? ⟨B0, 4, none⟩ = some (.int .i64 xa) ∧ w'.cell? ⟨B0, 5, none⟩ = some (.int .i64 xb) ∧ w'.cell? ⟨B0 + 1, 4, none⟩ = some (.int .i64 ya) ∧ w'.cell? ⟨B0 + 1, 5, none⟩ = some (.int .i64 yb)) ((refine ⟨?_, ?_, ?_, ?_⟩ <;> (repeat (first | (with_reducible refine keepD ?_) | (with_reducible refine keepA ?_) | (with_reducible refine keep1S ?_ (by first | omega | (simp; done) | (simp; omega))))) <;> first | (with_reducible exact hS.1) | (with_reducible exact hS.2.1) | (with_reducible exact hS.2.2.1) | (with_reducible exact hS.2.2.2) | (with_reducible exact hS1.1) | (with_reducible exact hS1.2.1) | (with_reducible exact hS1.2.2.1) | (with_reducible exact hS1.2.2.2) | (with_reducible exact hS0.1) | (with_reducible exact hS0.2.1) | (with_reducible exact hS0.2.2.1) | (with_reducible exact hS0.2.2.2)))
    (first | (go_at_call 66; (with_reducible refine (LX.out _).mono ?_); rintro e wx ⟨rfl, hbx⟩; have hzx := hbx.size; (try simp at hzx);  have hax : Below B0 w wx := below_callB (by repeat (first | exact Below.refl _ _ | assumption | refine Below.drew ?_ | refine below_drewN ?_ _ | refine Below.alloc ?_ (by first | omega | (simp; done) | (simp; omega)) _ | refine Below.setCell ?_ (by first | omega | (simp; done) | (simp; omega)) _)) (by first | omega | (simp; omega)) hbx; have hS := keep4 hbx (by with_reducible assumption); (try (have qq := keepCF hbx ⟨qa0, qf0⟩; obtain ⟨pa0, pa0f⟩ := qq)); (try (have qq := keepCF hbx (keepACF ⟨qa0, qf0⟩); obtain ⟨pa0, pa0f⟩ := qq)); (try (have qq := keepCF hbx ⟨qa1, qf1⟩; obtain ⟨pa1, pa1f⟩ := qq)); (try (have qq := keepCF hbx (keepACF ⟨qa1, qf1⟩); obtain ⟨pa1, pa1f⟩ := qq)); (try (have qq := keepCF hbx ⟨qb0, qg0⟩; obtain ⟨pb0, pb0f⟩ := qq)); (try (have qq := keepCF hbx (keepACF ⟨qb0, qg0⟩); obtain ⟨pb0, pb0f⟩ := qq)); (try (have qq := keepCF hbx ⟨qb1, qg1⟩; obtain ⟨pb1, pb1f⟩ := qq)); (try (have qq := keepCF hbx (keepACF ⟨qb1, qg1⟩); obtain ⟨pb1, pb1f⟩ := qq)); (try (have qq := keepCF hbx (new0 _ _ _ _); (try simp only [World.size_alloc] at qq); obtain ⟨qa0, qf0⟩ := qq)); (try (have qq := keepCF hbx (dropD (new0 _ _ _ _)); (try simp only [World.size_alloc] at qq); obtain ⟨qa0, qf0⟩ := qq)); (try (have qq := keepCF hbx (new1 _ _ _ _); (try simp only [World.size_alloc] at qq); obtain ⟨qa1, qf1⟩ := qq)); (try (have qq := keepCF hbx (dropD (new1 _ _ _ _)); (try simp only [World.size_alloc] at qq); obtain ⟨qa1, qf1⟩ := qq)); (try (have qq := keepCF hbx (keepACF (new0 _ _ _ _)); (try simp only [World.size_alloc] at qq); obtain ⟨qb0, qg0⟩ := qq)); (try (have qq := keepCF hbx (dropD (keepACF (new0 _ _ _ _))); (try simp only [World.size_alloc] at qq); obtain ⟨qb0, qg0⟩ := qq)); (try (have qq := keepCF hbx (keepACF (new1 _ _ _ _)); (try simp only [World.size_alloc] at qq); obtain ⟨qb1, qg1⟩ := qq)); (try (have qq := keepCF hbx (dropD (keepACF (new1 _ _ _ _))); (try simp only [World.size_alloc] at qq); obtain ⟨qb1, qg1⟩ := qq)); (try (have qq : _ < wx.heap.size := World.block_lt_of_cell? _ _ pa0; have lpa0 := qq; have npa0 := Nat.ne_of_lt qq)); (try (have qq : _ < wx.heap.size := World.block_lt_of_cell? _ _ pb0; have lpb0 := qq; have npb0 := Nat.ne_of_lt qq)); (try (have qq : _ < wx.heap.size := World.block_lt_of_cell? _ _ qa0; have lqa0 := qq; have nqa0 := Nat.ne_of_lt qq)); (try (have qq : _ < wx.heap.size := World.block_lt_of_cell? _ _ qb0; have lqb0 := qq; have nqb0 := Nat.ne_of_lt qq)); (try have hltx := Nat.lt_of_succ_le hzx); (try have hnex := Nat.ne_of_lt (Nat.lt_of_succ_le hzx)); (try have hlex := Nat.le_of_lt (Nat.lt_of_succ_le hzx))) | (go_at_call 66; (with_reducible refine (LY.out _).mono ?_); rintro e wx ⟨rfl, hbx⟩; have hzx := hbx.size; (try simp at hzx);  have hax : Below B0 w wx := below_callB (by repeat (first | exact Below.refl _ _ | assumption | refine Below.drew ?_ | refine below_drewN ?_ _ | refine Below.alloc ?_ (by first | omega | (simp; done) | (simp; omega)) _ | refine Below.setCell ?_ (by first | omega | (simp; done) | (simp; omega)) _)) (by first | omega | (simp; omega)) hbx; have hS := keep4 hbx (by with_reducible assumption); (try (have qq := keepCF hbx ⟨qa0, qf0⟩; obtain ⟨pa0, pa0f⟩ := qq)); (try (have qq := keepCF hbx (keepACF ⟨qa0, qf0⟩); obtain ⟨pa0, pa0f⟩ := qq)); (try (have qq := keepCF hbx ⟨qa1, qf1⟩; obtain ⟨pa1, pa1f⟩ := qq)); (try (have qq := keepCF hbx (keepACF ⟨qa1, qf1⟩); obtain ⟨pa1, pa1f⟩ := qq)); (try (have qq := keepCF hbx ⟨qb0, qg0⟩; obtain ⟨pb0, pb0f⟩ := qq)); (try (have qq := keepCF hbx (keepACF ⟨qb0, qg0⟩); obtain ⟨pb0, pb0f⟩ := qq)); (try (have qq := keepCF hbx ⟨qb1, qg1⟩; obtain ⟨pb1, pb1f⟩ := qq)); (try (have qq := keepCF hbx (keepACF ⟨qb1, qg1⟩); obtain ⟨pb1, pb1f⟩ := qq)); (try (have qq := keepCF hbx (new0 _ _ _ _); (try simp only [World.size_alloc] at qq); obtain ⟨qa0, qf0⟩ := qq)); (try (have qq := keepCF hbx (dropD (new0 _ _ _ _)); (try simp only [World.size_alloc] at qq); obtain ⟨qa0, qf0⟩ := qq)); (try (have qq := keepCF hbx (new1 _ _ _ _); (try simp only [World.size_alloc] at qq); obtain ⟨qa1, qf1⟩ := qq)); (try (have qq := keepCF hbx (dropD (new1 _ _ _ _)); (try simp only [World.size_alloc] at qq); obtain ⟨qa1, qf1⟩ := qq)); (try (have qq := keepCF hbx (keepACF (new0 _ _ _ _)); (try simp only [World.size_alloc] at qq); obtain ⟨qb0, qg0⟩ := qq)); (try (have qq := keepCF hbx (dropD (keepACF (new0 _ _ _ _))); (try simp only [World.size_alloc] at qq); obtain ⟨qb0, qg0⟩ := qq)); (try (have qq := keepCF hbx (keepACF (new1 _ _ _ _)); (try simp only [World.size_alloc] at qq); obtain ⟨qb1, qg1⟩ := qq)); (try (have qq := keepCF hbx (dropD (keepACF (new1 _ _ _ _))); (try simp only [World.size_alloc] at qq); obtain ⟨qb1, qg1⟩ := qq)); (try (have qq : _ < wx.heap.size := World.block_lt_of_cell? _ _ pa0; have lpa0 := qq; have npa0 := Nat.ne_of_lt qq)); (try (have qq : _ < wx.heap.size := World.block_lt_of_cell? _ _ pb0; have lpb0 := qq; have npb0 := Nat.ne_of_lt qq)); (try (have qq : _ < wx.heap.size := World.block_lt_of_cell? _ _ qa0; have lqa0 := qq; have nqa0 := Nat.ne_of_lt qq)); (try (have qq : _ < wx.heap.size := World.block_lt_of_cell? _ _ qb0; have lqb0 := qq; have nqb0 := Nat.ne_of_lt qq)); (try have hltx := Nat.lt_of_succ_le hzx); (try have hnex := Nat.ne_of_lt (Nat.lt_of_succ_le hzx)); (try have hlex := Nat.le_of_lt (Nat.lt_of_succ_le hzx))))
  all_goals
    clear hS hS0 hS1
    obtain ⟨g9, g9'⟩ := G9.out
    obtain ⟨g10, g10'⟩ := G10.out
    go_wp2
    go_ret
    exact ⟨ret_bool (by rw [HV.out]), by rw [HBw.out]; exact (by repeat (first | exact Below.refl _ _ | assumption | refine Below.drew ?_ | refine below_drewN ?_ _ | refine Below.alloc ?_ (by first | omega | (simp; done) | (simp; omega)) _ | refine Below.setCell ?_ (by first | omega | (simp; done) | (simp; omega)) _))⟩
end Go.Proofs.Ytklhaanapembdaa
