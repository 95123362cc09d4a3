/- For all bytes, the law FnArcs holds: points of an arc are on its circle, and the circle with a span and a rise goes through both ends and the top; no condition. -/
import Derived.Test.YtjafjkndigchcaaArchF
import Derived.Test.YtjafjkndigchcaaDrawA
namespace Go.Proofs.Ytjafjkndigchcaa
open Go.ChangeShapes Go.WideShapes Go.ChangeAt Go.RowKit

/-- The point is on the circle. -/
theorem arc_circle (xn xd yn yd r p q A : Int) (hA : A = q * q + p * p) (h1 : xn * A = r * (q * q - p * p) * xd) (h2 : yn * A = r * 2 * p * q * yd) (h0 : A ≠ 0) :
    xn * xn * yd * yd + yn * yn * xd * xd = r * r * xd * xd * yd * yd := by
  have h2' : yn * A = r * p * q * yd + r * p * q * yd := by
    have e : r * 2 * p * q * yd = 2 * (r * p * q * yd) := by simp only [Int.mul_assoc, Int.mul_left_comm]
    rw [h2, e]; omega
  have h : A * A * (xn * xn * yd * yd + yn * yn * xd * xd) = A * A * (r * r * xd * xd * yd * yd) := by
    have e1 : A * A * (xn * xn * yd * yd + yn * yn * xd * xd) = (xn * A) * (xn * A) * (yd * yd) + (yn * A) * (yn * A) * (xd * xd) := by
      simp only [Int.mul_add, Int.mul_comm, Int.mul_left_comm]
    rw [e1, h1, h2', hA]
    simp only [Int.mul_add, Int.mul_sub, Int.mul_comm, Int.mul_left_comm]
    omega
  exact Int.eq_of_mul_eq_mul_left (by simp [h0]) h

/-- What is wanted of an arc's point. -/
theorem arc_facts {r p q : Int} (h1 : 1 ≤ r) (h2 : r ≤ 20) (h3 : 0 ≤ p) (h4 : p ≤ 19) (h5 : 1 ≤ q) (h6 : q ≤ 20) : ∃ xn xd yn yd : Int, arcI r p q = (xn, xd, yn, yd, 0) ∧ 1 ≤ xd ∧ xd ≤ 1000 ∧ 1 ≤ yd ∧ yd ≤ 1000 ∧ -100000 ≤ xn ∧ xn ≤ 100000 ∧ 0 ≤ yn ∧ yn ≤ 100000 ∧
    xn * xn * yd * yd + yn * yn * xd * xd = r * r * xd * xd * yd * yd := by
  have hv : arcB r p q = true := by simp only [arcB, Bool.and_eq_true]; exact ⟨⟨inB_mk (by omega), inB_mk (by omega)⟩, inB_mk (by omega)⟩
  have a := mul_bd h3 h4 h3 h4
  have b := mul_bd (by omega) h6 (show (0:Int) ≤ q by omega) h6
  have c : 1 * 1 ≤ q * q := Int.mul_le_mul h5 h5 (by omega) (by omega)
  have d := mul_bd (a := r) (b := q * q) (A := 20) (B := 400) (by omega) h2 (by omega) (by omega)
  have e := mul_bd (a := r) (b := p * p) (A := 20) (B := 361) (by omega) h2 (by omega) (by omega)
  have f : r * (q * q - p * p) = r * (q * q) - r * (p * p) := Int.mul_sub _ _ _
  have g := mul_bd (a := r * 2 * p) (b := q) (A := 760) (B := 20) (mul_bd (a := r * 2) (b := p) (A := 40) (B := 19) (by omega) (by omega) h3 h4).1 (mul_bd (a := r * 2) (b := p) (A := 40) (B := 19) (by omega) (by omega) h3 h4).2 (by omega) h6
  have x1 := lwD_pos (r * (q * q - p * p)) (q * q + p * p) (by omega)
  have x2 := lwD_le (r * (q * q - p * p)) (q * q + p * p) (by omega)
  have x3 := lwD_pos (r * 2 * p * q) (q * q + p * p) (by omega)
  have x4 := lwD_le (r * 2 * p * q) (q * q + p * p) (by omega)
  have x5 := lwN_bd (r * (q * q - p * p)) (q * q + p * p) 100000 (by omega) (by omega)
  have x6 := lwN_nonneg (r * 2 * p * q) (q * q + p * p) (by omega)
  have x7 := lwN_le (r * 2 * p * q) (q * q + p * p) (by omega)
  exact ⟨_, _, _, _, arcI_yes hv, by omega, by omega, by omega, by omega, by omega, by omega, by omega, by omega, arc_circle _ _ _ _ r p q (q * q + p * p) rfl (lw_cross _ _) (lw_cross _ _) (by omega)⟩

/-- What is wanted of a radius. -/
theorem rad_facts {c e : Int} (h1 : 0 ≤ c) (h2 : c < 100) (h3 : 0 ≤ e) (h4 : e < 200) : ∃ rn rd : Int, radiusI (2 * (1 + c) + e) (1 + c) = (rn, rd, 0) ∧ 0 < rd ∧ rd ≤ 800 ∧ 0 < rn ∧ rn < 1000000 ∧
    8 * (1 + c) * rn = ((2 * (1 + c) + e) * (2 * (1 + c) + e) + 4 * (1 + c) * (1 + c)) * rd ∧ (1 + c) * rd ≤ rn := by
  have hv : radB (2 * (1 + c) + e) (1 + c) = true := by
    simp only [radB, Bool.and_eq_true, decide_eq_true_eq]; exact ⟨⟨inB_mk (by omega), inB_mk (by omega)⟩, by omega⟩
  generalize hr : 1 + c = r at *
  generalize hs : 2 * r + e = s at *
  have a := mul_bd (a := s) (b := s) (A := 399) (B := 399) (by omega) (by omega) (by omega) (by omega)
  have b := mul_bd (a := 4 * r) (b := r) (A := 400) (B := 100) (by omega) (by omega) (by omega) (by omega)
  have f : (2 * r) * (2 * r) ≤ s * s := Int.mul_le_mul (by omega) (by omega) (by omega) (by omega)
  have g : (2 * r) * (2 * r) = 4 * r * r := by rw [← Int.mul_assoc, Int.mul_right_comm 2 r 2]; rfl
  have h : 1 * 1 ≤ r * r := Int.mul_le_mul (by omega) (by omega) (by omega) (by omega)
  have k : 4 * r * r = 4 * (r * r) := Int.mul_assoc _ _ _
  have l : r * (8 * r) = 8 * (r * r) := Int.mul_left_comm _ _ _
  have x1 := lwD_pos (s * s + 4 * r * r) (8 * r) (by omega)
  have x2 := lwD_le (s * s + 4 * r * r) (8 * r) (by omega)
  have x3 := lwN_pos (s * s + 4 * r * r) (8 * r) (by omega)
  have x4 := lwN_le (s * s + 4 * r * r) (8 * r) (by omega)
  have x5 := lw_ge (s * s + 4 * r * r) (8 * r) r (by omega) (by omega)
  exact ⟨_, _, radiusI_yes hv, by omega, by omega, by omega, by omega, by rw [Int.mul_comm (8 * r)]; exact lw_cross _ _, x5⟩

set_option maxRecDepth 100000 in
set_option maxHeartbeats 4000000 in
set_option linter.unusedVariables false in
theorem arcs_walk (a : Option Addr) (len cap : Nat) (zs : List Int) (w : World) (h : IsRow .u8 w a len cap zs) :
    Calls Try.prog 4 #[.slice a len cap] w fun e w' => e = .returned (.bool true) ∧ Below w.heap.size w w' := by
  have hm : len ≤ maxLen := Nat.le_trans h.2.1 h.2.2.1
  have hm0 : 0 ≤ maxLen := Nat.zero_le _
  have HL := Lib.hid (fun W => a2Long_any a none len cap 0 0 W hm hm0)
  by_cases hl : 3000 < len
  · have HB := Lib.hid (show longB len 0 = true by simp [longB, hl])
    go_enter Try.func4, Try.ntmps4
    go_wp2_with fail
    refine (HL.out _).mono ?_
    rintro e1 w1 ⟨rfl, rfl⟩
    rw [HB.out]
    go_wp2
    go_ret
    exact ⟨rfl, (by repeat (first | exact Below.refl _ _ | assumption | refine Below.drew ?_ | refine below_drewN ?_ _ | refine Below.alloc ?_ (by first | omega | (simp; done) | (simp; omega)) _ | refine Below.setCell ?_ (by first | omega | (simp; done) | (simp; omega)) _))⟩
  have HB := Lib.hid (show longB len 0 = false by simp [longB, hl])
  obtain ⟨c0, b0, u0, A0⟩ := a2At_at h 0 20 (by omega) (by omega) (by omega)
  obtain ⟨c1, b1, u1, A1⟩ := a2At_at h 1 20 (by omega) (by omega) (by omega)
  obtain ⟨c2, b2, u2, A2⟩ := a2At_at h 2 20 (by omega) (by omega) (by omega)
  obtain ⟨c3, b3, u3, A3⟩ := a2At_at h 3 100 (by omega) (by omega) (by omega)
  obtain ⟨c4, b4, u4, A4⟩ := a2At_at h 4 200 (by omega) (by omega) (by omega)
  obtain ⟨xn, xd, yn, yd, ha, x1, x2, x3, x4, x5, x6, x7, x8, hq⟩ := arc_facts (r := 1 + c0) (p := c1) (q := 1 + c2) (by omega) (by omega) (by omega) (by omega) (by omega) (by omega)
  obtain ⟨rn, rd, hr, y1, y2, y3, y4, hq2, y5⟩ := rad_facts b3 u3 b4 u4
  have HA := Lib.hid (fun W => arcPoint_any (1 + c0) c1 (1 + c2) W)
  rw [ha] at HA
  have HR := Lib.hid (fun W => radiusOf_any (2 * (1 + c3) + c4) (1 + c3) W)
  rw [hr] at HR
  have hne : (xn * xn * yd * yd + yn * yn * xd * xd != (1 + c0) * (1 + c0) * xd * xd * yd * yd) = false := by simp [hq]
  have heq : (8 * (1 + c3) * rn == ((2 * (1 + c3) + c4) * (2 * (1 + c3) + c4) + 4 * (1 + c3) * (1 + c3)) * rd) = true := by simp [hq2]
  clear ha hr hq hq2 h
  have p1 := sq_bd x5 x6
  have p2 := mul_bd p1.1 p1.2 (show 0 ≤ yd by omega) x4
  have p3 := mul_bd p2.1 p2.2 (show 0 ≤ yd by omega) x4
  have p4 := mul_bd x7 x8 x7 x8
  have p5 := mul_bd p4.1 p4.2 (show 0 ≤ xd by omega) x2
  have p6 := mul_bd p5.1 p5.2 (show 0 ≤ xd by omega) x2
  have p7 := mul_bd (a := 1 + c0) (b := 1 + c0) (A := 20) (B := 20) (by omega) (by omega) (by omega) (by omega)
  have p8 := mul_bd p7.1 p7.2 (show 0 ≤ xd by omega) x2
  have p9 := mul_bd p8.1 p8.2 (show 0 ≤ xd by omega) x2
  have p10 := mul_bd p9.1 p9.2 (show 0 ≤ yd by omega) x4
  have p11 := mul_bd p10.1 p10.2 (show 0 ≤ yd by omega) x4
  have p12 := mul_bd (a := 8 * (1 + c3)) (b := rn) (A := 800) (B := 1000000) (by omega) (by omega) (by omega) (by omega)
  have p13 := mul_bd (a := 2 * (1 + c3) + c4) (b := 2 * (1 + c3) + c4) (A := 400) (B := 400) (by omega) (by omega) (by omega) (by omega)
  have p14 := mul_bd (a := 4 * (1 + c3)) (b := 1 + c3) (A := 400) (B := 100) (by omega) (by omega) (by omega) (by omega)
  have p15 := mul_bd (a := (2 * (1 + c3) + c4) * (2 * (1 + c3) + c4) + 4 * (1 + c3) * (1 + c3)) (b := rd) (A := 200000) (B := 800) (by omega) (by omega) (by omega) (by omega)
  have p16 := mul_bd (a := 1 + c3) (b := rd) (A := 100) (B := 800) (by omega) (by omega) (by omega) (by omega)
  obtain ⟨p1a, p1b⟩ := p1
  obtain ⟨p2a, p2b⟩ := p2
  obtain ⟨p3a, p3b⟩ := p3
  obtain ⟨p4a, p4b⟩ := p4
  obtain ⟨p5a, p5b⟩ := p5
  obtain ⟨p6a, p6b⟩ := p6
  obtain ⟨p7a, p7b⟩ := p7
  obtain ⟨p8a, p8b⟩ := p8
  obtain ⟨p9a, p9b⟩ := p9
  obtain ⟨p10a, p10b⟩ := p10
  obtain ⟨p11a, p11b⟩ := p11
  obtain ⟨p12a, p12b⟩ := p12
  obtain ⟨p13a, p13b⟩ := p13
  obtain ⟨p14a, p14b⟩ := p14
  obtain ⟨p15a, p15b⟩ := p15
  obtain ⟨p16a, p16b⟩ := p16
  have d1 : decide (xd < 1) = false := decide_eq_false (by omega)
  have d2 : decide (1000 < xd) = false := decide_eq_false (by omega)
  have d3 : decide (yd < 1) = false := decide_eq_false (by omega)
  have d4 : decide (1000 < yd) = false := decide_eq_false (by omega)
  have d5 : decide (100000 < xn) = false := decide_eq_false (by omega)
  have d6 : decide (100000 < -xn) = false := decide_eq_false (by omega)
  have d7 : decide (yn < 0) = false := decide_eq_false (by omega)
  have d8 : decide (100000 < yn) = false := decide_eq_false (by omega)
  have d9 : decide (0 < rd) = true := decide_eq_true (by omega)
  have d10 : decide (rd ≤ 800) = true := decide_eq_true (by omega)
  have d11 : decide (0 < rn) = true := decide_eq_true (by omega)
  have d12 : decide (rn < 1000000) = true := decide_eq_true (by omega)
  have d13 : decide ((1 + c3) * rd ≤ rn) = true := decide_eq_true (by omega)
  go_enter Try.func4, Try.ntmps4
  go_wp2_with fail
  refine (HL.out _).mono ?_
  rintro e1 w1 ⟨rfl, rfl⟩
  rw [HB.out]
  go_wp2_with fail
  refine (A0.out _ (Below.refl _ _)).mono ?_
  rintro e2 w2 ⟨rfl, rfl⟩
  go_wp2_with fail
  refine (A1.out _ (Below.refl _ _)).mono ?_
  rintro e3 w3 ⟨rfl, rfl⟩
  go_wp2_with fail
  refine (A2.out _ (Below.refl _ _)).mono ?_
  rintro e4 w4 ⟨rfl, rfl⟩
  go_wp2_with fail
  refine (HA.out _).mono ?_
  rintro e5 w5 ⟨rfl, hb5⟩
  obtain ⟨hc5, hf5⟩ := bcell hb5
  have hz5 := hb5.size
  try simp at hz5
  have ha5 : Below w.heap.size w w5 := below_call (by repeat (first | exact Below.refl _ _ | assumption | refine Below.drew ?_ | refine below_drewN ?_ _ | refine Below.alloc ?_ (by first | omega | (simp; done) | (simp; omega)) _ | refine Below.setCell ?_ (by first | omega | (simp; done) | (simp; omega)) _)) hb5
  go_wp2_with fail
  all_goals
    refine (A3.out _ (by repeat (first | exact Below.refl _ _ | assumption | refine Below.drew ?_ | refine below_drewN ?_ _ | refine Below.alloc ?_ (by first | omega | (simp; done) | (simp; omega)) _ | refine Below.setCell ?_ (by first | omega | (simp; done) | (simp; omega)) _))).mono ?_
    rintro e6 w6 ⟨rfl, rfl⟩
    go_wp2_with fail
    refine (A4.out _ (by repeat (first | exact Below.refl _ _ | assumption | refine Below.drew ?_ | refine below_drewN ?_ _ | refine Below.alloc ?_ (by first | omega | (simp; done) | (simp; omega)) _ | refine Below.setCell ?_ (by first | omega | (simp; done) | (simp; omega)) _))).mono ?_
    rintro e7 w7 ⟨rfl, rfl⟩
    go_wp2_with fail
    refine (HR.out _).mono ?_
    rintro e8 w8 ⟨rfl, hb8⟩
    obtain ⟨hc8, hf8⟩ := bcell hb8
    have hz8 := hb8.size
    try simp at hz8
    have ha8 : Below w.heap.size w w8 := below_call (by repeat (first | exact Below.refl _ _ | assumption | refine Below.drew ?_ | refine below_drewN ?_ _ | refine Below.alloc ?_ (by first | omega | (simp; done) | (simp; omega)) _ | refine Below.setCell ?_ (by first | omega | (simp; done) | (simp; omega)) _)) hb8
    go_wp2
    go_ret
    exact ⟨rfl, (by repeat (first | exact Below.refl _ _ | assumption | refine Below.drew ?_ | refine below_drewN ?_ _ | refine Below.alloc ?_ (by first | omega | (simp; done) | (simp; omega)) _ | refine Below.setCell ?_ (by first | omega | (simp; done) | (simp; omega)) _))⟩
/-! ### The row's step: the arguments are opened, the walk is called, the arguments read as before. -/
set_option maxRecDepth 100000 in
set_option maxHeartbeats 1000000 in
set_option linter.unusedVariables false in
theorem lifted_FnArcs (os : Os) (started : os.Started) (H : Type) (enc : TypeId × Value → H) :
    ReturnsInHanded {} Try.checked os 4 .any (Rows.fnArcsSpec.pre6 enc Try.prog Try.f4 Rows.fnArcsRow.domain false) (Rows.fnArcsSpec.post enc Try.prog Try.f4 false true false false) := by
  refine returnsInHanded_of_change (C := Try.checked) ownNone started (by kernel_rfl) Try.func4
    (ChangeSpec.witness6 (enc := enc) (C := Try.checked) false ⟨#[], #[.slice none 0 0], []⟩ 8 (by kernel_rfl) (by kernel_rfl) (by kernel_rfl) (by kernel_rfl)) ?_
  intro W base args ds gs before hval0 hW hcnd _
  have hval : ∀ (j : Nat) t v, Try.f4.params[j]? = some t → args[j]? = some v → Value.okWide Try.prog W .any base t v := hval0
  have hW' := hW
  obtain ⟨p, q, hA0, hV, rfl, hfz, hnd⟩ := hW
  have hA : DataW.TrodAll enc Try.prog W 0 (fun _ => true) true Try.f4.params.toList args.toList ds p := hA0
  rw [Try.params4] at hA hval
  obtain ⟨v0, vs0, d0, ds0, p0, q0, hargs, rfl, rfl, h0, r0⟩ := trodAll_cons hA
  obtain ⟨rfl, rfl, rfl⟩ := trodAll_nil r0
  obtain rfl : args = #[v0] := by cases args; simp_all
  obtain ⟨rfl, rfl⟩ := trodVars_none hV
  have k0 := h0
  have lt0 : ∀ x ∈ p0, x.block < W.heap.size := by obtain ⟨m, hm⟩ := k0; exact DataW.trod_lt m _ _ _ hm
  obtain ⟨a0, len0, cap0, rfl⟩ := okWide_slice Try.underlying28 (hval 0 28 v0 rfl rfl)
  obtain ⟨z0, w0⟩ : ∃ zs, IsRow .u8 W a0 len0 cap0 zs := by
    obtain ⟨fuel, hf⟩ := h0
    rcases open_ints Try.underlying28 Try.underlying5 (by kernel_rfl) hf with ⟨hcs, _⟩ | ⟨x, l, c, zs, hcs, _, hl, hm, hz, _, hcell, hwz⟩
    · simp [Value.cells] at hcs
      obtain ⟨rfl, rfl, rfl⟩ := hcs
      exact ⟨[], isRow_nil⟩
    · simp [Value.cells] at hcs
      obtain ⟨rfl, rfl, rfl⟩ := hcs
      exact ⟨zs.take len0, isRow_mk hl hm (by simpa using hz) hcell hwz⟩
  clear hA0 hval0
  refine (arcs_walk a0 len0 cap0 z0 W w0).mono fun e W' ⟨he, bel⟩ => ?_
  subst he
  exact ⟨_, rfl, _, _, _, [], _, [], hW', trodAll_mk1 (shut_bool Try.underlying4 _), (trodAll_cons_mk (Below.trod laidOut (by kernel_rfl) (of_decide_eq_true (by kernel_rfl)) k0 bel lt0) trodAll_mk0), rfl, bel.frame _, fun h => by cases h⟩

/-- The statement, proved. -/
theorem fnArcs_holds : Rows.FnArcsSaid :=
  OpenClaim.holds_of_wide 4 Try.f4 rfl rfl rfl rfl rfl rfl rfl ⟨rfl, rfl, rfl, rfl, rfl⟩ rfl rfl rfl rfl rfl (by kernel_rfl) Try.func4 (by kernel_rfl)
    (of_decide_eq_true (by kernel_rfl)) (by unfold Func.isWrapper; first | (rw [if_pos (by decide +kernel)]; kernel_rfl) | (rw [if_neg (by decide +kernel)]; exact ⟨rfl, rfl⟩))
    (fun os started H enc _ => lifted_FnArcs os started H enc)
end Go.Proofs.Ytjafjkndigchcaa
