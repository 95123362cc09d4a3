/- For all bytes, the law FnFlats holds: the most bricks of a flat arch are wide enough above, two more are not, and joints lean the more the farther they are from the middle; no condition. -/
import Derived.Test.YtjafjkndigchcaaArchG
import Derived.Test.YtjafjkndigchcaaDrawA
namespace Go.Proofs.Ytjafjkndigchcaa
open Go.ChangeShapes Go.WideShapes Go.ChangeAt Go.RowKit

theorem flat_facts {a s j b : Int} (a1 : 300 ≤ a) (a2 : a ≤ 2290) (s1 : 0 ≤ s) (s2 : s ≤ 149) (j1 : 0 ≤ j) (j2 : j ≤ 11) (b1 : 40 ≤ b) (b2 : b ≤ 99) :
    ∃ n : Int, fbI a s j b = (n, 0) ∧ 1 ≤ n ∧ n ≤ 200 ∧ n % 2 = 1 ∧ n * b ≤ a + 2 * s - (n + 1) * j ∧ a + 2 * s - (n + 3) * j < (n + 2) * b := by
  have hv : flatB a s j = true := by simp only [flatB, Bool.and_eq_true]; exact ⟨⟨inB_mk (by omega), inB_mk (by omega)⟩, inB_mk (by omega)⟩
  have h1 : inB b 30 250 = true := inB_mk (by omega)
  have q1 : 1 ≤ fbQ a s j b := by
    unfold fbQ; rw [Int.le_ediv_iff_mul_le (by omega)]; omega
  have q2 : fbQ a s j b ≤ 200 := fbQ_hi (by omega) (by omega) j1 (by omega)
  have t1 := (fb_test (a := a) (s := s) (j := j) (b := b) (n := oddI (fbQ a s j b)) j1 (by omega)).2 (by unfold oddI; omega)
  have t2 : ¬ _ := fun hh => absurd ((fb_test (a := a) (s := s) (j := j) (b := b) (n := oddI (fbQ a s j b) + 2) j1 (by omega)).1 hh) (by unfold oddI; omega)
  refine ⟨oddI (fbQ a s j b), fbI_yes hv h1 q1, by unfold oddI; omega, by unfold oddI; omega, by unfold oddI; omega, by rw [Int.mul_comm]; exact t1, ?_⟩
  generalize oddI (fbQ a s j b) = n at *
  have e : n + 2 + 1 = n + 3 := by omega
  rw [e, Int.mul_comm b] at t2
  omega

theorem width_facts {a s j n : Int} (a1 : 300 ≤ a) (a2 : a ≤ 2290) (s1 : 0 ≤ s) (s2 : s ≤ 149) (j1 : 0 ≤ j) (j2 : j ≤ 11) (n1 : 1 ≤ n) (n2 : n ≤ 200) (n3 : n % 2 = 1) :
    widI a s j n = (0, 0, 0, 0, 6) ∨ ∃ ln ld hn hd : Int, widI a s j n = (ln, ld, hn, hd, 0) ∧ 1 ≤ ld ∧ ld ≤ n ∧ 1 ≤ hd ∧ hd ≤ n ∧ 1 ≤ ln ∧ ln ≤ 10000 ∧ 1 ≤ hn ∧ hn ≤ 10000 ∧ (hn * ld - ln * hd) * n = 2 * s * ld * hd := by
  have hv : flatB a s j = true := by simp only [flatB, Bool.and_eq_true]; exact ⟨⟨inB_mk (by omega), inB_mk (by omega)⟩, inB_mk (by omega)⟩
  have h1 : inB n 1 400 = true := inB_mk (by omega)
  have m := mul_bd (a := n + 1) (b := j) (A := 201) (B := 11) (by omega) (by omega) j1 j2
  by_cases h : 0 < a - (n + 1) * j
  · right
    have hy := widI_yes (s := s) hv h1 (by omega) h
    have hWb : a - (n + 1) * j ≤ 2290 := by omega
    generalize a - (n + 1) * j = W at *
    refine ⟨_, _, _, _, hy, lwD_pos _ _ (by omega), lwD_le _ _ (by omega), lwD_pos _ _ (by omega), lwD_le _ _ (by omega), lwN_pos _ _ h, Int.le_trans (lwN_le _ _ (by omega)) (by omega), lwN_pos _ _ (by omega), Int.le_trans (lwN_le _ _ (by omega)) (by omega), ?_⟩
    have c1 := lw_cross W n
    have c2 := lw_cross (W + 2 * s) n
    generalize lwN W n = ln at *
    generalize lwD W n = ld at *
    generalize lwN (W + 2 * s) n = hn at *
    generalize lwD (W + 2 * s) n = hd at *
    have e1 : (hn * ld - ln * hd) * n = (hn * n) * ld - (ln * n) * hd := by rw [Int.sub_mul, Int.mul_right_comm hn, Int.mul_right_comm ln]
    rw [e1, c1, c2, Int.add_mul, Int.add_mul, Int.mul_right_comm W hd ld, Int.mul_right_comm (2 * s) hd ld]
    omega
  · left; exact widI_bad hv h1 (.inr (by omega))

theorem lwD_neg (n d : Int) : lwD (-n) d = lwD n d := by unfold lwD; simp [Int.gcd]
theorem leans {s n k : Int} (s1 : 0 ≤ s) (s2 : s ≤ 149) (n1 : 1 ≤ n) (n2 : n ≤ 200) (n3 : n % 2 = 1) (k1 : 0 ≤ k) (k2 : k ≤ n) :
    ∃ x y : Int, leanI s n k = (x, y, 0) ∧ leanI s n (n - k) = (-x, y, 0) ∧ 1 ≤ y ∧ y ≤ n ∧ -100000 ≤ x ∧ x ≤ 100000 ∧ x * n = (2 * k - n) * s * y ∧ -100000 ≤ (2 * k - n) * s ∧ (2 * k - n) * s ≤ 100000 := by
  have hv : leanB s n k = true := by simp only [leanB, Bool.and_eq_true]; exact ⟨⟨inB_mk (by omega), inB_mk (by omega)⟩, inB_mk (by omega)⟩
  have hv' : leanB s n (n - k) = true := by simp only [leanB, Bool.and_eq_true]; exact ⟨⟨inB_mk (by omega), inB_mk (by omega)⟩, inB_mk (by omega)⟩
  have e : (2 * (n - k) - n) * s = -((2 * k - n) * s) := by rw [← Int.neg_mul]; congr 1; omega
  have h1 := mul_bd (a := k) (b := s) (A := 200) (B := 149) (by omega) (by omega) s1 s2
  have h2 := mul_bd (a := n - k) (b := s) (A := 200) (B := 149) (by omega) (by omega) s1 s2
  have f : (2 * k - n) * s = k * s - (n - k) * s := by rw [← Int.sub_mul]; congr 1; omega
  have b := lwN_bd ((2 * k - n) * s) n 100000 (by omega) (by omega)
  refine ⟨lwN ((2 * k - n) * s) n, lwD ((2 * k - n) * s) n, leanI_yes hv (by omega), ?_, lwD_pos _ _ (by omega), lwD_le _ _ (by omega), b.1, b.2, lw_cross _ _, by omega, by omega⟩
  rw [leanI_yes hv' (by omega), e, lwN_neg, lwD_neg]

set_option maxRecDepth 100000 in
set_option maxHeartbeats 4000000 in
set_option linter.unusedVariables false in
theorem flats_walk (a : Option Addr) (len cap : Nat) (zs : List Int) (w : World) (h : IsRow .u8 w a len cap zs) :
    Calls Try.prog 8 #[.slice a len cap] w fun e w' => e = .returned (.bool true) ∧ Below w.heap.size w w' := by
  have hm : len ≤ maxLen := Nat.le_trans h.2.1 h.2.2.1
  have hm0 : 0 ≤ maxLen := Nat.zero_le _
  have HL := Lib.hid (fun W => a2Long_any a none len cap 0 0 W hm hm0)
  by_cases hl : 3000 < len
  · have HB := Lib.hid (show longB len 0 = true by simp [longB, hl])
    go_enter Try.func8, Try.ntmps8
    go_wp2_with fail
    refine (HL.out _).mono ?_
    rintro e1 w1 ⟨rfl, rfl⟩
    rw [HB.out]
    go_wp2
    go_ret
    exact ⟨rfl, (by repeat (first | exact Below.refl _ _ | assumption | refine Below.drew ?_ | refine below_drewN ?_ _ | refine Below.alloc ?_ (by first | omega | (simp; done) | (simp; omega)) _ | refine Below.setCell ?_ (by first | omega | (simp; done) | (simp; omega)) _))⟩
  have HB := Lib.hid (show longB len 0 = false by simp [longB, hl])
  obtain ⟨c0, b0, u0, A0⟩ := a2At_at h 0 200 (by omega) (by omega) (by omega)
  obtain ⟨c1, b1, u1, A1⟩ := a2At_at h 1 150 (by omega) (by omega) (by omega)
  obtain ⟨c2, b2, u2, A2⟩ := a2At_at h 2 12 (by omega) (by omega) (by omega)
  obtain ⟨c3, b3, u3, A3⟩ := a2At_at h 3 60 (by omega) (by omega) (by omega)
  obtain ⟨n, hfb, n1, n2, n3, t1, t2⟩ := flat_facts (a := 300 + 10 * c0) (s := c1) (j := c2) (b := 40 + c3) (by omega) (by omega) (by omega) (by omega) (by omega) (by omega) (by omega) (by omega)
  obtain ⟨k, b4, u4, A4⟩ := a2At_at h 4 (n + 1) (by omega) (by omega) (by omega)
  have HF := Lib.hid (fun W => flatBricks_any (300 + 10 * c0) c1 c2 (40 + c3) W)
  rw [hfb] at HF
  have HW := Lib.hid (fun W => flatWidths_any (300 + 10 * c0) c1 c2 n W)
  obtain ⟨x, y, l1, l2, y1, y2, x1, x2, hq, x3, x4⟩ := leans b1 (by omega) n1 n2 n3 b4 (show k ≤ n by omega)
  have HL1 := Lib.hid (fun W => leanOf_any c1 n k W)
  have HL2 := Lib.hid (fun W => leanOf_any c1 n (n - k) W)
  rw [l1] at HL1
  rw [l2] at HL2
  have p1 := mul_bd (a := n + 1) (b := c2) (A := 201) (B := 11) (by omega) (by omega) b2 (by omega)
  have p2 := mul_bd (a := n) (b := 40 + c3) (A := 200) (B := 100) (by omega) (by omega) (by omega) (by omega)
  have p3 := mul_bd (a := n + 3) (b := c2) (A := 203) (B := 11) (by omega) (by omega) b2 (by omega)
  have p4 := mul_bd (a := n + 2) (b := 40 + c3) (A := 202) (B := 100) (by omega) (by omega) (by omega) (by omega)
  have p5 : -40000000 ≤ x * n ∧ x * n ≤ 40000000 := by
    have e1 := mul_bd (a := x + 100000) (b := n) (A := 200000) (B := 200) (by omega) (by omega) (by omega) (by omega)
    rw [Int.add_mul] at e1; omega
  obtain ⟨p1a, p1b⟩ := p1
  obtain ⟨p2a, p2b⟩ := p2
  obtain ⟨p3a, p3b⟩ := p3
  obtain ⟨p4a, p4b⟩ := p4
  obtain ⟨p5a, p5b⟩ := p5
  have p6a : -40000000 ≤ (2 * k - n) * c1 * y := by rw [← hq]; exact p5a
  have p6b : (2 * k - n) * c1 * y ≤ 40000000 := by rw [← hq]; exact p5b
  have d1 : decide (n < 1) = false := decide_eq_false (by omega)
  have d2 : (n % 2 != 1) = false := by simp [n3]
  have d3 : decide (400 < n) = false := decide_eq_false (by omega)
  have d4 : decide (300 + 10 * c0 + 2 * c1 - (n + 1) * c2 < n * (40 + c3)) = false := decide_eq_false (by omega)
  have d5 : decide ((n + 2) * (40 + c3) ≤ 300 + 10 * c0 + 2 * c1 - (n + 3) * c2) = false := decide_eq_false (by omega)
  have d6 : decide (1 ≤ y) = true := decide_eq_true (by omega)
  have d7 : decide (y ≤ n) = true := decide_eq_true (by omega)
  have d8 : (x * n == (2 * k - n) * c1 * y) = true := by simp [hq]
  have d9 : decide (n + 2 ≤ 400) = true := decide_eq_true (by omega)
  rcases width_facts (a := 300 + 10 * c0) (s := c1) (j := c2) (n := n) (by omega) (by omega) (by omega) (by omega) (by omega) (by omega) n1 n2 n3 with hw | ⟨ln, ld, hn, hd, hw, g1, g2, g3, g4, g5, g6, g7, g8, g9⟩
  · rw [hw] at HW
    clear h hfb l1 l2 hq hw n3
    go_enter Try.func8, Try.ntmps8
    go_wp2_with fail
    refine (HL.out _).mono ?_
    rintro e1 w1 ⟨rfl, rfl⟩
    rw [HB.out]
    go_wp2_with fail
    refine (A0.out _ (Below.refl _ _)).mono ?_
    rintro e2 w2 ⟨rfl, rfl⟩
    go_wp2_with fail
    refine (A1.out _ (Below.refl _ _)).mono ?_
    rintro e3 w3 ⟨rfl, rfl⟩
    go_wp2_with fail
    refine (A2.out _ (Below.refl _ _)).mono ?_
    rintro e4 w4 ⟨rfl, rfl⟩
    go_wp2_with fail
    refine (A3.out _ (Below.refl _ _)).mono ?_
    rintro e5 w5 ⟨rfl, rfl⟩
    go_wp2_with fail
    refine (HF.out _).mono ?_
    rintro e6 w6 ⟨rfl, rfl⟩
    go_wp2_with fail
    refine (HW.out _).mono ?_
    rintro e7 w7 ⟨rfl, hb7⟩
    obtain ⟨hc7, hf7⟩ := bcell hb7
    have hz7 := hb7.size
    try simp at hz7
    have ha7 : Below w.heap.size w w7 := below_call (by repeat (first | exact Below.refl _ _ | assumption | refine Below.drew ?_ | refine below_drewN ?_ _ | refine Below.alloc ?_ (by first | omega | (simp; done) | (simp; omega)) _ | refine Below.setCell ?_ (by first | omega | (simp; done) | (simp; omega)) _)) hb7
    go_wp2_with fail
    refine (A4.out _ (by repeat (first | exact Below.refl _ _ | assumption | refine Below.drew ?_ | refine below_drewN ?_ _ | refine Below.alloc ?_ (by first | omega | (simp; done) | (simp; omega)) _ | refine Below.setCell ?_ (by first | omega | (simp; done) | (simp; omega)) _))).mono ?_
    rintro e8 w8 ⟨rfl, rfl⟩
    go_wp2_with fail
    refine (HL1.out _).mono ?_
    rintro e9 w9 ⟨rfl, hb9⟩
    obtain ⟨hc9, hf9⟩ := bcell hb9
    have hz9 := hb9.size
    try simp at hz9
    have ha9 : Below w.heap.size w w9 := below_call (by repeat (first | exact Below.refl _ _ | assumption | refine Below.drew ?_ | refine below_drewN ?_ _ | refine Below.alloc ?_ (by first | omega | (simp; done) | (simp; omega)) _ | refine Below.setCell ?_ (by first | omega | (simp; done) | (simp; omega)) _)) hb9
    go_wp2_with fail
    refine (HL2.out _).mono ?_
    rintro e10 w10 ⟨rfl, hb10⟩
    obtain ⟨hc10, hf10⟩ := bcell hb10
    have hz10 := hb10.size
    try simp at hz10
    have ha10 : Below w.heap.size w w10 := below_call (by repeat (first | exact Below.refl _ _ | assumption | refine Below.drew ?_ | refine below_drewN ?_ _ | refine Below.alloc ?_ (by first | omega | (simp; done) | (simp; omega)) _ | refine Below.setCell ?_ (by first | omega | (simp; done) | (simp; omega)) _)) hb10
    have z0 : w10.cell? ⟨w9.heap.size, 0, none⟩ = some (.int .i64 x) := by rw [hc10 _ _ (by first | omega | (simp; done) | (simp; omega))]; simp [go_sem]
    have z1 : w10.cell? ⟨w9.heap.size, 1, none⟩ = some (.int .i64 y) := by rw [hc10 _ _ (by first | omega | (simp; done) | (simp; omega))]; simp [go_sem]
    have z2 : w9.heap.size < w10.heap.size := by omega
    clear hc9 hf9 hc10 hf10 hc7 hf7
    go_wp2
    go_ret
    exact ⟨rfl, (by repeat (first | exact Below.refl _ _ | assumption | refine Below.drew ?_ | refine below_drewN ?_ _ | refine Below.alloc ?_ (by first | omega | (simp; done) | (simp; omega)) _ | refine Below.setCell ?_ (by first | omega | (simp; done) | (simp; omega)) _))⟩
  · rw [hw] at HW
    have q1 := mul_bd (show 0 ≤ hn by omega) g8 (show 0 ≤ ld by omega) (show ld ≤ 200 by omega)
    have q2 := mul_bd (show 0 ≤ ln by omega) g6 (show 0 ≤ hd by omega) (show hd ≤ 200 by omega)
    have q3 := mul_bd (a := 2 * c1) (b := ld) (A := 298) (B := 200) (by omega) (by omega) (by omega) (by omega)
    have q4 := mul_bd (a := 2 * c1 * ld) (b := hd) (A := 59600) (B := 200) (by omega) (by omega) (by omega) (by omega)
    obtain ⟨q1a, q1b⟩ := q1
    obtain ⟨q2a, q2b⟩ := q2
    obtain ⟨q3a, q3b⟩ := q3
    obtain ⟨q4a, q4b⟩ := q4
    have q5a : 0 ≤ (hn * ld - ln * hd) * n := by rw [g9]; exact q4a
    have q5b : (hn * ld - ln * hd) * n ≤ 59600 * 200 := by rw [g9]; exact q4b
    have f1 : decide (ld < 1) = false := decide_eq_false (by omega)
    have f2 : decide (n < ld) = false := decide_eq_false (by omega)
    have f3 : decide (hd < 1) = false := decide_eq_false (by omega)
    have f4 : decide (n < hd) = false := decide_eq_false (by omega)
    have f5 : decide (ln < 1) = false := decide_eq_false (by omega)
    have f6 : decide (1000000 < ln) = false := decide_eq_false (by omega)
    have f7 : decide (1000000 < hn) = false := decide_eq_false (by omega)
    have f8 : ((hn * ld - ln * hd) * n != 2 * c1 * ld * hd) = false := by simp [g9]
    clear h hfb l1 l2 hq hw n3 g9
    go_enter Try.func8, Try.ntmps8
    go_wp2_with fail
    refine (HL.out _).mono ?_
    rintro e1 w1 ⟨rfl, rfl⟩
    rw [HB.out]
    go_wp2_with fail
    refine (A0.out _ (Below.refl _ _)).mono ?_
    rintro e2 w2 ⟨rfl, rfl⟩
    go_wp2_with fail
    refine (A1.out _ (Below.refl _ _)).mono ?_
    rintro e3 w3 ⟨rfl, rfl⟩
    go_wp2_with fail
    refine (A2.out _ (Below.refl _ _)).mono ?_
    rintro e4 w4 ⟨rfl, rfl⟩
    go_wp2_with fail
    refine (A3.out _ (Below.refl _ _)).mono ?_
    rintro e5 w5 ⟨rfl, rfl⟩
    go_wp2_with fail
    refine (HF.out _).mono ?_
    rintro e6 w6 ⟨rfl, rfl⟩
    go_wp2_with fail
    refine (HW.out _).mono ?_
    rintro e7 w7 ⟨rfl, hb7⟩
    obtain ⟨hc7, hf7⟩ := bcell hb7
    have hz7 := hb7.size
    try simp at hz7
    have ha7 : Below w.heap.size w w7 := below_call (by repeat (first | exact Below.refl _ _ | assumption | refine Below.drew ?_ | refine below_drewN ?_ _ | refine Below.alloc ?_ (by first | omega | (simp; done) | (simp; omega)) _ | refine Below.setCell ?_ (by first | omega | (simp; done) | (simp; omega)) _)) hb7
    go_wp2_with fail
    refine (A4.out _ (by repeat (first | exact Below.refl _ _ | assumption | refine Below.drew ?_ | refine below_drewN ?_ _ | refine Below.alloc ?_ (by first | omega | (simp; done) | (simp; omega)) _ | refine Below.setCell ?_ (by first | omega | (simp; done) | (simp; omega)) _))).mono ?_
    rintro e8 w8 ⟨rfl, rfl⟩
    go_wp2_with fail
    refine (HL1.out _).mono ?_
    rintro e9 w9 ⟨rfl, hb9⟩
    obtain ⟨hc9, hf9⟩ := bcell hb9
    have hz9 := hb9.size
    try simp at hz9
    have ha9 : Below w.heap.size w w9 := below_call (by repeat (first | exact Below.refl _ _ | assumption | refine Below.drew ?_ | refine below_drewN ?_ _ | refine Below.alloc ?_ (by first | omega | (simp; done) | (simp; omega)) _ | refine Below.setCell ?_ (by first | omega | (simp; done) | (simp; omega)) _)) hb9
    go_wp2_with fail
    refine (HL2.out _).mono ?_
    rintro e10 w10 ⟨rfl, hb10⟩
    obtain ⟨hc10, hf10⟩ := bcell hb10
    have hz10 := hb10.size
    try simp at hz10
    have ha10 : Below w.heap.size w w10 := below_call (by repeat (first | exact Below.refl _ _ | assumption | refine Below.drew ?_ | refine below_drewN ?_ _ | refine Below.alloc ?_ (by first | omega | (simp; done) | (simp; omega)) _ | refine Below.setCell ?_ (by first | omega | (simp; done) | (simp; omega)) _)) hb10
    have z0 : w10.cell? ⟨w9.heap.size, 0, none⟩ = some (.int .i64 x) := by rw [hc10 _ _ (by first | omega | (simp; done) | (simp; omega))]; simp [go_sem]
    have z1 : w10.cell? ⟨w9.heap.size, 1, none⟩ = some (.int .i64 y) := by rw [hc10 _ _ (by first | omega | (simp; done) | (simp; omega))]; simp [go_sem]
    have z2 : w9.heap.size < w10.heap.size := by omega
    clear hc9 hf9 hc10 hf10 hc7 hf7
    go_wp2
    go_ret
    exact ⟨rfl, (by repeat (first | exact Below.refl _ _ | assumption | refine Below.drew ?_ | refine below_drewN ?_ _ | refine Below.alloc ?_ (by first | omega | (simp; done) | (simp; omega)) _ | refine Below.setCell ?_ (by first | omega | (simp; done) | (simp; omega)) _))⟩
/-! ### The row's step: the arguments are opened, the walk is called, the arguments read as before. -/
set_option maxRecDepth 100000 in
set_option maxHeartbeats 1000000 in
set_option linter.unusedVariables false in
theorem lifted_FnFlats (os : Os) (started : os.Started) (H : Type) (enc : TypeId × Value → H) :
    ReturnsInHanded {} Try.checked os 8 .any (Rows.fnFlatsSpec.pre6 enc Try.prog Try.f8 Rows.fnFlatsRow.domain false) (Rows.fnFlatsSpec.post enc Try.prog Try.f8 false true false false) := by
  refine returnsInHanded_of_change (C := Try.checked) ownNone started (by kernel_rfl) Try.func8
    (ChangeSpec.witness6 (enc := enc) (C := Try.checked) false ⟨#[], #[.slice none 0 0], []⟩ 8 (by kernel_rfl) (by kernel_rfl) (by kernel_rfl) (by kernel_rfl)) ?_
  intro W base args ds gs before hval0 hW hcnd _
  have hval : ∀ (j : Nat) t v, Try.f8.params[j]? = some t → args[j]? = some v → Value.okWide Try.prog W .any base t v := hval0
  have hW' := hW
  obtain ⟨p, q, hA0, hV, rfl, hfz, hnd⟩ := hW
  have hA : DataW.TrodAll enc Try.prog W 0 (fun _ => true) true Try.f8.params.toList args.toList ds p := hA0
  rw [Try.params8] at hA hval
  obtain ⟨v0, vs0, d0, ds0, p0, q0, hargs, rfl, rfl, h0, r0⟩ := trodAll_cons hA
  obtain ⟨rfl, rfl, rfl⟩ := trodAll_nil r0
  obtain rfl : args = #[v0] := by cases args; simp_all
  obtain ⟨rfl, rfl⟩ := trodVars_none hV
  have k0 := h0
  have lt0 : ∀ x ∈ p0, x.block < W.heap.size := by obtain ⟨m, hm⟩ := k0; exact DataW.trod_lt m _ _ _ hm
  obtain ⟨a0, len0, cap0, rfl⟩ := okWide_slice Try.underlying28 (hval 0 28 v0 rfl rfl)
  obtain ⟨z0, w0⟩ : ∃ zs, IsRow .u8 W a0 len0 cap0 zs := by
    obtain ⟨fuel, hf⟩ := h0
    rcases open_ints Try.underlying28 Try.underlying5 (by kernel_rfl) hf with ⟨hcs, _⟩ | ⟨x, l, c, zs, hcs, _, hl, hm, hz, _, hcell, hwz⟩
    · simp [Value.cells] at hcs
      obtain ⟨rfl, rfl, rfl⟩ := hcs
      exact ⟨[], isRow_nil⟩
    · simp [Value.cells] at hcs
      obtain ⟨rfl, rfl, rfl⟩ := hcs
      exact ⟨zs.take len0, isRow_mk hl hm (by simpa using hz) hcell hwz⟩
  clear hA0 hval0
  refine (flats_walk a0 len0 cap0 z0 W w0).mono fun e W' ⟨he, bel⟩ => ?_
  subst he
  exact ⟨_, rfl, _, _, _, [], _, [], hW', trodAll_mk1 (shut_bool Try.underlying4 _), (trodAll_cons_mk (Below.trod laidOut (by kernel_rfl) (of_decide_eq_true (by kernel_rfl)) k0 bel lt0) trodAll_mk0), rfl, bel.frame _, fun h => by cases h⟩

/-- The statement, proved. -/
theorem fnFlats_holds : Rows.FnFlatsSaid :=
  OpenClaim.holds_of_wide 8 Try.f8 rfl rfl rfl rfl rfl rfl rfl ⟨rfl, rfl, rfl, rfl, rfl⟩ rfl rfl rfl rfl rfl (by kernel_rfl) Try.func8 (by kernel_rfl)
    (of_decide_eq_true (by kernel_rfl)) (by unfold Func.isWrapper; first | (rw [if_pos (by decide +kernel)]; kernel_rfl) | (rw [if_neg (by decide +kernel)]; exact ⟨rfl, rfl⟩))
    (fun os started H enc _ => lifted_FnFlats os started H enc)
end Go.Proofs.Ytjafjkndigchcaa
