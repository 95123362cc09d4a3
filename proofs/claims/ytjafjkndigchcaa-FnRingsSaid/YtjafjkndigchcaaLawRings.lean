/- For all bytes, the law FnRings holds: as many bricks stand in a ring as have place with their joints, and the outer joints are thicker by the taper; no condition. -/
import Derived.Test.YtjafjkndigchcaaArchJ
import Derived.Test.YtjafjkndigchcaaDrawA
import Derived.Test.YtjafjkndigchcaaDrawRing
namespace Go.Proofs.Ytjafjkndigchcaa
open Go.ChangeShapes Go.WideShapes Go.ChangeAt Go.RowKit
set_option linter.unusedSimpArgs false

def mxI (x y : Int) : Int := if x < y then y else x
def mnI (x y : Int) : Int := if y < x then y else x
theorem mxI_lt {x y B : Int} (h1 : x ≤ B) (h2 : y ≤ B) : mxI x y ≤ B := by unfold mxI; split <;> omega
theorem mnI_ge {x y B : Int} (h1 : B ≤ x) (h2 : B ≤ y) : B ≤ mnI x y := by unfold mnI; split <;> omega

theorem taper_eq {x y t m iN iD oN oD tN tD : Int} (hm : 0 < m) (h1 : iN * m = x * iD) (h2 : oN * m = y * oD) (h3 : tN * m = t * tD) (h4 : y - x = t) :
    (oN * iD - iN * oD) * tD = tN * iD * oD := by
  have e : m * ((oN * iD - iN * oD) * tD) = m * (tN * iD * oD) := by
    have a1 : m * ((oN * iD - iN * oD) * tD) = (oN * m) * (iD * tD) - (iN * m) * (oD * tD) := by
      simp only [Int.mul_add, Int.add_mul, Int.mul_sub, Int.sub_mul, Int.mul_assoc, Int.mul_comm, Int.mul_left_comm]
    have a2 : m * (tN * iD * oD) = (tN * m) * (iD * oD) := by simp only [Int.mul_add, Int.add_mul, Int.mul_sub, Int.sub_mul, Int.mul_assoc, Int.mul_comm, Int.mul_left_comm]
    rw [a1, a2, h1, h2, h3, ← h4]
    simp only [Int.mul_add, Int.add_mul, Int.mul_sub, Int.sub_mul, Int.mul_assoc, Int.mul_comm, Int.mul_left_comm]
  exact Int.eq_of_mul_eq_mul_left (by omega) e

theorem ring_facts {r d k j : Int} (r1 : 100 ≤ r) (r2 : r ≤ 1599) (d1 : 100 ≤ d) (d2 : d ≤ 395) (k1 : 50 ≤ k) (k2 : k ≤ 109) (j1 : 1 ≤ j) (j2 : j ≤ 12) :
    ∃ n lN lD iN iD oN oD tN tD : Int, bricksInI r d k j = (n, 0) ∧ innerI r d k j = (lN, lD, 0) ∧ jointsI r d k j = (iN, iD, oN, oD, 0) ∧ taperI r d k j = (tN, tD, 0) ∧
      (∀ m, 1 ≤ m → m ≤ 100 → mustI r d k j m = (decide (m * oD < oN), 0)) ∧
      1 ≤ n ∧ n ≤ 200 ∧ n % 2 = 1 ∧ n * (113 * (k + j)) ≤ 355 * r ∧ 355 * r < (n + 2) * (113 * (k + j)) ∧ 1 ≤ lD ∧ lD ≤ 113 ∧ 0 ≤ lN ∧ lN ≤ 1000000 ∧ lN * 113 = 355 * r * lD ∧
      (1 ≤ iD ∧ iD ≤ 22600) ∧ (1 ≤ oD ∧ oD ≤ 22600) ∧ (1 ≤ tD ∧ tD ≤ 22600) ∧ (0 ≤ iN ∧ iN ≤ 1000000) ∧ (0 ≤ oN ∧ oN ≤ 1000000) ∧ (0 ≤ tN ∧ tN ≤ 1000000) ∧ j * iD ≤ iN ∧ (oN * iD - iN * oD) * tD = tN * iD * oD := by
  have hv : ringB r d k j = true := by
    simp only [ringB, Bool.and_eq_true]; exact ⟨⟨⟨inB_mk (by omega), inB_mk (by omega)⟩, inB_mk (by omega)⟩, inB_mk (by omega)⟩
  have hq : 1 ≤ ringQ r k j := by unfold ringQ; rw [Int.le_ediv_iff_mul_le (by omega)]; omega
  have hq2 : ringQ r k j ≤ 200 := by unfold ringQ; exact Int.ediv_le_of_le_mul (by omega) (by omega)
  have hb := bricksInI_yes hv hq
  have m1 : oddI (ringQ r k j) * (113 * (k + j)) ≤ r * 355 := (Int.le_ediv_iff_mul_le (by omega)).1 (show oddI (ringQ r k j) ≤ r * 355 / (113 * (k + j)) from by show _ ≤ ringQ r k j; unfold oddI; omega)
  have m2 : ¬ (oddI (ringQ r k j) + 2) * (113 * (k + j)) ≤ r * 355 := fun hh => by
    have h5 : oddI (ringQ r k j) + 2 ≤ r * 355 / (113 * (k + j)) := (Int.le_ediv_iff_mul_le (by omega)).2 hh
    have : oddI (ringQ r k j) + 2 ≤ ringQ r k j := h5
    unfold oddI at this; omega
  have n1 : 1 ≤ oddI (ringQ r k j) := by unfold oddI; omega
  have n2 : oddI (ringQ r k j) ≤ 200 := by unfold oddI; omega
  have n3 : oddI (ringQ r k j) % 2 = 1 := by unfold oddI; omega
  have hb2 : (bricksInI r d k j).2 = 0 := by rw [hb]
  have hj := jointsI_yes hb2
  have ht := taperI_yes hb2
  have hm := fun m (h : inB m 1 100 = true) => mustI_yes hv h hb2
  rw [hb] at hj ht hm
  simp only at hj ht hm
  generalize oddI (ringQ r k j) = n at *
  have hn0 : n * (113 * (k + j)) = 113 * n * k + 113 * n * j := by simp only [Int.mul_add, Int.add_mul, Int.mul_sub, Int.sub_mul, Int.mul_assoc, Int.mul_comm, Int.mul_left_comm]
  have hnj : j * (113 * n) = 113 * n * j := Int.mul_comm _ _
  have hnk := mul_bd (a := 113 * n) (b := k) (A := 22600) (B := 109) (by omega) (by omega) (by omega) k2
  have hnj2 := mul_bd (a := 113 * n) (b := j) (A := 22600) (B := 12) (by omega) (by omega) (by omega) j2
  have hp : 0 < 113 * n := by omega
  refine ⟨n, lwN (r * 355) 113, lwD (r * 355) 113, jointN r n k, jointD r n k, jointN (r + d) n k, jointD (r + d) n k, lwN (d * 355) (113 * n), lwD (d * 355) (113 * n), hb, innerI_yes hv, hj, ht, fun m h1 h2 => hm m (inB_mk ⟨h1, h2⟩), n1, n2, n3, by omega, by omega, lwD_pos _ _ (by omega), lwD_le _ _ (by omega), lwN_nonneg _ _ (by omega), Int.le_trans (lwN_le _ _ (by omega)) (by omega), ?_, ⟨lwD_pos _ _ hp, Int.le_trans (lwD_le _ _ hp) (by omega)⟩, ⟨lwD_pos _ _ hp, Int.le_trans (lwD_le _ _ hp) (by omega)⟩, ⟨lwD_pos _ _ hp, Int.le_trans (lwD_le _ _ hp) (by omega)⟩, ⟨lwN_nonneg _ _ (by omega), Int.le_trans (lwN_le _ _ (by omega)) (by omega)⟩, ⟨lwN_nonneg _ _ (by omega), Int.le_trans (lwN_le _ _ (by omega)) (by omega)⟩, ⟨lwN_nonneg _ _ (by omega), Int.le_trans (lwN_le _ _ (by omega)) (by omega)⟩, lw_ge _ _ _ hp (by omega), ?_⟩
  · rw [lw_cross, Int.mul_comm r 355]
  · exact taper_eq (x := r * 355 - 113 * n * k) (y := (r + d) * 355 - 113 * n * k) (t := d * 355) (m := 113 * n) hp (lw_cross _ _) (lw_cross _ _) (lw_cross _ _) (by omega)

set_option maxRecDepth 100000 in
set_option maxHeartbeats 8000000 in
set_option linter.unusedVariables false in
theorem rings_walk (a : Option Addr) (len cap : Nat) (zs : List Int) (w : World) (h : IsRow .u8 w a len cap zs) :
    Calls Try.prog 14 #[.slice a len cap] w fun e w' => e = .returned (.bool true) ∧ Below w.heap.size w w' := by
  have hm : len ≤ maxLen := Nat.le_trans h.2.1 h.2.2.1
  have hm0 : 0 ≤ maxLen := Nat.zero_le _
  have HL := Lib.hid (fun W => a2Long_any a none len cap 0 0 W hm hm0)
  by_cases hl : 3000 < len
  · have HB := Lib.hid (show longB len 0 = true by simp [longB, hl])
    go_enter Try.func14, Try.ntmps14
    go_wp2_with fail
    refine (HL.out _).mono ?_
    rintro e1 w1 ⟨rfl, rfl⟩
    rw [HB.out]
    go_wp2
    go_ret
    exact ⟨rfl, (by repeat (first | exact Below.refl _ _ | assumption | refine Below.drew ?_ | refine below_drewN ?_ _ | refine Below.alloc ?_ (by first | omega | (simp; done) | (simp; omega)) _ | refine Below.setCell ?_ (by first | omega | (simp; done) | (simp; omega)) _))⟩
  have HB := Lib.hid (show longB len 0 = false by simp [longB, hl])
  have HD := Lib.hid (a2Ring_any a len cap zs w h)
  obtain ⟨c, b0, u0, A0⟩ := a2At_at h 11 100 (by omega) (by omega) (by omega)
  clear h
  go_enter Try.func14, Try.ntmps14
  go_wp2_with fail
  refine (HL.out _).mono ?_
  rintro e1 w1 ⟨rfl, rfl⟩
  rw [HB.out]
  go_wp2_with fail
  refine HD.out.mono ?_
  rintro e2 w2 ⟨r, d, k, j, rfl, r1, r2, d1, d2, k1, k2, j1, j2, hb2⟩
  have hz2 := hb2.size
  obtain ⟨n, lN, lD, iN, iD, oN, oD, tN, tD, e1, e2, e3, e4, e5, n1, n2, n3, n4, n5, l1, l2, l3, l4, l5, ⟨i1, i2⟩, ⟨o1, o2⟩, ⟨t1, t2⟩, ⟨i3, i4⟩, ⟨o3, o4⟩, ⟨t3, t4⟩, g1, g2⟩ := ring_facts r1 r2 d1 d2 k1 k2 j1 j2
  have H1 := Lib.hid (bricksIn_any r d k j)
  rw [e1] at H1
  have H2 := Lib.hid (innerLength_any r d k j)
  rw [e2] at H2
  have H3 := Lib.hid (jointsOf_any r d k j)
  rw [e3] at H3
  have H4 := Lib.hid (taperOf_any r d k j)
  rw [e4] at H4
  have H5 := Lib.hid (mustTaper_any r d k j (1 + c))
  rw [e5 (1 + c) (by omega) (by omega)] at H5
  have p1 := mul_bd l3 l4 (show (0 : Int) ≤ 113 by omega) (Int.le_refl 113)
  have p2 := mul_bd (a := 355 * r) (b := lD) (A := 567645) (B := 113) (by omega) (by omega) (by omega) l2
  have p3 := mul_bd (a := n) (b := 113 * (k + j)) (A := 200) (B := 13673) (by omega) n2 (by omega) (by omega)
  have p4 := mul_bd (a := n + 2) (b := 113 * (k + j)) (A := 202) (B := 13673) (by omega) (by omega) (by omega) (by omega)
  have p5 := mul_bd (a := j) (b := iD) (A := 12) (B := 22600) (by omega) j2 (by omega) i2
  have p6 := mul_bd o3 o4 (show 0 ≤ iD by omega) i2
  have p7 := mul_bd i3 i4 (show 0 ≤ oD by omega) o2
  have p8 := mul_bd t3 t4 (show 0 ≤ iD by omega) i2
  have p9 := mul_bd p8.1 p8.2 (show 0 ≤ oD by omega) o2
  have p10 := mul_bd (a := 1 + c) (b := oD) (A := 100) (B := 22600) (by omega) (by omega) (by omega) o2
  obtain ⟨p1a, p1b⟩ := p1
  obtain ⟨p2a, p2b⟩ := p2
  obtain ⟨p3a, p3b⟩ := p3
  obtain ⟨p4a, p4b⟩ := p4
  obtain ⟨p5a, p5b⟩ := p5
  obtain ⟨p6a, p6b⟩ := p6
  obtain ⟨p7a, p7b⟩ := p7
  obtain ⟨p8a, p8b⟩ := p8
  obtain ⟨p9a, p9b⟩ := p9
  obtain ⟨p10a, p10b⟩ := p10
  have p11a : 0 ≤ (oN * iD - iN * oD) * tD := by rw [g2]; exact p9a
  have p11b : (oN * iD - iN * oD) * tD ≤ 1000000 * 22600 * 22600 := by rw [g2]; exact p9b
  have x1 : decide (lD < 1) = false := decide_eq_false (by omega)
  have x2 : decide (113 < lD) = false := decide_eq_false (by omega)
  have x3 : (lN * 113 != 355 * r * lD) = false := by simp [l5]
  have x4 : decide (n < 1) = false := decide_eq_false (by omega)
  have x5 : (n % 2 != 1) = false := by simp [n3]
  have x6 : decide (355 * r < n * (113 * (k + j))) = false := decide_eq_false (by omega)
  have x7 : decide ((n + 2) * (113 * (k + j)) ≤ 355 * r) = false := decide_eq_false (by omega)
  have x8 : decide (iD < 1) = false := decide_eq_false (by omega)
  have x9 : decide (100000 < iD) = false := decide_eq_false (by omega)
  have x10 : decide (oD < 1) = false := decide_eq_false (by omega)
  have x11 : decide (100000 < oD) = false := decide_eq_false (by omega)
  have x12 : decide (tD < 1) = false := decide_eq_false (by omega)
  have x13 : decide (100000 < tD) = false := decide_eq_false (by omega)
  have x14 : decide (1000000000 < mxI iN (mxI oN tN)) = false := decide_eq_false (by have := mxI_lt i4 (mxI_lt o4 t4); omega)
  have x15 : decide (mnI iN (mnI oN tN) < 0) = false := decide_eq_false (by have := mnI_ge i3 (mnI_ge o3 t3); omega)
  have x16 : decide (iN < j * iD) = false := decide_eq_false (by omega)
  have x17 : ((oN * iD - iN * oD) * tD != tN * iD * oD) = false := by simp [g2]
  have x18 : ∀ x y : Int, (if x < y then y else x) = mxI x y := fun _ _ => rfl
  have x19 : ∀ x y : Int, (if y < x then y else x) = mnI x y := fun _ _ => rfl
  clear e1 e2 e3 e4 e5 n3 l5 g2
  go_wp2_with fail
  refine (H1.out _).mono ?_
  rintro e3 w3 ⟨rfl, hb3⟩
  obtain ⟨hc3, hf3⟩ := bcell hb3
  have hz3 := hb3.size
  try simp at hz3
  have ha3 : Below w.heap.size w w3 := below_call (by repeat (first | exact Below.refl _ _ | assumption | refine Below.drew ?_ | refine below_drewN ?_ _ | refine Below.alloc ?_ (by first | omega | (simp; done) | (simp; omega)) _ | refine Below.setCell ?_ (by first | omega | (simp; done) | (simp; omega)) _)) hb3
  have R : Hid (w3.heap[w2.heap.size]? = some _) := blk_call (by first | (refine blk_new' _ _ ?_; simp; done) | (refine blk_alloc (blk_new' _ _ ?_); simp; done) | (refine blk_alloc (blk_alloc (blk_new' _ _ ?_)); simp; done)) hb3
  have R_0 := cellOf R.out 0
  simp at R_0
  have R_1 := cellOf R.out 1
  simp at R_1
  have R_2 := cellOf R.out 2
  simp at R_2
  have R_3 := cellOf R.out 3
  simp at R_3
  have R_lt := blk_lt R.out
  have R_le := Nat.le_of_lt R_lt
  have R_l1 := Nat.le_succ_of_le R_le
  go_wp2_with fail
  refine (H2.out _).mono ?_
  rintro e4 w4 ⟨rfl, hb4⟩
  obtain ⟨hc4, hf4⟩ := bcell hb4
  have hz4 := hb4.size
  try simp at hz4
  have ha4 : Below w.heap.size w w4 := below_call (by repeat (first | exact Below.refl _ _ | assumption | refine Below.drew ?_ | refine below_drewN ?_ _ | refine Below.alloc ?_ (by first | omega | (simp; done) | (simp; omega)) _ | refine Below.setCell ?_ (by first | omega | (simp; done) | (simp; omega)) _)) hb4
  replace R := Lib.hid (blk_call (by first | exact R.out | exact blk_alloc R.out | exact blk_alloc (blk_alloc R.out)) hb4)
  replace R_0 := cellOf R.out 0
  simp at R_0
  replace R_1 := cellOf R.out 1
  simp at R_1
  replace R_2 := cellOf R.out 2
  simp at R_2
  replace R_3 := cellOf R.out 3
  simp at R_3
  replace R_lt := blk_lt R.out
  replace R_le := Nat.le_of_lt R_lt
  replace R_l1 := Nat.le_succ_of_le R_le
  go_wp2_with fail
  refine (H3.out _).mono ?_
  rintro e5 w5 ⟨rfl, hb5⟩
  obtain ⟨hc5, hf5⟩ := bcell hb5
  have hz5 := hb5.size
  try simp at hz5
  have ha5 : Below w.heap.size w w5 := below_call (by repeat (first | exact Below.refl _ _ | assumption | refine Below.drew ?_ | refine below_drewN ?_ _ | refine Below.alloc ?_ (by first | omega | (simp; done) | (simp; omega)) _ | refine Below.setCell ?_ (by first | omega | (simp; done) | (simp; omega)) _)) hb5
  replace R := Lib.hid (blk_call (by first | exact R.out | exact blk_alloc R.out | exact blk_alloc (blk_alloc R.out)) hb5)
  replace R_0 := cellOf R.out 0
  simp at R_0
  replace R_1 := cellOf R.out 1
  simp at R_1
  replace R_2 := cellOf R.out 2
  simp at R_2
  replace R_3 := cellOf R.out 3
  simp at R_3
  replace R_lt := blk_lt R.out
  replace R_le := Nat.le_of_lt R_lt
  replace R_l1 := Nat.le_succ_of_le R_le
  have L : Hid (w5.heap[w4.heap.size]? = some _) := blk_call (by first | (refine blk_new' _ _ ?_; simp; done) | (refine blk_alloc (blk_new' _ _ ?_); simp; done) | (refine blk_alloc (blk_alloc (blk_new' _ _ ?_)); simp; done)) hb5
  have L_0 := cellOf L.out 0
  simp at L_0
  have L_1 := cellOf L.out 1
  simp at L_1
  have L_lt := blk_lt L.out
  have L_le := Nat.le_of_lt L_lt
  have L_l1 := Nat.le_succ_of_le L_le
  go_wp2_with fail
  refine (H4.out _).mono ?_
  rintro e6 w6 ⟨rfl, hb6⟩
  obtain ⟨hc6, hf6⟩ := bcell hb6
  have hz6 := hb6.size
  try simp at hz6
  have ha6 : Below w.heap.size w w6 := below_call (by repeat (first | exact Below.refl _ _ | assumption | refine Below.drew ?_ | refine below_drewN ?_ _ | refine Below.alloc ?_ (by first | omega | (simp; done) | (simp; omega)) _ | refine Below.setCell ?_ (by first | omega | (simp; done) | (simp; omega)) _)) hb6
  replace R := Lib.hid (blk_call (by first | exact R.out | exact blk_alloc R.out | exact blk_alloc (blk_alloc R.out)) hb6)
  replace R_0 := cellOf R.out 0
  simp at R_0
  replace R_1 := cellOf R.out 1
  simp at R_1
  replace R_2 := cellOf R.out 2
  simp at R_2
  replace R_3 := cellOf R.out 3
  simp at R_3
  replace R_lt := blk_lt R.out
  replace R_le := Nat.le_of_lt R_lt
  replace R_l1 := Nat.le_succ_of_le R_le
  replace L := Lib.hid (blk_call (by first | exact L.out | exact blk_alloc L.out | exact blk_alloc (blk_alloc L.out)) hb6)
  replace L_0 := cellOf L.out 0
  simp at L_0
  replace L_1 := cellOf L.out 1
  simp at L_1
  replace L_lt := blk_lt L.out
  replace L_le := Nat.le_of_lt L_lt
  replace L_l1 := Nat.le_succ_of_le L_le
  have I : Hid (w6.heap[w5.heap.size]? = some _) := blk_call (by first | (refine blk_new' _ _ ?_; simp; done) | (refine blk_alloc (blk_new' _ _ ?_); simp; done) | (refine blk_alloc (blk_alloc (blk_new' _ _ ?_)); simp; done)) hb6
  have I_0 := cellOf I.out 0
  simp at I_0
  have I_1 := cellOf I.out 1
  simp at I_1
  have I_lt := blk_lt I.out
  have I_le := Nat.le_of_lt I_lt
  have I_l1 := Nat.le_succ_of_le I_le
  have O : Hid (w6.heap[w5.heap.size + 1]? = some _) := blk_call (by first | (refine blk_new' _ _ ?_; simp; done) | (refine blk_alloc (blk_new' _ _ ?_); simp; done) | (refine blk_alloc (blk_alloc (blk_new' _ _ ?_)); simp; done)) hb6
  have O_0 := cellOf O.out 0
  simp at O_0
  have O_1 := cellOf O.out 1
  simp at O_1
  have O_lt := blk_lt O.out
  have O_le := Nat.le_of_lt O_lt
  have O_l1 := Nat.le_succ_of_le O_le
  clear hc3 hf3 hc4 hf4 hc5 hf5 hc6 hf6
  go_wp2_with fail
  refine (A0.out _ (by repeat (first | exact Below.refl _ _ | assumption | refine Below.drew ?_ | refine below_drewN ?_ _ | refine Below.alloc ?_ (by first | omega | (simp; done) | (simp; omega)) _ | refine Below.setCell ?_ (by first | omega | (simp; done) | (simp; omega)) _))).mono ?_
  rintro e7 w7 ⟨rfl, rfl⟩
  clear x18 x19
  go_wp2_with fail
  refine (H5.out _).mono ?_
  rintro e8 w8 ⟨rfl, hb8⟩
  obtain ⟨hc8, hf8⟩ := bcell hb8
  have hz8 := hb8.size
  try simp at hz8
  have ha8 : Below w.heap.size w w8 := below_call (by repeat (first | exact Below.refl _ _ | assumption | refine Below.drew ?_ | refine below_drewN ?_ _ | refine Below.alloc ?_ (by first | omega | (simp; done) | (simp; omega)) _ | refine Below.setCell ?_ (by first | omega | (simp; done) | (simp; omega)) _)) hb8
  replace O := Lib.hid (blk_call (by first | exact O.out | exact blk_alloc O.out | exact blk_alloc (blk_alloc O.out)) hb8)
  replace O_0 := cellOf O.out 0
  simp at O_0
  replace O_1 := cellOf O.out 1
  simp at O_1
  replace O_lt := blk_lt O.out
  replace O_le := Nat.le_of_lt O_lt
  replace O_l1 := Nat.le_succ_of_le O_le
  clear hc8 hf8
  go_wp2
  go_ret
  exact ⟨ret_bool (by simp), (by repeat (first | exact Below.refl _ _ | assumption | refine Below.drew ?_ | refine below_drewN ?_ _ | refine Below.alloc ?_ (by first | omega | (simp; done) | (simp; omega)) _ | refine Below.setCell ?_ (by first | omega | (simp; done) | (simp; omega)) _))⟩
/-! ### The row's step: the arguments are opened, the walk is called, the arguments read as before. -/
set_option maxRecDepth 100000 in
set_option maxHeartbeats 1000000 in
set_option linter.unusedVariables false in
theorem lifted_FnRings (os : Os) (started : os.Started) (H : Type) (enc : TypeId × Value → H) :
    ReturnsInHanded {} Try.checked os 14 .any (Rows.fnRingsSpec.pre6 enc Try.prog Try.f14 Rows.fnRingsRow.domain false) (Rows.fnRingsSpec.post enc Try.prog Try.f14 false true false false) := by
  refine returnsInHanded_of_change (C := Try.checked) ownNone started (by kernel_rfl) Try.func14
    (ChangeSpec.witness6 (enc := enc) (C := Try.checked) false ⟨#[], #[.slice none 0 0], []⟩ 8 (by kernel_rfl) (by kernel_rfl) (by kernel_rfl) (by kernel_rfl)) ?_
  intro W base args ds gs before hval0 hW hcnd _
  have hval : ∀ (j : Nat) t v, Try.f14.params[j]? = some t → args[j]? = some v → Value.okWide Try.prog W .any base t v := hval0
  have hW' := hW
  obtain ⟨p, q, hA0, hV, rfl, hfz, hnd⟩ := hW
  have hA : DataW.TrodAll enc Try.prog W 0 (fun _ => true) true Try.f14.params.toList args.toList ds p := hA0
  rw [Try.params14] at hA hval
  obtain ⟨v0, vs0, d0, ds0, p0, q0, hargs, rfl, rfl, h0, r0⟩ := trodAll_cons hA
  obtain ⟨rfl, rfl, rfl⟩ := trodAll_nil r0
  obtain rfl : args = #[v0] := by cases args; simp_all
  obtain ⟨rfl, rfl⟩ := trodVars_none hV
  have k0 := h0
  have lt0 : ∀ x ∈ p0, x.block < W.heap.size := by obtain ⟨m, hm⟩ := k0; exact DataW.trod_lt m _ _ _ hm
  obtain ⟨a0, len0, cap0, rfl⟩ := okWide_slice Try.underlying28 (hval 0 28 v0 rfl rfl)
  obtain ⟨z0, w0⟩ : ∃ zs, IsRow .u8 W a0 len0 cap0 zs := by
    obtain ⟨fuel, hf⟩ := h0
    rcases open_ints Try.underlying28 Try.underlying5 (by kernel_rfl) hf with ⟨hcs, _⟩ | ⟨x, l, c, zs, hcs, _, hl, hm, hz, _, hcell, hwz⟩
    · simp [Value.cells] at hcs
      obtain ⟨rfl, rfl, rfl⟩ := hcs
      exact ⟨[], isRow_nil⟩
    · simp [Value.cells] at hcs
      obtain ⟨rfl, rfl, rfl⟩ := hcs
      exact ⟨zs.take len0, isRow_mk hl hm (by simpa using hz) hcell hwz⟩
  clear hA0 hval0
  refine (rings_walk a0 len0 cap0 z0 W w0).mono fun e W' ⟨he, bel⟩ => ?_
  subst he
  exact ⟨_, rfl, _, _, _, [], _, [], hW', trodAll_mk1 (shut_bool Try.underlying4 _), (trodAll_cons_mk (Below.trod laidOut (by kernel_rfl) (of_decide_eq_true (by kernel_rfl)) k0 bel lt0) trodAll_mk0), rfl, bel.frame _, fun h => by cases h⟩

/-- The statement, proved. -/
theorem fnRings_holds : Rows.FnRingsSaid :=
  OpenClaim.holds_of_wide 14 Try.f14 rfl rfl rfl rfl rfl rfl rfl ⟨rfl, rfl, rfl, rfl, rfl⟩ rfl rfl rfl rfl rfl (by kernel_rfl) Try.func14 (by kernel_rfl)
    (of_decide_eq_true (by kernel_rfl)) (by unfold Func.isWrapper; first | (rw [if_pos (by decide +kernel)]; kernel_rfl) | (rw [if_neg (by decide +kernel)]; exact ⟨rfl, rfl⟩))
    (fun os started H enc _ => lifted_FnRings os started H enc)
end Go.Proofs.Ytjafjkndigchcaa
