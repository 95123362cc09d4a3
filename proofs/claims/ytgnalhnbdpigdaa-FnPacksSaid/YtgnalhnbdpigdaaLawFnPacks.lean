/- For all bytes, the law FnPacks holds: packs have enough bricks, the cheapest ones are no dearer than packs of one size, and bags hold the mortar; no condition. -/
import Derived.Test.YtgnalhnbdpigdaaPackQ
import Derived.Test.YtgnalhnbdpigdaaPackI
import Derived.Test.YtgnalhnbdpigdaaPackS
import Derived.Test.YtgnalhnbdpigdaaDrawP
import Derived.Test.YtgnalhnbdpigdaaDrawQ
import Derived.Test.YtgnalhnbdpigdaaSix
namespace Go.Proofs.Ytgnalhnbdpigdaa
open Go.ChangeShapes Go.WideShapes Go.ChangeAt Go.RowKit
set_option linter.unusedSimpArgs false
set_option linter.unusedVariables false

set_option maxRecDepth 100000 in
set_option maxHeartbeats 16000000 in
theorem packs_walk (a : Option Addr) (len cap : Nat) (zs : List Int) (w : World) (h : IsRow .u8 w a len cap zs) :
    Calls Try.prog 13 #[.slice a len cap] w fun e w' => e = .returned (.bool true) ∧ Below w.heap.size w w' := by
  have hm : len ≤ maxLen := Nat.le_trans h.2.1 h.2.2.1
  have HL := Lib.hid (fun W => f6big_any a len cap W hm)
  have H := Lib.hid h
  clear h hm
  cases hl : bigB len
  case true =>
    rw [hl] at HL
    clear hl
    go_enter Try.func13, Try.ntmps13
    go_wp2_with fail
    refine (HL.out _).mono ?_
    rintro e w1 ⟨rfl, rfl⟩
    go_wp2
    go_ret
    exact ⟨rfl, (by repeat (first | exact Below.refl _ _ | assumption | refine Below.drew ?_ | refine below_drewN ?_ _ | refine Below.alloc ?_ (by first | omega | (simp; done) | (simp; omega)) _ | refine Below.setCell ?_ (by first | omega | (simp; done) | (simp; omega)) _))⟩
  case false =>
    rw [hl] at HL
    clear hl
    go_enter Try.func13, Try.ntmps13
    go_wp2_with fail
    refine (HL.out _).mono ?_
    rintro e w1 ⟨rfl, rfl⟩
    go_wp2_with fail
    refine (drawCheapestPacks_any _ _ _ _ _ H.out).mono ?_
    rintro e w2 ⟨a1, n1, c1, S, a2, n2, c2, P, B, rfl, hS, hP, hb2⟩
    have HH := Lib.hid (H.out.below hb2)
    have HK1 := Lib.hid (fun W hW hW' => cheapestPacks_any a1 n1 c1 S a2 n2 c2 P B W hW hW')
    have HK2 := Lib.hid (fun W hW hW' => specCheapestPacks_any a1 n1 c1 S a2 n2 c2 P B W hW hW')
    have HT := Lib.hid (pk_told (B := B) hS.1 hP.1)
    generalize pkC S P B = C at *
    generalize pkI S P B = M at *
    clear H
    go_wp2_with fail
    refine (HK1.out _ hS hP).mono ?_
    rintro e w3 ⟨a3, c3, rfl, hM3, hb3⟩
    have hb3' := below_call hb2 hb3
    have HS3 := Lib.hid (hS.below hb3)
    have HP3 := Lib.hid (hP.below hb3)
    have HH3 := Lib.hid (HH.out.below hb3)
    have HM3 := Lib.hid hM3.row
    clear hS hP HH hM3 hb3 hb2
    go_wp2_with fail
    refine (HK2.out _ HS3.out HP3.out).mono ?_
    rintro e w4 ⟨a4, c4, rfl, hM4, hb4⟩
    have hb4' := below_call hb3' hb4
    have HS4 := Lib.hid (HS3.out.below hb4)
    have HP4 := Lib.hid (HP3.out.below hb4)
    have HH4 := Lib.hid (HH3.out.below hb4)
    have HM4 := Lib.hid (HM3.out.below hb4)
    have HK4 := Lib.hid hM4.row
    clear HS3 HP3 HH3 HM3 hM4 hb4 hb3'
    go_wp2_with fail
    refine (drawPacksFor_any _ _ _ _ _ HH4.out).mono ?_
    rintro e w5 ⟨x, y, rfl, hb5⟩
    have hb5' := below_call hb4' hb5
    have HS5 := Lib.hid (HS4.out.below hb5)
    have HP5 := Lib.hid (HP4.out.below hb5)
    have HH5 := Lib.hid (HH4.out.below hb5)
    have HM5 := Lib.hid (HM4.out.below hb5)
    have HK5 := Lib.hid (HK4.out.below hb5)
    clear HS4 HP4 HH4 HM4 HK4 hb5 hb4'
    have HPF := Lib.hid (fun W => packsFor_any x y W)
    have HPG := Lib.hid (fun W => specPacksFor_any x y W)
    have HPC := Lib.hid (packs_cases x y)
    generalize packsI x y = pk at *
    obtain ⟨q1, q2, q3⟩ := pk
    go_wp2_with fail
    refine (HPF.out _).mono ?_
    rintro e w6 ⟨rfl, rfl⟩
    go_wp2_with fail
    refine (HPG.out _).mono ?_
    rintro e w6 ⟨rfl, rfl⟩
    clear HPF HPG
    go_wp2_with fail
    refine (drawBagsFor_any _ _ _ _ _ HH5.out).mono ?_
    rintro e w6 ⟨u, v, t, rfl, hb6⟩
    have hb6' := below_call hb5' hb6
    have HS6 := Lib.hid (HS5.out.below hb6)
    have HP6 := Lib.hid (HP5.out.below hb6)
    have HM6 := Lib.hid (HM5.out.below hb6)
    have HK6 := Lib.hid (HK5.out.below hb6)
    clear HS5 HP5 HH5 HM5 HK5 hb6 hb5'
    have HBF := Lib.hid (fun W => bagsFor_any u v t W)
    have HBG := Lib.hid (fun W => specBagsFor_any u v t W)
    have HBC := Lib.hid (bags_cases u v t)
    generalize bagsI u v t = bk at *
    obtain ⟨r1, r2⟩ := bk
    have hz6 := hb6'.size
    go_wp2_with fail
    refine (HBF.out _).mono ?_
    rintro e w7 ⟨rfl, hb7⟩
    have F7 := Lib.hid (blk_call (blk_new w6 _) hb7)
    have hb7a : Below w6.heap.size w6 w7 := below_call (by repeat (first | exact Below.refl _ _ | assumption | refine Below.drew ?_ | refine below_drewN ?_ _ | refine Below.alloc ?_ (by first | omega | (simp; done) | (simp; omega)) _ | refine Below.setCell ?_ (by first | omega | (simp; done) | (simp; omega)) _)) hb7
    have hb7' := below_call hb6' hb7a
    have HS7 := Lib.hid (HS6.out.below hb7a)
    have HP7 := Lib.hid (HP6.out.below hb7a)
    have HM7 := Lib.hid (HM6.out.below hb7a)
    have HK7 := Lib.hid (HK6.out.below hb7a)
    clear HS6 HP6 HM6 HK6 hb7 hb6' hb7a
    have f0 := cellOf F7.out 0
    have f1 := cellOf F7.out 1
    simp at f0 f1
    go_wp2_with fail
    clear f0 f1
    refine (HBG.out _).mono ?_
    rintro e w8 ⟨rfl, hb8⟩
    have F8 := Lib.hid (blk_call F7.out hb8)
    have hb8' := below_call hb7' hb8
    have HS8 := Lib.hid (HS7.out.below hb8)
    have HP8 := Lib.hid (HP7.out.below hb8)
    have HM8 := Lib.hid (HM7.out.below hb8)
    have HK8 := Lib.hid (HK7.out.below hb8)
    clear HS7 HP7 HM7 HK7 hb8 hb7' F7 HBF HBG
    go_wp2_with fail
    refine (f6ints_same _ _ _ _ _ M _ HM8.out HK8.out).mono ?_
    rintro e w9 ⟨rfl, hb9⟩
    have F9 := Lib.hid (blk_call F8.out hb9)
    have hb9' := below_call hb8' hb9
    have HS9 := Lib.hid (HS8.out.below hb9)
    have HP9 := Lib.hid (HP8.out.below hb9)
    have HK9 := Lib.hid (HK8.out.below hb9)
    clear HS8 HP8 HM8 HK8 hb9 hb8' F8
    have f0 := cellOf F9.out 0
    have f1 := cellOf F9.out 1
    simp at f0 f1
    rcases HPC.out with ⟨k, l, he, k1, k2, k3, k4, k5, k6, k7, k8, k9⟩ | he
    · obtain ⟨rfl, rfl, rfl⟩ : q1 = k ∧ q2 = l ∧ q3 = 0 := by simpa using he
      have m0 : 0 ≤ q1 * y ∧ q1 * y ≤ 2000000 := by omega
      have x1 : (q1 * y != x + q2) = false := by simp [k1]
      have x2 : decide (q2 < 0) = false := decide_eq_false (by omega)
      have x3 : decide (y ≤ q2) = false := decide_eq_false (by omega)
      clear he k1 HPC
      rcases HBC.out with ⟨k, he, g1, g2, g3, g4, g5, g6, g7, g8, g9, g10, ⟨rfl⟩ | ⟨g11, g12, g13, g14, g15⟩⟩ | he
      · obtain ⟨rfl, rfl⟩ : r1 = 0 ∧ r2 = 0 := by simpa using he
        clear he HBC
        have z4 : decide (0 < u) = false := decide_eq_false (by omega)
        rcases HT.out with ⟨rfl, T⟩ | rfl
        · clear HT HK1 HK2 HL
          go_wp2_with fail
          have HT := Lib.hid T
          have t1 := T.len
          have t2 := T.n5
          have hM9 : M.length ≤ 5 := by omega
          have HML := Lib.hid t1
          clear T f0 f1 t1
          go_loopw [24, 25, 26] (fun s c i wr => ∃ k : Nat, k ≤ M.length ∧ i = .int .i64 (k : Int) ∧ s = .int .i64 (pks M S k) ∧ c = .int .i64 (pks M P k) ∧ Below w9.heap.size w9 wr) (fun _ _ i _ => (M.length - intOf i).toNat)
          case atStart => exact ⟨0, by omega, rfl, rfl, rfl, Below.refl _ _⟩
          case round =>
            obtain ⟨k, hk, rfl, rfl, rfl, hB⟩ := hrel
            by_cases hlt : k < M.length
            · have hltI : (k : Int) < (M.length : Int) := by omega
              obtain ⟨bm, om, rfl, _, hcm⟩ := (HK9.out.below hB).cell hlt
              obtain ⟨bs, os, rfl, _, hcs⟩ := (HS9.out.below hB).cell (show k < n1 by have := HML.out; omega)
              obtain ⟨bp, op, rfl, _, hcp⟩ := (HP9.out.below hB).cell (show k < n2 by have := HML.out; have := HT.out.len'; omega)
              have hk1 : (k : Int) < (n1 : Int) := by have := HML.out; omega
              have hk2 : (k : Int) < (n2 : Int) := by have := HML.out; have := HT.out.len'; omega
              obtain ⟨z1, z2⟩ := HT.out.m k
              obtain ⟨z3, z4⟩ := HT.out.s k (by have := HML.out; omega)
              obtain ⟨z5, z6⟩ := HT.out.p k (by have := HML.out; omega)
              obtain ⟨z7, z8⟩ := HT.out.sum k (by have := HML.out; omega)
              obtain ⟨z9, z10⟩ := HT.out.cost k (by have := HML.out; omega)
              obtain ⟨z11, z12⟩ := mul_bd (a := M.getD k 0) (b := S.getD k 0) (A := 3000) (B := 1000) z1 z2 (by omega) z4
              obtain ⟨z13, z14⟩ := mul_bd (a := M.getD k 0) (b := P.getD k 0) (A := 3000) (B := 100000) z1 z2 (by omega) z6
              have HS1 := Lib.hid (show pks M S (k + 1) = pks M S k + M.getD k 0 * S.getD k 0 from rfl)
              have HS2 := Lib.hid (show pks M P (k + 1) = pks M P k + M.getD k 0 * P.getD k 0 from rfl)
              have z0 : ¬ M.getD k 0 < 0 := by omega
              generalize M.getD k 0 = m at *
              generalize S.getD k 0 = s at *
              generalize P.getD k 0 = p at *
              generalize pks M S k = A at *
              generalize pks M P k = D at *
              go_wp2_with fail
              go_quiet (fail)
              go_wp2_with fail
              go_quiet (fail)
              go_wp2
              go_roundw
              case rel => exact ⟨k + 1, by omega, by go_num, by rw [HS1.out], by rw [HS2.out], by repeat (first | assumption | refine below_drewN ?_ _ | refine Below.drew ?_)⟩
              case measure => first | (simp [intOf]; done) | (simp [intOf]; omega)
            · have hk' : ¬ (k : Int) < (M.length : Int) := by omega
              have hkn : k = n1 := by have := HML.out; omega
              have HSk : Hid (pks M S k = pks M S n1) := Lib.hid (by rw [hkn])
              have HPk : Hid (pks M P k = pks M P n1) := Lib.hid (by rw [hkn])
              obtain ⟨wo, rfl⟩ : ∃ wo : World, wo = wr := ⟨_, rfl⟩
              have HSo := Lib.hid (HS9.out.below hB)
              have HPo := Lib.hid (HP9.out.below hB)
              have hbo := Lib.hid (below_call hb9' hB)
              clear hkn hb9' HS9 HP9 HK9 F9 hB
              obtain ⟨z9, z10⟩ := HT.out.cost n1 (Nat.le_refl _)
              have HEN := Lib.hid HT.out.enough
              rw [HSk.out, HPk.out]
              go_wp2_with fail
              go_loopw [27] (fun i wr => ∃ k : Nat, k ≤ n1 ∧ i = .int .i64 (k : Int) ∧ Below wo.heap.size wo wr) (fun i _ => (n1 - intOf i).toNat)
              case atStart => exact ⟨0, by omega, rfl, Below.refl _ _⟩
              case round =>
                obtain ⟨q, hq, rfl, hB⟩ := hrel
                by_cases hlq : q < n1
                · have hlqI : (q : Int) < (n1 : Int) := by omega
                  have hlq2 : (q : Int) < (n2 : Int) := by have := HT.out.len'; omega
                  obtain ⟨bs, os, rfl, _, hcs⟩ := (HSo.out.below hB).cell hlq
                  obtain ⟨bp, op, rfl, _, hcp⟩ := (HPo.out.below hB).cell (show q < n2 by omega)
                  obtain ⟨K, L, he, j1, j2, j3⟩ := HT.out.single q hlq
                  obtain ⟨j4, j5⟩ := HT.out.p q hlq
                  have HPK := Lib.hid (fun W => packsFor_any B (S.getD q 0) W)
                  rw [he] at HPK
                  obtain ⟨j6, j7⟩ := mul_bd (a := K) (b := P.getD q 0) (A := 3000) (B := 100000) j1 j2 (by omega) j5
                  have x7 : decide (K * P.getD q 0 < pks M P n1) = false := decide_eq_false (by omega)
                  clear he j3
                  generalize S.getD q 0 = s at *
                  generalize P.getD q 0 = p at *
                  generalize pks M P n1 = D at *
                  go_wp2_with fail
                  refine (HPK.out _).mono ?_
                  rintro e wx ⟨rfl, rfl⟩
                  clear HPK
                  go_wp2
                  go_roundw
                  case rel => exact ⟨q + 1, by omega, by go_num, hB⟩
                  case measure => first | (simp [intOf]; done) | (simp [intOf]; omega)
                · have hq' : ¬ (q : Int) < (n1 : Int) := by omega
                  have x8 : decide (B ≤ pks M S n1) = true := decide_eq_true HEN.out
                  generalize pks M S n1 = A at *
                  go_wp2
                  go_ret
                  exact ⟨ret_bool (by simp [x8]), below_call hbo.out hB⟩
        · clear HT
          go_wp2_with fail
          go_ret
          exact ⟨rfl, (by repeat (first | exact Below.refl _ _ | assumption | refine Below.drew ?_ | refine below_drewN ?_ _ | refine Below.alloc ?_ (by first | omega | (simp; done) | (simp; omega)) _ | refine Below.setCell ?_ (by first | omega | (simp; done) | (simp; omega)) _))⟩
      · obtain ⟨rfl, rfl⟩ : r1 = k ∧ r2 = 0 := by simpa using he
        have x4 : decide (r1 * t * v < u) = false := decide_eq_false (by omega)
        have x5 : decide (0 < r1) = true := decide_eq_true (by omega)
        have x6 : decide (u ≤ (r1 - 1) * t * v) = false := decide_eq_false (by omega)
        have y0 : r1 ≤ 2000000000000 := Int.le_trans (by have := Int.mul_le_mul_of_nonneg_left g7 g3; omega) g4
        have y1 : 0 ≤ r1 * t := Int.mul_nonneg (by omega) (by omega)
        have y2 : 0 ≤ r1 * t * v := Int.mul_nonneg y1 (by omega)
        clear he HBC
        rcases HT.out with ⟨rfl, T⟩ | rfl
        · clear HT HK1 HK2 HL
          go_wp2_with fail
          have HT := Lib.hid T
          have t1 := T.len
          have t2 := T.n5
          have hM9 : M.length ≤ 5 := by omega
          have HML := Lib.hid t1
          clear T f0 f1 t1
          go_loopw [24, 25, 26] (fun s c i wr => ∃ k : Nat, k ≤ M.length ∧ i = .int .i64 (k : Int) ∧ s = .int .i64 (pks M S k) ∧ c = .int .i64 (pks M P k) ∧ Below w9.heap.size w9 wr) (fun _ _ i _ => (M.length - intOf i).toNat)
          case atStart => exact ⟨0, by omega, rfl, rfl, rfl, Below.refl _ _⟩
          case round =>
            obtain ⟨k, hk, rfl, rfl, rfl, hB⟩ := hrel
            by_cases hlt : k < M.length
            · have hltI : (k : Int) < (M.length : Int) := by omega
              obtain ⟨bm, om, rfl, _, hcm⟩ := (HK9.out.below hB).cell hlt
              obtain ⟨bs, os, rfl, _, hcs⟩ := (HS9.out.below hB).cell (show k < n1 by have := HML.out; omega)
              obtain ⟨bp, op, rfl, _, hcp⟩ := (HP9.out.below hB).cell (show k < n2 by have := HML.out; have := HT.out.len'; omega)
              have hk1 : (k : Int) < (n1 : Int) := by have := HML.out; omega
              have hk2 : (k : Int) < (n2 : Int) := by have := HML.out; have := HT.out.len'; omega
              obtain ⟨z1, z2⟩ := HT.out.m k
              obtain ⟨z3, z4⟩ := HT.out.s k (by have := HML.out; omega)
              obtain ⟨z5, z6⟩ := HT.out.p k (by have := HML.out; omega)
              obtain ⟨z7, z8⟩ := HT.out.sum k (by have := HML.out; omega)
              obtain ⟨z9, z10⟩ := HT.out.cost k (by have := HML.out; omega)
              obtain ⟨z11, z12⟩ := mul_bd (a := M.getD k 0) (b := S.getD k 0) (A := 3000) (B := 1000) z1 z2 (by omega) z4
              obtain ⟨z13, z14⟩ := mul_bd (a := M.getD k 0) (b := P.getD k 0) (A := 3000) (B := 100000) z1 z2 (by omega) z6
              have HS1 := Lib.hid (show pks M S (k + 1) = pks M S k + M.getD k 0 * S.getD k 0 from rfl)
              have HS2 := Lib.hid (show pks M P (k + 1) = pks M P k + M.getD k 0 * P.getD k 0 from rfl)
              have z0 : ¬ M.getD k 0 < 0 := by omega
              generalize M.getD k 0 = m at *
              generalize S.getD k 0 = s at *
              generalize P.getD k 0 = p at *
              generalize pks M S k = A at *
              generalize pks M P k = D at *
              go_wp2_with fail
              go_quiet (fail)
              go_wp2_with fail
              go_quiet (fail)
              go_wp2
              go_roundw
              case rel => exact ⟨k + 1, by omega, by go_num, by rw [HS1.out], by rw [HS2.out], by repeat (first | assumption | refine below_drewN ?_ _ | refine Below.drew ?_)⟩
              case measure => first | (simp [intOf]; done) | (simp [intOf]; omega)
            · have hk' : ¬ (k : Int) < (M.length : Int) := by omega
              have hkn : k = n1 := by have := HML.out; omega
              have HSk : Hid (pks M S k = pks M S n1) := Lib.hid (by rw [hkn])
              have HPk : Hid (pks M P k = pks M P n1) := Lib.hid (by rw [hkn])
              obtain ⟨wo, rfl⟩ : ∃ wo : World, wo = wr := ⟨_, rfl⟩
              have HSo := Lib.hid (HS9.out.below hB)
              have HPo := Lib.hid (HP9.out.below hB)
              have hbo := Lib.hid (below_call hb9' hB)
              clear hkn hb9' HS9 HP9 HK9 F9 hB
              obtain ⟨z9, z10⟩ := HT.out.cost n1 (Nat.le_refl _)
              have HEN := Lib.hid HT.out.enough
              rw [HSk.out, HPk.out]
              go_wp2_with fail
              go_loopw [27] (fun i wr => ∃ k : Nat, k ≤ n1 ∧ i = .int .i64 (k : Int) ∧ Below wo.heap.size wo wr) (fun i _ => (n1 - intOf i).toNat)
              case atStart => exact ⟨0, by omega, rfl, Below.refl _ _⟩
              case round =>
                obtain ⟨q, hq, rfl, hB⟩ := hrel
                by_cases hlq : q < n1
                · have hlqI : (q : Int) < (n1 : Int) := by omega
                  have hlq2 : (q : Int) < (n2 : Int) := by have := HT.out.len'; omega
                  obtain ⟨bs, os, rfl, _, hcs⟩ := (HSo.out.below hB).cell hlq
                  obtain ⟨bp, op, rfl, _, hcp⟩ := (HPo.out.below hB).cell (show q < n2 by omega)
                  obtain ⟨K, L, he, j1, j2, j3⟩ := HT.out.single q hlq
                  obtain ⟨j4, j5⟩ := HT.out.p q hlq
                  have HPK := Lib.hid (fun W => packsFor_any B (S.getD q 0) W)
                  rw [he] at HPK
                  obtain ⟨j6, j7⟩ := mul_bd (a := K) (b := P.getD q 0) (A := 3000) (B := 100000) j1 j2 (by omega) j5
                  have x7 : decide (K * P.getD q 0 < pks M P n1) = false := decide_eq_false (by omega)
                  clear he j3
                  generalize S.getD q 0 = s at *
                  generalize P.getD q 0 = p at *
                  generalize pks M P n1 = D at *
                  go_wp2_with fail
                  refine (HPK.out _).mono ?_
                  rintro e wx ⟨rfl, rfl⟩
                  clear HPK
                  go_wp2
                  go_roundw
                  case rel => exact ⟨q + 1, by omega, by go_num, hB⟩
                  case measure => first | (simp [intOf]; done) | (simp [intOf]; omega)
                · have hq' : ¬ (q : Int) < (n1 : Int) := by omega
                  have x8 : decide (B ≤ pks M S n1) = true := decide_eq_true HEN.out
                  generalize pks M S n1 = A at *
                  go_wp2
                  go_ret
                  exact ⟨ret_bool (by simp [x8]), below_call hbo.out hB⟩
        · clear HT
          go_wp2_with fail
          go_ret
          exact ⟨rfl, (by repeat (first | exact Below.refl _ _ | assumption | refine Below.drew ?_ | refine below_drewN ?_ _ | refine Below.alloc ?_ (by first | omega | (simp; done) | (simp; omega)) _ | refine Below.setCell ?_ (by first | omega | (simp; done) | (simp; omega)) _))⟩
      · obtain ⟨rfl, rfl⟩ : r1 = 0 ∧ r2 = 2 := by simpa using he
        clear he HBC
        rcases HT.out with ⟨rfl, T⟩ | rfl
        · clear HT HK1 HK2 HL
          go_wp2_with fail
          have HT := Lib.hid T
          have t1 := T.len
          have t2 := T.n5
          have hM9 : M.length ≤ 5 := by omega
          have HML := Lib.hid t1
          clear T f0 f1 t1
          go_loopw [24, 25, 26] (fun s c i wr => ∃ k : Nat, k ≤ M.length ∧ i = .int .i64 (k : Int) ∧ s = .int .i64 (pks M S k) ∧ c = .int .i64 (pks M P k) ∧ Below w9.heap.size w9 wr) (fun _ _ i _ => (M.length - intOf i).toNat)
          case atStart => exact ⟨0, by omega, rfl, rfl, rfl, Below.refl _ _⟩
          case round =>
            obtain ⟨k, hk, rfl, rfl, rfl, hB⟩ := hrel
            by_cases hlt : k < M.length
            · have hltI : (k : Int) < (M.length : Int) := by omega
              obtain ⟨bm, om, rfl, _, hcm⟩ := (HK9.out.below hB).cell hlt
              obtain ⟨bs, os, rfl, _, hcs⟩ := (HS9.out.below hB).cell (show k < n1 by have := HML.out; omega)
              obtain ⟨bp, op, rfl, _, hcp⟩ := (HP9.out.below hB).cell (show k < n2 by have := HML.out; have := HT.out.len'; omega)
              have hk1 : (k : Int) < (n1 : Int) := by have := HML.out; omega
              have hk2 : (k : Int) < (n2 : Int) := by have := HML.out; have := HT.out.len'; omega
              obtain ⟨z1, z2⟩ := HT.out.m k
              obtain ⟨z3, z4⟩ := HT.out.s k (by have := HML.out; omega)
              obtain ⟨z5, z6⟩ := HT.out.p k (by have := HML.out; omega)
              obtain ⟨z7, z8⟩ := HT.out.sum k (by have := HML.out; omega)
              obtain ⟨z9, z10⟩ := HT.out.cost k (by have := HML.out; omega)
              obtain ⟨z11, z12⟩ := mul_bd (a := M.getD k 0) (b := S.getD k 0) (A := 3000) (B := 1000) z1 z2 (by omega) z4
              obtain ⟨z13, z14⟩ := mul_bd (a := M.getD k 0) (b := P.getD k 0) (A := 3000) (B := 100000) z1 z2 (by omega) z6
              have HS1 := Lib.hid (show pks M S (k + 1) = pks M S k + M.getD k 0 * S.getD k 0 from rfl)
              have HS2 := Lib.hid (show pks M P (k + 1) = pks M P k + M.getD k 0 * P.getD k 0 from rfl)
              have z0 : ¬ M.getD k 0 < 0 := by omega
              generalize M.getD k 0 = m at *
              generalize S.getD k 0 = s at *
              generalize P.getD k 0 = p at *
              generalize pks M S k = A at *
              generalize pks M P k = D at *
              go_wp2_with fail
              go_quiet (fail)
              go_wp2_with fail
              go_quiet (fail)
              go_wp2
              go_roundw
              case rel => exact ⟨k + 1, by omega, by go_num, by rw [HS1.out], by rw [HS2.out], by repeat (first | assumption | refine below_drewN ?_ _ | refine Below.drew ?_)⟩
              case measure => first | (simp [intOf]; done) | (simp [intOf]; omega)
            · have hk' : ¬ (k : Int) < (M.length : Int) := by omega
              have hkn : k = n1 := by have := HML.out; omega
              have HSk : Hid (pks M S k = pks M S n1) := Lib.hid (by rw [hkn])
              have HPk : Hid (pks M P k = pks M P n1) := Lib.hid (by rw [hkn])
              obtain ⟨wo, rfl⟩ : ∃ wo : World, wo = wr := ⟨_, rfl⟩
              have HSo := Lib.hid (HS9.out.below hB)
              have HPo := Lib.hid (HP9.out.below hB)
              have hbo := Lib.hid (below_call hb9' hB)
              clear hkn hb9' HS9 HP9 HK9 F9 hB
              obtain ⟨z9, z10⟩ := HT.out.cost n1 (Nat.le_refl _)
              have HEN := Lib.hid HT.out.enough
              rw [HSk.out, HPk.out]
              go_wp2_with fail
              go_loopw [27] (fun i wr => ∃ k : Nat, k ≤ n1 ∧ i = .int .i64 (k : Int) ∧ Below wo.heap.size wo wr) (fun i _ => (n1 - intOf i).toNat)
              case atStart => exact ⟨0, by omega, rfl, Below.refl _ _⟩
              case round =>
                obtain ⟨q, hq, rfl, hB⟩ := hrel
                by_cases hlq : q < n1
                · have hlqI : (q : Int) < (n1 : Int) := by omega
                  have hlq2 : (q : Int) < (n2 : Int) := by have := HT.out.len'; omega
                  obtain ⟨bs, os, rfl, _, hcs⟩ := (HSo.out.below hB).cell hlq
                  obtain ⟨bp, op, rfl, _, hcp⟩ := (HPo.out.below hB).cell (show q < n2 by omega)
                  obtain ⟨K, L, he, j1, j2, j3⟩ := HT.out.single q hlq
                  obtain ⟨j4, j5⟩ := HT.out.p q hlq
                  have HPK := Lib.hid (fun W => packsFor_any B (S.getD q 0) W)
                  rw [he] at HPK
                  obtain ⟨j6, j7⟩ := mul_bd (a := K) (b := P.getD q 0) (A := 3000) (B := 100000) j1 j2 (by omega) j5
                  have x7 : decide (K * P.getD q 0 < pks M P n1) = false := decide_eq_false (by omega)
                  clear he j3
                  generalize S.getD q 0 = s at *
                  generalize P.getD q 0 = p at *
                  generalize pks M P n1 = D at *
                  go_wp2_with fail
                  refine (HPK.out _).mono ?_
                  rintro e wx ⟨rfl, rfl⟩
                  clear HPK
                  go_wp2
                  go_roundw
                  case rel => exact ⟨q + 1, by omega, by go_num, hB⟩
                  case measure => first | (simp [intOf]; done) | (simp [intOf]; omega)
                · have hq' : ¬ (q : Int) < (n1 : Int) := by omega
                  have x8 : decide (B ≤ pks M S n1) = true := decide_eq_true HEN.out
                  generalize pks M S n1 = A at *
                  go_wp2
                  go_ret
                  exact ⟨ret_bool (by simp [x8]), below_call hbo.out hB⟩
        · clear HT
          go_wp2_with fail
          go_ret
          exact ⟨rfl, (by repeat (first | exact Below.refl _ _ | assumption | refine Below.drew ?_ | refine below_drewN ?_ _ | refine Below.alloc ?_ (by first | omega | (simp; done) | (simp; omega)) _ | refine Below.setCell ?_ (by first | omega | (simp; done) | (simp; omega)) _))⟩
    · obtain ⟨rfl, rfl, rfl⟩ : q1 = 0 ∧ q2 = 0 ∧ q3 = 2 := by simpa using he
      clear he HPC
      rcases HBC.out with ⟨k, he, g1, g2, g3, g4, g5, g6, g7, g8, g9, g10, ⟨rfl⟩ | ⟨g11, g12, g13, g14, g15⟩⟩ | he
      · obtain ⟨rfl, rfl⟩ : r1 = 0 ∧ r2 = 0 := by simpa using he
        clear he HBC
        have z4 : decide (0 < u) = false := decide_eq_false (by omega)
        rcases HT.out with ⟨rfl, T⟩ | rfl
        · clear HT HK1 HK2 HL
          go_wp2_with fail
          have HT := Lib.hid T
          have t1 := T.len
          have t2 := T.n5
          have hM9 : M.length ≤ 5 := by omega
          have HML := Lib.hid t1
          clear T f0 f1 t1
          go_loopw [24, 25, 26] (fun s c i wr => ∃ k : Nat, k ≤ M.length ∧ i = .int .i64 (k : Int) ∧ s = .int .i64 (pks M S k) ∧ c = .int .i64 (pks M P k) ∧ Below w9.heap.size w9 wr) (fun _ _ i _ => (M.length - intOf i).toNat)
          case atStart => exact ⟨0, by omega, rfl, rfl, rfl, Below.refl _ _⟩
          case round =>
            obtain ⟨k, hk, rfl, rfl, rfl, hB⟩ := hrel
            by_cases hlt : k < M.length
            · have hltI : (k : Int) < (M.length : Int) := by omega
              obtain ⟨bm, om, rfl, _, hcm⟩ := (HK9.out.below hB).cell hlt
              obtain ⟨bs, os, rfl, _, hcs⟩ := (HS9.out.below hB).cell (show k < n1 by have := HML.out; omega)
              obtain ⟨bp, op, rfl, _, hcp⟩ := (HP9.out.below hB).cell (show k < n2 by have := HML.out; have := HT.out.len'; omega)
              have hk1 : (k : Int) < (n1 : Int) := by have := HML.out; omega
              have hk2 : (k : Int) < (n2 : Int) := by have := HML.out; have := HT.out.len'; omega
              obtain ⟨z1, z2⟩ := HT.out.m k
              obtain ⟨z3, z4⟩ := HT.out.s k (by have := HML.out; omega)
              obtain ⟨z5, z6⟩ := HT.out.p k (by have := HML.out; omega)
              obtain ⟨z7, z8⟩ := HT.out.sum k (by have := HML.out; omega)
              obtain ⟨z9, z10⟩ := HT.out.cost k (by have := HML.out; omega)
              obtain ⟨z11, z12⟩ := mul_bd (a := M.getD k 0) (b := S.getD k 0) (A := 3000) (B := 1000) z1 z2 (by omega) z4
              obtain ⟨z13, z14⟩ := mul_bd (a := M.getD k 0) (b := P.getD k 0) (A := 3000) (B := 100000) z1 z2 (by omega) z6
              have HS1 := Lib.hid (show pks M S (k + 1) = pks M S k + M.getD k 0 * S.getD k 0 from rfl)
              have HS2 := Lib.hid (show pks M P (k + 1) = pks M P k + M.getD k 0 * P.getD k 0 from rfl)
              have z0 : ¬ M.getD k 0 < 0 := by omega
              generalize M.getD k 0 = m at *
              generalize S.getD k 0 = s at *
              generalize P.getD k 0 = p at *
              generalize pks M S k = A at *
              generalize pks M P k = D at *
              go_wp2_with fail
              go_quiet (fail)
              go_wp2_with fail
              go_quiet (fail)
              go_wp2
              go_roundw
              case rel => exact ⟨k + 1, by omega, by go_num, by rw [HS1.out], by rw [HS2.out], by repeat (first | assumption | refine below_drewN ?_ _ | refine Below.drew ?_)⟩
              case measure => first | (simp [intOf]; done) | (simp [intOf]; omega)
            · have hk' : ¬ (k : Int) < (M.length : Int) := by omega
              have hkn : k = n1 := by have := HML.out; omega
              have HSk : Hid (pks M S k = pks M S n1) := Lib.hid (by rw [hkn])
              have HPk : Hid (pks M P k = pks M P n1) := Lib.hid (by rw [hkn])
              obtain ⟨wo, rfl⟩ : ∃ wo : World, wo = wr := ⟨_, rfl⟩
              have HSo := Lib.hid (HS9.out.below hB)
              have HPo := Lib.hid (HP9.out.below hB)
              have hbo := Lib.hid (below_call hb9' hB)
              clear hkn hb9' HS9 HP9 HK9 F9 hB
              obtain ⟨z9, z10⟩ := HT.out.cost n1 (Nat.le_refl _)
              have HEN := Lib.hid HT.out.enough
              rw [HSk.out, HPk.out]
              go_wp2_with fail
              go_loopw [27] (fun i wr => ∃ k : Nat, k ≤ n1 ∧ i = .int .i64 (k : Int) ∧ Below wo.heap.size wo wr) (fun i _ => (n1 - intOf i).toNat)
              case atStart => exact ⟨0, by omega, rfl, Below.refl _ _⟩
              case round =>
                obtain ⟨q, hq, rfl, hB⟩ := hrel
                by_cases hlq : q < n1
                · have hlqI : (q : Int) < (n1 : Int) := by omega
                  have hlq2 : (q : Int) < (n2 : Int) := by have := HT.out.len'; omega
                  obtain ⟨bs, os, rfl, _, hcs⟩ := (HSo.out.below hB).cell hlq
                  obtain ⟨bp, op, rfl, _, hcp⟩ := (HPo.out.below hB).cell (show q < n2 by omega)
                  obtain ⟨K, L, he, j1, j2, j3⟩ := HT.out.single q hlq
                  obtain ⟨j4, j5⟩ := HT.out.p q hlq
                  have HPK := Lib.hid (fun W => packsFor_any B (S.getD q 0) W)
                  rw [he] at HPK
                  obtain ⟨j6, j7⟩ := mul_bd (a := K) (b := P.getD q 0) (A := 3000) (B := 100000) j1 j2 (by omega) j5
                  have x7 : decide (K * P.getD q 0 < pks M P n1) = false := decide_eq_false (by omega)
                  clear he j3
                  generalize S.getD q 0 = s at *
                  generalize P.getD q 0 = p at *
                  generalize pks M P n1 = D at *
                  go_wp2_with fail
                  refine (HPK.out _).mono ?_
                  rintro e wx ⟨rfl, rfl⟩
                  clear HPK
                  go_wp2
                  go_roundw
                  case rel => exact ⟨q + 1, by omega, by go_num, hB⟩
                  case measure => first | (simp [intOf]; done) | (simp [intOf]; omega)
                · have hq' : ¬ (q : Int) < (n1 : Int) := by omega
                  have x8 : decide (B ≤ pks M S n1) = true := decide_eq_true HEN.out
                  generalize pks M S n1 = A at *
                  go_wp2
                  go_ret
                  exact ⟨ret_bool (by simp [x8]), below_call hbo.out hB⟩
        · clear HT
          go_wp2_with fail
          go_ret
          exact ⟨rfl, (by repeat (first | exact Below.refl _ _ | assumption | refine Below.drew ?_ | refine below_drewN ?_ _ | refine Below.alloc ?_ (by first | omega | (simp; done) | (simp; omega)) _ | refine Below.setCell ?_ (by first | omega | (simp; done) | (simp; omega)) _))⟩
      · obtain ⟨rfl, rfl⟩ : r1 = k ∧ r2 = 0 := by simpa using he
        have x4 : decide (r1 * t * v < u) = false := decide_eq_false (by omega)
        have x5 : decide (0 < r1) = true := decide_eq_true (by omega)
        have x6 : decide (u ≤ (r1 - 1) * t * v) = false := decide_eq_false (by omega)
        have y0 : r1 ≤ 2000000000000 := Int.le_trans (by have := Int.mul_le_mul_of_nonneg_left g7 g3; omega) g4
        have y1 : 0 ≤ r1 * t := Int.mul_nonneg (by omega) (by omega)
        have y2 : 0 ≤ r1 * t * v := Int.mul_nonneg y1 (by omega)
        clear he HBC
        rcases HT.out with ⟨rfl, T⟩ | rfl
        · clear HT HK1 HK2 HL
          go_wp2_with fail
          have HT := Lib.hid T
          have t1 := T.len
          have t2 := T.n5
          have hM9 : M.length ≤ 5 := by omega
          have HML := Lib.hid t1
          clear T f0 f1 t1
          go_loopw [24, 25, 26] (fun s c i wr => ∃ k : Nat, k ≤ M.length ∧ i = .int .i64 (k : Int) ∧ s = .int .i64 (pks M S k) ∧ c = .int .i64 (pks M P k) ∧ Below w9.heap.size w9 wr) (fun _ _ i _ => (M.length - intOf i).toNat)
          case atStart => exact ⟨0, by omega, rfl, rfl, rfl, Below.refl _ _⟩
          case round =>
            obtain ⟨k, hk, rfl, rfl, rfl, hB⟩ := hrel
            by_cases hlt : k < M.length
            · have hltI : (k : Int) < (M.length : Int) := by omega
              obtain ⟨bm, om, rfl, _, hcm⟩ := (HK9.out.below hB).cell hlt
              obtain ⟨bs, os, rfl, _, hcs⟩ := (HS9.out.below hB).cell (show k < n1 by have := HML.out; omega)
              obtain ⟨bp, op, rfl, _, hcp⟩ := (HP9.out.below hB).cell (show k < n2 by have := HML.out; have := HT.out.len'; omega)
              have hk1 : (k : Int) < (n1 : Int) := by have := HML.out; omega
              have hk2 : (k : Int) < (n2 : Int) := by have := HML.out; have := HT.out.len'; omega
              obtain ⟨z1, z2⟩ := HT.out.m k
              obtain ⟨z3, z4⟩ := HT.out.s k (by have := HML.out; omega)
              obtain ⟨z5, z6⟩ := HT.out.p k (by have := HML.out; omega)
              obtain ⟨z7, z8⟩ := HT.out.sum k (by have := HML.out; omega)
              obtain ⟨z9, z10⟩ := HT.out.cost k (by have := HML.out; omega)
              obtain ⟨z11, z12⟩ := mul_bd (a := M.getD k 0) (b := S.getD k 0) (A := 3000) (B := 1000) z1 z2 (by omega) z4
              obtain ⟨z13, z14⟩ := mul_bd (a := M.getD k 0) (b := P.getD k 0) (A := 3000) (B := 100000) z1 z2 (by omega) z6
              have HS1 := Lib.hid (show pks M S (k + 1) = pks M S k + M.getD k 0 * S.getD k 0 from rfl)
              have HS2 := Lib.hid (show pks M P (k + 1) = pks M P k + M.getD k 0 * P.getD k 0 from rfl)
              have z0 : ¬ M.getD k 0 < 0 := by omega
              generalize M.getD k 0 = m at *
              generalize S.getD k 0 = s at *
              generalize P.getD k 0 = p at *
              generalize pks M S k = A at *
              generalize pks M P k = D at *
              go_wp2_with fail
              go_quiet (fail)
              go_wp2_with fail
              go_quiet (fail)
              go_wp2
              go_roundw
              case rel => exact ⟨k + 1, by omega, by go_num, by rw [HS1.out], by rw [HS2.out], by repeat (first | assumption | refine below_drewN ?_ _ | refine Below.drew ?_)⟩
              case measure => first | (simp [intOf]; done) | (simp [intOf]; omega)
            · have hk' : ¬ (k : Int) < (M.length : Int) := by omega
              have hkn : k = n1 := by have := HML.out; omega
              have HSk : Hid (pks M S k = pks M S n1) := Lib.hid (by rw [hkn])
              have HPk : Hid (pks M P k = pks M P n1) := Lib.hid (by rw [hkn])
              obtain ⟨wo, rfl⟩ : ∃ wo : World, wo = wr := ⟨_, rfl⟩
              have HSo := Lib.hid (HS9.out.below hB)
              have HPo := Lib.hid (HP9.out.below hB)
              have hbo := Lib.hid (below_call hb9' hB)
              clear hkn hb9' HS9 HP9 HK9 F9 hB
              obtain ⟨z9, z10⟩ := HT.out.cost n1 (Nat.le_refl _)
              have HEN := Lib.hid HT.out.enough
              rw [HSk.out, HPk.out]
              go_wp2_with fail
              go_loopw [27] (fun i wr => ∃ k : Nat, k ≤ n1 ∧ i = .int .i64 (k : Int) ∧ Below wo.heap.size wo wr) (fun i _ => (n1 - intOf i).toNat)
              case atStart => exact ⟨0, by omega, rfl, Below.refl _ _⟩
              case round =>
                obtain ⟨q, hq, rfl, hB⟩ := hrel
                by_cases hlq : q < n1
                · have hlqI : (q : Int) < (n1 : Int) := by omega
                  have hlq2 : (q : Int) < (n2 : Int) := by have := HT.out.len'; omega
                  obtain ⟨bs, os, rfl, _, hcs⟩ := (HSo.out.below hB).cell hlq
                  obtain ⟨bp, op, rfl, _, hcp⟩ := (HPo.out.below hB).cell (show q < n2 by omega)
                  obtain ⟨K, L, he, j1, j2, j3⟩ := HT.out.single q hlq
                  obtain ⟨j4, j5⟩ := HT.out.p q hlq
                  have HPK := Lib.hid (fun W => packsFor_any B (S.getD q 0) W)
                  rw [he] at HPK
                  obtain ⟨j6, j7⟩ := mul_bd (a := K) (b := P.getD q 0) (A := 3000) (B := 100000) j1 j2 (by omega) j5
                  have x7 : decide (K * P.getD q 0 < pks M P n1) = false := decide_eq_false (by omega)
                  clear he j3
                  generalize S.getD q 0 = s at *
                  generalize P.getD q 0 = p at *
                  generalize pks M P n1 = D at *
                  go_wp2_with fail
                  refine (HPK.out _).mono ?_
                  rintro e wx ⟨rfl, rfl⟩
                  clear HPK
                  go_wp2
                  go_roundw
                  case rel => exact ⟨q + 1, by omega, by go_num, hB⟩
                  case measure => first | (simp [intOf]; done) | (simp [intOf]; omega)
                · have hq' : ¬ (q : Int) < (n1 : Int) := by omega
                  have x8 : decide (B ≤ pks M S n1) = true := decide_eq_true HEN.out
                  generalize pks M S n1 = A at *
                  go_wp2
                  go_ret
                  exact ⟨ret_bool (by simp [x8]), below_call hbo.out hB⟩
        · clear HT
          go_wp2_with fail
          go_ret
          exact ⟨rfl, (by repeat (first | exact Below.refl _ _ | assumption | refine Below.drew ?_ | refine below_drewN ?_ _ | refine Below.alloc ?_ (by first | omega | (simp; done) | (simp; omega)) _ | refine Below.setCell ?_ (by first | omega | (simp; done) | (simp; omega)) _))⟩
      · obtain ⟨rfl, rfl⟩ : r1 = 0 ∧ r2 = 2 := by simpa using he
        clear he HBC
        rcases HT.out with ⟨rfl, T⟩ | rfl
        · clear HT HK1 HK2 HL
          go_wp2_with fail
          have HT := Lib.hid T
          have t1 := T.len
          have t2 := T.n5
          have hM9 : M.length ≤ 5 := by omega
          have HML := Lib.hid t1
          clear T f0 f1 t1
          go_loopw [24, 25, 26] (fun s c i wr => ∃ k : Nat, k ≤ M.length ∧ i = .int .i64 (k : Int) ∧ s = .int .i64 (pks M S k) ∧ c = .int .i64 (pks M P k) ∧ Below w9.heap.size w9 wr) (fun _ _ i _ => (M.length - intOf i).toNat)
          case atStart => exact ⟨0, by omega, rfl, rfl, rfl, Below.refl _ _⟩
          case round =>
            obtain ⟨k, hk, rfl, rfl, rfl, hB⟩ := hrel
            by_cases hlt : k < M.length
            · have hltI : (k : Int) < (M.length : Int) := by omega
              obtain ⟨bm, om, rfl, _, hcm⟩ := (HK9.out.below hB).cell hlt
              obtain ⟨bs, os, rfl, _, hcs⟩ := (HS9.out.below hB).cell (show k < n1 by have := HML.out; omega)
              obtain ⟨bp, op, rfl, _, hcp⟩ := (HP9.out.below hB).cell (show k < n2 by have := HML.out; have := HT.out.len'; omega)
              have hk1 : (k : Int) < (n1 : Int) := by have := HML.out; omega
              have hk2 : (k : Int) < (n2 : Int) := by have := HML.out; have := HT.out.len'; omega
              obtain ⟨z1, z2⟩ := HT.out.m k
              obtain ⟨z3, z4⟩ := HT.out.s k (by have := HML.out; omega)
              obtain ⟨z5, z6⟩ := HT.out.p k (by have := HML.out; omega)
              obtain ⟨z7, z8⟩ := HT.out.sum k (by have := HML.out; omega)
              obtain ⟨z9, z10⟩ := HT.out.cost k (by have := HML.out; omega)
              obtain ⟨z11, z12⟩ := mul_bd (a := M.getD k 0) (b := S.getD k 0) (A := 3000) (B := 1000) z1 z2 (by omega) z4
              obtain ⟨z13, z14⟩ := mul_bd (a := M.getD k 0) (b := P.getD k 0) (A := 3000) (B := 100000) z1 z2 (by omega) z6
              have HS1 := Lib.hid (show pks M S (k + 1) = pks M S k + M.getD k 0 * S.getD k 0 from rfl)
              have HS2 := Lib.hid (show pks M P (k + 1) = pks M P k + M.getD k 0 * P.getD k 0 from rfl)
              have z0 : ¬ M.getD k 0 < 0 := by omega
              generalize M.getD k 0 = m at *
              generalize S.getD k 0 = s at *
              generalize P.getD k 0 = p at *
              generalize pks M S k = A at *
              generalize pks M P k = D at *
              go_wp2_with fail
              go_quiet (fail)
              go_wp2_with fail
              go_quiet (fail)
              go_wp2
              go_roundw
              case rel => exact ⟨k + 1, by omega, by go_num, by rw [HS1.out], by rw [HS2.out], by repeat (first | assumption | refine below_drewN ?_ _ | refine Below.drew ?_)⟩
              case measure => first | (simp [intOf]; done) | (simp [intOf]; omega)
            · have hk' : ¬ (k : Int) < (M.length : Int) := by omega
              have hkn : k = n1 := by have := HML.out; omega
              have HSk : Hid (pks M S k = pks M S n1) := Lib.hid (by rw [hkn])
              have HPk : Hid (pks M P k = pks M P n1) := Lib.hid (by rw [hkn])
              obtain ⟨wo, rfl⟩ : ∃ wo : World, wo = wr := ⟨_, rfl⟩
              have HSo := Lib.hid (HS9.out.below hB)
              have HPo := Lib.hid (HP9.out.below hB)
              have hbo := Lib.hid (below_call hb9' hB)
              clear hkn hb9' HS9 HP9 HK9 F9 hB
              obtain ⟨z9, z10⟩ := HT.out.cost n1 (Nat.le_refl _)
              have HEN := Lib.hid HT.out.enough
              rw [HSk.out, HPk.out]
              go_wp2_with fail
              go_loopw [27] (fun i wr => ∃ k : Nat, k ≤ n1 ∧ i = .int .i64 (k : Int) ∧ Below wo.heap.size wo wr) (fun i _ => (n1 - intOf i).toNat)
              case atStart => exact ⟨0, by omega, rfl, Below.refl _ _⟩
              case round =>
                obtain ⟨q, hq, rfl, hB⟩ := hrel
                by_cases hlq : q < n1
                · have hlqI : (q : Int) < (n1 : Int) := by omega
                  have hlq2 : (q : Int) < (n2 : Int) := by have := HT.out.len'; omega
                  obtain ⟨bs, os, rfl, _, hcs⟩ := (HSo.out.below hB).cell hlq
                  obtain ⟨bp, op, rfl, _, hcp⟩ := (HPo.out.below hB).cell (show q < n2 by omega)
                  obtain ⟨K, L, he, j1, j2, j3⟩ := HT.out.single q hlq
                  obtain ⟨j4, j5⟩ := HT.out.p q hlq
                  have HPK := Lib.hid (fun W => packsFor_any B (S.getD q 0) W)
                  rw [he] at HPK
                  obtain ⟨j6, j7⟩ := mul_bd (a := K) (b := P.getD q 0) (A := 3000) (B := 100000) j1 j2 (by omega) j5
                  have x7 : decide (K * P.getD q 0 < pks M P n1) = false := decide_eq_false (by omega)
                  clear he j3
                  generalize S.getD q 0 = s at *
                  generalize P.getD q 0 = p at *
                  generalize pks M P n1 = D at *
                  go_wp2_with fail
                  refine (HPK.out _).mono ?_
                  rintro e wx ⟨rfl, rfl⟩
                  clear HPK
                  go_wp2
                  go_roundw
                  case rel => exact ⟨q + 1, by omega, by go_num, hB⟩
                  case measure => first | (simp [intOf]; done) | (simp [intOf]; omega)
                · have hq' : ¬ (q : Int) < (n1 : Int) := by omega
                  have x8 : decide (B ≤ pks M S n1) = true := decide_eq_true HEN.out
                  generalize pks M S n1 = A at *
                  go_wp2
                  go_ret
                  exact ⟨ret_bool (by simp [x8]), below_call hbo.out hB⟩
        · clear HT
          go_wp2_with fail
          go_ret
          exact ⟨rfl, (by repeat (first | exact Below.refl _ _ | assumption | refine Below.drew ?_ | refine below_drewN ?_ _ | refine Below.alloc ?_ (by first | omega | (simp; done) | (simp; omega)) _ | refine Below.setCell ?_ (by first | omega | (simp; done) | (simp; omega)) _))⟩
/-! ### The row's step: the arguments are opened, the walk is called, the arguments read as before. -/
set_option maxRecDepth 100000 in
set_option maxHeartbeats 1000000 in
set_option linter.unusedVariables false in
theorem lifted_FnPacks (os : Os) (started : os.Started) (H : Type) (enc : TypeId × Value → H) :
    ReturnsInHanded {} Try.checked os 13 .any (Rows.fnPacksSpec.pre6 enc Try.prog Try.f13 Rows.fnPacksRow.domain false) (Rows.fnPacksSpec.post enc Try.prog Try.f13 false true false false) := by
  refine returnsInHanded_of_change (C := Try.checked) ownNone started (by kernel_rfl) Try.func13
    (ChangeSpec.witness6 (enc := enc) (C := Try.checked) false ⟨#[], #[.slice none 0 0], []⟩ 8 (by kernel_rfl) (by kernel_rfl) (by kernel_rfl) (by kernel_rfl)) ?_
  intro W base args ds gs before hval0 hW hcnd _
  have hval : ∀ (j : Nat) t v, Try.f13.params[j]? = some t → args[j]? = some v → Value.okWide Try.prog W .any base t v := hval0
  have hW' := hW
  obtain ⟨p, q, hA0, hV, rfl, hfz, hnd⟩ := hW
  have hA : DataW.TrodAll enc Try.prog W 0 (fun _ => true) true Try.f13.params.toList args.toList ds p := hA0
  rw [Try.params13] at hA hval
  obtain ⟨v0, vs0, d0, ds0, p0, q0, hargs, rfl, rfl, h0, r0⟩ := trodAll_cons hA
  obtain ⟨rfl, rfl, rfl⟩ := trodAll_nil r0
  obtain rfl : args = #[v0] := by cases args; simp_all
  obtain ⟨rfl, rfl⟩ := trodVars_none hV
  have k0 := h0
  have lt0 : ∀ x ∈ p0, x.block < W.heap.size := by obtain ⟨m, hm⟩ := k0; exact DataW.trod_lt m _ _ _ hm
  obtain ⟨a0, len0, cap0, rfl⟩ := okWide_slice Try.underlying68 (hval 0 68 v0 rfl rfl)
  obtain ⟨z0, w0⟩ : ∃ zs, IsRow .u8 W a0 len0 cap0 zs := by
    obtain ⟨fuel, hf⟩ := h0
    rcases open_ints Try.underlying68 Try.underlying5 (by kernel_rfl) hf with ⟨hcs, _⟩ | ⟨x, l, c, zs, hcs, _, hl, hm, hz, _, hcell, hwz⟩
    · simp [Value.cells] at hcs
      obtain ⟨rfl, rfl, rfl⟩ := hcs
      exact ⟨[], isRow_nil⟩
    · simp [Value.cells] at hcs
      obtain ⟨rfl, rfl, rfl⟩ := hcs
      exact ⟨zs.take len0, isRow_mk hl hm (by simpa using hz) hcell hwz⟩
  clear hA0 hval0
  refine (packs_walk a0 len0 cap0 z0 W w0).mono fun e W' ⟨he, bel⟩ => ?_
  subst he
  exact ⟨_, rfl, _, _, _, [], _, [], hW', trodAll_mk1 (shut_bool Try.underlying4 _), (trodAll_cons_mk (Below.trod laidOut (by kernel_rfl) (of_decide_eq_true (by kernel_rfl)) k0 bel lt0) trodAll_mk0), rfl, bel.frame _, fun h => by cases h⟩

/-- The statement, proved. -/
theorem fnPacks_holds : Rows.FnPacksSaid :=
  OpenClaim.holds_of_wide 13 Try.f13 rfl rfl rfl rfl rfl rfl rfl ⟨rfl, rfl, rfl, rfl, rfl⟩ rfl rfl rfl rfl rfl (by kernel_rfl) Try.func13 (by kernel_rfl)
    (of_decide_eq_true (by kernel_rfl)) (by unfold Func.isWrapper; first | (rw [if_pos (by decide +kernel)]; kernel_rfl) | (rw [if_neg (by decide +kernel)]; exact ⟨rfl, rfl⟩))
    (fun os started H enc _ => lifted_FnPacks os started H enc)
end Go.Proofs.Ytgnalhnbdpigdaa
