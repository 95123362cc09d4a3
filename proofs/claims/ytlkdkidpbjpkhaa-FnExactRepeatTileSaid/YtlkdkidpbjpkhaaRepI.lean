/- Contract of the program's RepeatTile; no old memory turns; condition: the slice can be read. -/
import Derived.Test.YtlkdkidpbjpkhaaRepS
namespace Go.Proofs.Ytlkdkidpbjpkhaa
set_option linter.unusedVariables false
open Go.RowKit

set_option maxRecDepth 100000 in
set_option maxHeartbeats 4000000 in
theorem repeatTile_any (a : Option Addr) (len cap : Nat) (ss : List ByteArray) (x u : Int) (w : World) (h : IsStrs w a len cap ss) :
    Calls Try.prog 46 #[.slice a len cap, .int .i64 x, .int .i64 u] w (NewSC w (rtI ss x u) (rtC ss x u)) := by
  have H0 := Lib.hid h
  have HV := Lib.hid (fun W hW => validPattern_any a len cap ss W hW)
  cases g : patB ss
  · obtain ⟨k1, k2⟩ := rt_1 (a := x) (u := u) g
    rw [k1, k2]
    rw [g] at HV
    clear h g k1 k2
    go_enter Try.func46, Try.ntmps46
    go_wp2_with fail
    refine (HV.out _ (H0.out.below (by repeat (first | exact Below.refl _ _ | assumption | refine Below.drew ?_ | refine below_drewN ?_ _ | refine Below.alloc ?_ (by first | omega | (simp; done) | (simp; omega)) _ | refine Below.setCell ?_ (by first | omega | (simp; done) | (simp; omega)) _)))).mono ?_
    rintro e1 w1 ⟨rfl, hb1⟩
    obtain ⟨hc1, hf1⟩ := bcell hb1
    have hz1 := hb1.size
    try simp at hz1
    have ha1 : Below w.heap.size w w1 := below_call (by repeat (first | exact Below.refl _ _ | assumption | refine Below.drew ?_ | refine below_drewN ?_ _ | refine Below.alloc ?_ (by first | omega | (simp; done) | (simp; omega)) _ | refine Below.setCell ?_ (by first | omega | (simp; done) | (simp; omega)) _)) hb1
    go_wp2
    go_ret2
    exact newSC_mk (ownS_nil _ _) nil_size (by repeat (first | exact Below.refl _ _ | assumption | refine Below.drew ?_ | refine below_drewN ?_ _ | refine Below.alloc ?_ (by first | omega | (simp; done) | (simp; omega)) _ | refine Below.setCell ?_ (by first | omega | (simp; done) | (simp; omega)) _))
  · have HW1 := Lib.hid (fun W => within_any x 1 24 W)
    have HW2 := Lib.hid (fun W => within_any u 1 24 W)
    rw [g] at HV
    cases g1 : inB x 1 24
    · obtain ⟨k1, k2⟩ := rt_2 (a := x) (u := u) g (by simp [rtW, g1])
      rw [k1, k2]
      rw [g1] at HW1
      clear h g k1 k2 g1
      go_enter Try.func46, Try.ntmps46
      go_wp2_with fail
      refine (HV.out _ (H0.out.below (by repeat (first | exact Below.refl _ _ | assumption | refine Below.drew ?_ | refine below_drewN ?_ _ | refine Below.alloc ?_ (by first | omega | (simp; done) | (simp; omega)) _ | refine Below.setCell ?_ (by first | omega | (simp; done) | (simp; omega)) _)))).mono ?_
      rintro e1 w1 ⟨rfl, hb1⟩
      obtain ⟨hc1, hf1⟩ := bcell hb1
      have hz1 := hb1.size
      try simp at hz1
      have ha1 : Below w.heap.size w w1 := below_call (by repeat (first | exact Below.refl _ _ | assumption | refine Below.drew ?_ | refine below_drewN ?_ _ | refine Below.alloc ?_ (by first | omega | (simp; done) | (simp; omega)) _ | refine Below.setCell ?_ (by first | omega | (simp; done) | (simp; omega)) _)) hb1
      go_wp2_with fail
      refine (HW1.out _).mono ?_
      rintro e q ⟨rfl, rfl⟩
      go_wp2
      go_ret2
      exact newSC_mk (ownS_nil _ _) nil_size (by repeat (first | exact Below.refl _ _ | assumption | refine Below.drew ?_ | refine below_drewN ?_ _ | refine Below.alloc ?_ (by first | omega | (simp; done) | (simp; omega)) _ | refine Below.setCell ?_ (by first | omega | (simp; done) | (simp; omega)) _))
    · cases g2 : inB u 1 24
      · obtain ⟨k1, k2⟩ := rt_2 (a := x) (u := u) g (by simp [rtW, g2])
        rw [k1, k2]
        rw [g1] at HW1
        rw [g2] at HW2
        clear h g k1 k2 g1 g2
        go_enter Try.func46, Try.ntmps46
        go_wp2_with fail
        refine (HV.out _ (H0.out.below (by repeat (first | exact Below.refl _ _ | assumption | refine Below.drew ?_ | refine below_drewN ?_ _ | refine Below.alloc ?_ (by first | omega | (simp; done) | (simp; omega)) _ | refine Below.setCell ?_ (by first | omega | (simp; done) | (simp; omega)) _)))).mono ?_
        rintro e1 w1 ⟨rfl, hb1⟩
        obtain ⟨hc1, hf1⟩ := bcell hb1
        have hz1 := hb1.size
        try simp at hz1
        have ha1 : Below w.heap.size w w1 := below_call (by repeat (first | exact Below.refl _ _ | assumption | refine Below.drew ?_ | refine below_drewN ?_ _ | refine Below.alloc ?_ (by first | omega | (simp; done) | (simp; omega)) _ | refine Below.setCell ?_ (by first | omega | (simp; done) | (simp; omega)) _)) hb1
        go_wp2_with fail
        refine (HW1.out _).mono ?_
        rintro e q ⟨rfl, rfl⟩
        go_wp2_with fail
        refine (HW2.out _).mono ?_
        rintro e q ⟨rfl, rfl⟩
        go_wp2
        go_ret2
        exact newSC_mk (ownS_nil _ _) nil_size (by repeat (first | exact Below.refl _ _ | assumption | refine Below.drew ?_ | refine below_drewN ?_ _ | refine Below.alloc ?_ (by first | omega | (simp; done) | (simp; omega)) _ | refine Below.setCell ?_ (by first | omega | (simp; done) | (simp; omega)) _))
      · have gw : rtW x u = true := by simp [rtW, g1, g2]
        obtain ⟨x1, x2⟩ := inB_t g1
        obtain ⟨u1, u2⟩ := inB_t g2
        have hl := h.1
        obtain ⟨v1, v2, v3, v4, v5⟩ := patB_t g
        rw [hl] at v1 v2
        obtain ⟨b, o, rfl, hb⟩ := h.addr (by omega)
        have hd0 := h.same (i := 0) (by omega)
        simp only [Nat.add_zero] at hd0
        have hz0 : (ss.getD 0 ByteArray.empty).size = patN ss := rfl
        have hs := pat_small g
        have e5 := fun q => rt_5 (ss := ss) (a := x) (u := u) g gw q
        have e0 := fun q => rt_0 (ss := ss) (a := x) (u := u) g gw q
        have hF : rtF ss x u = (decide (24 < (patN ss : Int) * x) || decide (24 < (len : Int) * u)) := by unfold rtF; rw [hl]
        generalize ss.getD 0 ByteArray.empty = r0 at hd0 hz0
        generalize patN ss = W at *
        rw [g1] at HW1
        rw [g2] at HW2
        have hl0 : (0 : Int) < (len : Int) := by omega
        have w1 : 0 ≤ (W : Int) * x := Int.mul_nonneg (by omega) (by omega)
        have w2 : (W : Int) * x ≤ 24 * 24 := Int.mul_le_mul (by omega) (by omega) (by omega) (by omega)
        have w3 : 0 ≤ (len : Int) * u := Int.mul_nonneg (by omega) (by omega)
        have w4 : (len : Int) * u ≤ 24 * 24 := Int.mul_le_mul (by omega) (by omega) (by omega) (by omega)
        have i1 := IntWalk.i64_in ((W : Int) * x) (by omega)
        have i2 := IntWalk.i64_in ((len : Int) * u) (by omega)
        have c1 : (W : Int) * x = x * (W : Int) := Int.mul_comm _ _
        have c2 : (len : Int) * u = u * (len : Int) := Int.mul_comm _ _
        by_cases f1 : 24 < (W : Int) * x
        · obtain ⟨k1, k2⟩ := e5 (by rw [hF, decide_eq_true (show 24 < (W : Int) * x by exact f1)]; rfl)
          rw [k1, k2]
          clear h g k1 k2 g1 g2 gw hF e5 e0 v5 hs hl c1 c2
          go_enter Try.func46, Try.ntmps46
          go_wp2_with fail
          refine (HV.out _ (H0.out.below (by repeat (first | exact Below.refl _ _ | assumption | refine Below.drew ?_ | refine below_drewN ?_ _ | refine Below.alloc ?_ (by first | omega | (simp; done) | (simp; omega)) _ | refine Below.setCell ?_ (by first | omega | (simp; done) | (simp; omega)) _)))).mono ?_
          rintro e1 w1 ⟨rfl, hb1⟩
          obtain ⟨hc1, hf1⟩ := bcell hb1
          have hz1 := hb1.size
          try simp at hz1
          have ha1 : Below w.heap.size w w1 := below_call (by repeat (first | exact Below.refl _ _ | assumption | refine Below.drew ?_ | refine below_drewN ?_ _ | refine Below.alloc ?_ (by first | omega | (simp; done) | (simp; omega)) _ | refine Below.setCell ?_ (by first | omega | (simp; done) | (simp; omega)) _)) hb1
          have hd1 := keep1 ha1 hd0
          go_wp2_with fail
          refine (HW1.out _).mono ?_
          rintro e q ⟨rfl, rfl⟩
          go_wp2_with fail
          refine (HW2.out _).mono ?_
          rintro e q ⟨rfl, rfl⟩
          go_wp2
          go_ret2
          exact newSC_mk (ownS_nil _ _) nil_size (by repeat (first | exact Below.refl _ _ | assumption | refine Below.drew ?_ | refine below_drewN ?_ _ | refine Below.alloc ?_ (by first | omega | (simp; done) | (simp; omega)) _ | refine Below.setCell ?_ (by first | omega | (simp; done) | (simp; omega)) _))
        · by_cases f2 : 24 < (len : Int) * u
          · obtain ⟨k1, k2⟩ := e5 (by rw [hF, decide_eq_true (show 24 < (len : Int) * u by exact f2), Bool.or_true])
            rw [k1, k2]
            clear h g k1 k2 g1 g2 gw hF e5 e0 v5 hs hl c1 c2
            go_enter Try.func46, Try.ntmps46
            go_wp2_with fail
            refine (HV.out _ (H0.out.below (by repeat (first | exact Below.refl _ _ | assumption | refine Below.drew ?_ | refine below_drewN ?_ _ | refine Below.alloc ?_ (by first | omega | (simp; done) | (simp; omega)) _ | refine Below.setCell ?_ (by first | omega | (simp; done) | (simp; omega)) _)))).mono ?_
            rintro e1 w1 ⟨rfl, hb1⟩
            obtain ⟨hc1, hf1⟩ := bcell hb1
            have hz1 := hb1.size
            try simp at hz1
            have ha1 : Below w.heap.size w w1 := below_call (by repeat (first | exact Below.refl _ _ | assumption | refine Below.drew ?_ | refine below_drewN ?_ _ | refine Below.alloc ?_ (by first | omega | (simp; done) | (simp; omega)) _ | refine Below.setCell ?_ (by first | omega | (simp; done) | (simp; omega)) _)) hb1
            have hd1 := keep1 ha1 hd0
            go_wp2_with fail
            refine (HW1.out _).mono ?_
            rintro e q ⟨rfl, rfl⟩
            go_wp2_with fail
            refine (HW2.out _).mono ?_
            rintro e q ⟨rfl, rfl⟩
            go_wp2
            go_ret2
            exact newSC_mk (ownS_nil _ _) nil_size (by repeat (first | exact Below.refl _ _ | assumption | refine Below.drew ?_ | refine below_drewN ?_ _ | refine Below.alloc ?_ (by first | omega | (simp; done) | (simp; omega)) _ | refine Below.setCell ?_ (by first | omega | (simp; done) | (simp; omega)) _))
          · obtain ⟨k1, k2⟩ := e0 (by rw [hF, decide_eq_false (show ¬ 24 < (W : Int) * x by exact f1), decide_eq_false (show ¬ 24 < (len : Int) * u by exact f2)]; rfl)
            rw [k1, k2]
            obtain ⟨A, rfl⟩ : ∃ A : Nat, x = (A : Int) := ⟨x.toNat, by omega⟩
            obtain ⟨U, rfl⟩ : ∃ U : Nat, u = (U : Int) := ⟨u.toNat, by omega⟩
            have hA : A ≤ 1000 := by omega
            have hU : U ≤ 1000 := by omega
            rw [show ((A : Int)).toNat = A by omega, show ((U : Int)).toNat = U by omega]
            have HSZ := Lib.hid (rpU_size (k := U) hs hA)
            have hlen : len ≤ 24 := v2
            have hl := h.1
            have HSM := Lib.hid (fun i => small_get hs i)
            have HNX := Lib.hid (fun k y (hy : y < len) => rpR_next (ss := ss) (c := A) (k := k) (y := y) (by rw [hl]; exact hy))
            have HLN := Lib.hid (fun k y (hy : y ≤ len) => (rpR_len (ss := ss) (c := A) (k := k) (y := y) (by rw [hl]; exact hy)).trans (by rw [hl]))
            have HR0 := Lib.hid (fun k => rpR_zero ss A k)
            have HRA : Hid (∀ k, rpR ss A k len = rpU ss A (k + 1)) := Lib.hid (fun k => by rw [← hl]; exact rpR_all ss A k)
            have HU0 : Hid (rpU ss A 0 = []) := Lib.hid rfl
            have HKL := Lib.hid (fun k (hk : k ≤ U) => Nat.mul_le_mul hk hlen)
            have H := Lib.hid h
            obtain ⟨i0, hi, hi0, hi1, hi2⟩ := info_parts info_str
            clear h g k1 k2 g1 g2 gw hF e5 e0 v5 hs hl c1 c2
            go_enter Try.func46, Try.ntmps46
            go_wp2_with fail
            refine (HV.out _ (H0.out.below (by repeat (first | exact Below.refl _ _ | assumption | refine Below.drew ?_ | refine below_drewN ?_ _ | refine Below.alloc ?_ (by first | omega | (simp; done) | (simp; omega)) _ | refine Below.setCell ?_ (by first | omega | (simp; done) | (simp; omega)) _)))).mono ?_
            rintro e1 w1 ⟨rfl, hb1⟩
            obtain ⟨hc1, hf1⟩ := bcell hb1
            have hz1 := hb1.size
            try simp at hz1
            have ha1 : Below w.heap.size w w1 := below_call (by repeat (first | exact Below.refl _ _ | assumption | refine Below.drew ?_ | refine below_drewN ?_ _ | refine Below.alloc ?_ (by first | omega | (simp; done) | (simp; omega)) _ | refine Below.setCell ?_ (by first | omega | (simp; done) | (simp; omega)) _)) hb1
            have hd1 := keep1 ha1 hd0
            go_wp2_with fail
            refine (HW1.out _).mono ?_
            rintro e q ⟨rfl, rfl⟩
            go_wp2_with fail
            refine (HW2.out _).mono ?_
            rintro e q ⟨rfl, rfl⟩
            go_wp2_with fail
            go_loopw [8, 41] (fun os i wr => ∃ (k : Nat) (vo : Value), k ≤ U ∧ vo = os ∧ i = .int .i64 (k : Int) ∧ OwnS wr w.heap.size vo (rpU ss A k) ∧ Below w.heap.size w wr) (fun _ i _ => (U - intOf i).toNat)
            case atStart => exact ⟨0, _, by omega, rfl, rfl, by rw [HU0.out]; exact ownS_empty _ _ ha1.size, (by repeat (first | exact Below.refl _ _ | assumption | refine Below.drew ?_ | refine below_drewN ?_ _ | refine Below.alloc ?_ (by first | omega | (simp; done) | (simp; omega)) _ | refine Below.setCell ?_ (by first | omega | (simp; done) | (simp; omega)) _))⟩
            case round =>
              obtain ⟨k, vo, hk, rfl, rfl, hO, hB⟩ := hrel
              have HO := Lib.hid hO
              have HB := Lib.hid hB
              clear hO hB
              by_cases hlk : k < U
              · have hlk' : (k : Int) < (U : Int) := by omega
                have hkl := HKL.out k hk
                go_wp2_with fail
                go_loopw [8, 45] (fun os i wr => ∃ (y : Nat) (vo : Value), y ≤ len ∧ vo = os ∧ i = .int .i64 (y : Int) ∧ OwnS wr w.heap.size vo (rpR ss A k y) ∧ Below w.heap.size w wr) (fun _ i _ => (len - intOf i).toNat)
                case atStart => exact ⟨0, _, by omega, rfl, rfl, by rw [HR0.out]; exact HO.out, HB.out⟩
                case round =>
                  clear HO HB
                  obtain ⟨y, vo, hy, rfl, rfl, hO, hB⟩ := hrel
                  by_cases hly : y < len
                  · have hly' : (y : Int) < (len : Int) := by omega
                    have hc0 := (H.out.below hB).same (i := y) hly
                    have hsr := HSM.out y
                    have HN := Lib.hid (HNX.out k y hly)
                    have HLK := Lib.hid (HLN.out k y hy)
                    generalize rpR ss A k y = P at *
                    generalize ss.getD y ByteArray.empty = row at *
                    have HO := Lib.hid hO
                    have HB := Lib.hid hB
                    have hBz := hB.size
                    have HRP : Hid (∀ W, Calls Try.prog 70 #[.string row, .int .i64 (A : Int)] W fun e w' => e = .returned (.string (rpS A row)) ∧ Below W.heap.size W w') := Lib.hid (fun W => repeat_any row A W (by omega) (by have := Nat.mul_le_mul hsr hA; omega))
                    clear hO hB
                    go_wp2_with fail
                    refine (HRP.out _).mono ?_
                    rintro e w3 ⟨rfl, hb3⟩
                    have HO3 := Lib.hid (HO.out.below hb3)
                    have HB3 := Lib.hid (below_call HB.out hb3)
                    have hB3z := HB3.out.size
                    have hOl := HO3.out
                    unfold OwnS at hOl
                    rw [HLK.out] at hOl
                    clear hb3
                    go_wp2_with (at_builtin; refine wpList_append_new _ rfl _ _ 22 rfl _ 9 i0 (.string ByteArray.empty) 1 16 Try.underlying22 hi hi0 hi1 hi2 rfl (by decide) _ _ _ rfl (World.ownsRow.alloc hOl _) ⟨w3.heap.size, 0, none⟩ 1 1 [.string (rpS A row)] rfl rfl (cell_one_new _ _ _) (by simp [Value.oneCell']) (by unfold maxLen; omega) (by omega) (by first | omega | (simp; done) | (simp; omega)) (by decide) ?_; intro v' w1' hown1 hgrow1 hnew1)
                    have hOn := OwnS.snoc hown1 (by rw [HLK.out])
                    rw [← HN.out] at hOn
                    have HOn := Lib.hid hOn
                    have HBn := Lib.hid (below_row (HB3.out.alloc hB3z _) (Nat.le_refl _) (World.ownsRow.alloc hOl _) hgrow1)
                    clear hown1 hgrow1 hnew1 hOn hOl
                    go_wp2
                    go_roundw
                    case rel => exact ⟨y + 1, _, by omega, rfl, by go_num, HOn.out, HBn.out⟩
                    case measure => first | (simp [intOf]; done) | (simp [intOf]; omega)
                  · obtain rfl : y = len := by omega
                    have HO := Lib.hid hO
                    have HB := Lib.hid hB
                    clear hO hB
                    go_wp2
                    go_roundw
                    case rel => exact ⟨k + 1, _, by omega, rfl, by go_num, by rw [← HRA.out]; exact HO.out, HB.out⟩
                    case measure => first | (simp [intOf]; done) | (simp [intOf]; omega)
              · obtain rfl : k = U := by omega
                go_wp2
                go_ret2
                exact newSC_mk HO.out HSZ.out HB.out
end Go.Proofs.Ytlkdkidpbjpkhaa
