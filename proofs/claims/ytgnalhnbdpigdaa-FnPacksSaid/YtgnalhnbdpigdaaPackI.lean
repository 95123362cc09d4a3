/- Contract of the program's CheapestPacks: the packs and the code, in new memory; no old memory turns; condition: the slices can be read. -/
import Derived.Test.YtgnalhnbdpigdaaPackA
import Derived.OwnWalk
namespace Go.Proofs.Ytgnalhnbdpigdaa
open Go.RowKit
set_option linter.unusedVariables false

set_option maxRecDepth 100000 in
set_option maxHeartbeats 8000000 in
theorem cheapestPacks_any (a : Option Addr) (len cap : Nat) (S : List Int) (a' : Option Addr) (len' cap' : Nat) (P : List Int) (B : Int) (w : World) (h : IsRow .i64 w a len cap S) (h' : IsRow .i64 w a' len' cap' P) :
    Calls Try.prog 39 #[.slice a len cap, .slice a' len' cap', .int .i64 B] w (NewI w (pkI S P B) (pkC S P B)) := by
  have hl := h.1
  have hl' := h'.1
  have hm : len ≤ maxLen := Nat.le_trans h.2.1 h.2.2.1
  have hm' : len' ≤ maxLen := Nat.le_trans h'.2.1 h'.2.2.1
  unfold maxLen at hm hm'
  have HOK := Lib.hid (show pkOk S P B = (inB (len : Int) 1 5 && (decide (len' = len) && (insB S 1 1000 && (insB P 1 100000 && (inB B 0 3000 && rises S))))) by unfold pkOk; rw [hl, hl'])
  have H := Lib.hid h
  have H' := Lib.hid h'
  have HL := Lib.hid hl
  have HL' := Lib.hid hl'
  clear h h' hl hl'
  generalize hZ : pkI S P B = Z
  generalize hC : pkC S P B = C
  have HZ := Lib.hid hZ
  have HC := Lib.hid hC
  clear hZ hC
  go_enter Try.func39, Try.ntmps39
  go_wp2_with fail
  refine (within_any _ _ _ _).mono ?_
  rintro e1 w1 ⟨rfl, rfl⟩
  cases c1 : inB (len : Int) 1 5
  · obtain ⟨z1, z2⟩ := pk_no (show pkOk S P B = false by rw [HOK.out, c1]; rfl)
    obtain rfl : Z = [] := by rw [← HZ.out, z1]
    obtain rfl : C = 2 := by rw [← HC.out, z2]
    clear HZ HC z1 z2
    go_wp2
    go_ret2
    exact newI_mk (ownI_nil _ _) (by repeat (first | exact Below.refl _ _ | assumption | refine Below.drew ?_ | refine below_drewN ?_ _ | refine Below.alloc ?_ (by first | omega | (simp; done) | (simp; omega)) _ | refine Below.setCell ?_ (by first | omega | (simp; done) | (simp; omega)) _))
  · obtain ⟨l1, l2⟩ := inB_t c1
    by_cases c2 : len' = len
    · subst c2
      have c2' : (len' : Int) = (len' : Int) := rfl
      go_wp2_with fail
      refine (outside_any _ _ _ _ _ _ _ (H.out.below (by repeat (first | exact Below.refl _ _ | assumption | refine Below.drew ?_ | refine below_drewN ?_ _ | refine Below.alloc ?_ (by first | omega | (simp; done) | (simp; omega)) _ | refine Below.setCell ?_ (by first | omega | (simp; done) | (simp; omega)) _)))).mono ?_
      rintro e2 w2 ⟨rfl, hb2⟩
      obtain ⟨hc2, hf2⟩ := bcell hb2
      have hz2 := hb2.size
      try simp at hz2
      have ha2 : Below w.heap.size w w2 := below_call (by repeat (first | exact Below.refl _ _ | assumption | refine Below.drew ?_ | refine below_drewN ?_ _ | refine Below.alloc ?_ (by first | omega | (simp; done) | (simp; omega)) _ | refine Below.setCell ?_ (by first | omega | (simp; done) | (simp; omega)) _)) hb2
      cases c3 : insB S 1 1000
      · obtain ⟨z1, z2⟩ := pk_no (show pkOk S P B = false by rw [HOK.out, c3]; simp)
        obtain rfl : Z = [] := by rw [← HZ.out, z1]
        obtain rfl : C = 2 := by rw [← HC.out, z2]
        clear HZ HC z1 z2
        go_wp2
        go_ret2
        exact newI_mk (ownI_nil _ _) (by repeat (first | exact Below.refl _ _ | assumption | refine Below.drew ?_ | refine below_drewN ?_ _ | refine Below.alloc ?_ (by first | omega | (simp; done) | (simp; omega)) _ | refine Below.setCell ?_ (by first | omega | (simp; done) | (simp; omega)) _))
      · go_wp2_with fail
        refine (outside_any _ _ _ _ _ _ _ (H'.out.below (by repeat (first | exact Below.refl _ _ | assumption | refine Below.drew ?_ | refine below_drewN ?_ _ | refine Below.alloc ?_ (by first | omega | (simp; done) | (simp; omega)) _ | refine Below.setCell ?_ (by first | omega | (simp; done) | (simp; omega)) _)))).mono ?_
        rintro e3 w3 ⟨rfl, hb3⟩
        obtain ⟨hc3, hf3⟩ := bcell hb3
        have hz3 := hb3.size
        try simp at hz3
        have ha3 : Below w.heap.size w w3 := below_call (by repeat (first | exact Below.refl _ _ | assumption | refine Below.drew ?_ | refine below_drewN ?_ _ | refine Below.alloc ?_ (by first | omega | (simp; done) | (simp; omega)) _ | refine Below.setCell ?_ (by first | omega | (simp; done) | (simp; omega)) _)) hb3
        cases c4 : insB P 1 100000
        · obtain ⟨z1, z2⟩ := pk_no (show pkOk S P B = false by rw [HOK.out, c4]; simp)
          obtain rfl : Z = [] := by rw [← HZ.out, z1]
          obtain rfl : C = 2 := by rw [← HC.out, z2]
          clear HZ HC z1 z2
          go_wp2
          go_ret2
          exact newI_mk (ownI_nil _ _) (by repeat (first | exact Below.refl _ _ | assumption | refine Below.drew ?_ | refine below_drewN ?_ _ | refine Below.alloc ?_ (by first | omega | (simp; done) | (simp; omega)) _ | refine Below.setCell ?_ (by first | omega | (simp; done) | (simp; omega)) _))
        · go_wp2_with fail
          refine (within_any _ _ _ _).mono ?_
          rintro e1 w1 ⟨rfl, rfl⟩
          cases c5 : inB B 0 3000
          · obtain ⟨z1, z2⟩ := pk_no (show pkOk S P B = false by rw [HOK.out, c5]; simp)
            obtain rfl : Z = [] := by rw [← HZ.out, z1]
            obtain rfl : C = 2 := by rw [← HC.out, z2]
            clear HZ HC z1 z2
            go_wp2
            go_ret2
            exact newI_mk (ownI_nil _ _) (by repeat (first | exact Below.refl _ _ | assumption | refine Below.drew ?_ | refine below_drewN ?_ _ | refine Below.alloc ?_ (by first | omega | (simp; done) | (simp; omega)) _ | refine Below.setCell ?_ (by first | omega | (simp; done) | (simp; omega)) _))
          · replace HOK := Lib.hid (show pkOk S P B = rises S by rw [HOK.out, c1, c3, c4, c5]; simp)
            obtain ⟨d1, d2⟩ := inB_t c5
            obtain ⟨b, rfl⟩ : ∃ b : Nat, B = (b : Int) := ⟨B.toNat, by omega⟩
            have HS := Lib.hid (insB_t c3)
            have HP := Lib.hid (insB_t c4)
            rw [HL.out] at HS
            rw [HL'.out] at HP
            have hlen : len' ≤ 5 := by omega
            clear c1 c2' c3 c4 c5
            go_wp2_with fail
            go_loopw [9] (fun i wr => ∃ k : Nat, 1 ≤ k ∧ k ≤ len' ∧ i = .int .i64 (k : Int) ∧ (∀ m, m + 1 < k → S.getD m 0 < S.getD (m + 1) 0) ∧ Below w.heap.size w wr) (fun i _ => (len' + 1 - intOf i).toNat)
            case atStart => exact ⟨1, by omega, by omega, rfl, fun m hm => by omega, (by repeat (first | exact Below.refl _ _ | assumption | refine Below.drew ?_ | refine below_drewN ?_ _ | refine Below.alloc ?_ (by first | omega | (simp; done) | (simp; omega)) _ | refine Below.setCell ?_ (by first | omega | (simp; done) | (simp; omega)) _))⟩
            case round =>
              obtain ⟨k, hk1, hk, rfl, hJ, hB⟩ := hrel
              have HJ := Lib.hid hJ
              clear hJ
              by_cases hlt : k < len'
              · have hlt' : (k : Int) < (len' : Int) := by omega
                obtain ⟨b1, o1, rfl, hb, hc, hp⟩ := (H.out.below hB).cell2 hlt (show k - 1 < len' by omega)
                have j2 : 0 ≤ (k : Int) - 1 := by omega
                have j3 : ((k : Int) - 1).toNat = k - 1 := by omega
                have j4 : (k : Int) - 1 < (len' : Int) := by omega
                by_cases hy : S.getD (k - 1) 0 < S.getD k 0
                · have HT : Hid (∀ m, m + 1 < k + 1 → S.getD m 0 < S.getD (m + 1) 0) := Lib.hid fun m hm => by
                    by_cases e : m + 1 < k
                    · exact HJ.out m e
                    · obtain rfl : m = k - 1 := by omega
                      rw [show k - 1 + 1 = k by omega]; exact hy
                  generalize S.getD k 0 = x at *
                  generalize S.getD (k - 1) 0 = y at *
                  have hy' : ¬ x ≤ y := by omega
                  have j1 : IntKind.i64.wrap ((k : Int) - 1) = (k : Int) - 1 := IntWalk.i64_in _ (by omega)
                  go_wp2_with fail
                  go_quiet (fail)
                  clear j1 j2 j3 j4
                  go_wp2
                  go_roundw
                  case rel => exact ⟨k + 1, by omega, by omega, by go_num, HT.out, (by repeat (first | exact Below.refl _ _ | assumption | refine Below.drew ?_ | refine below_drewN ?_ _ | refine Below.alloc ?_ (by first | omega | (simp; done) | (simp; omega)) _ | refine Below.setCell ?_ (by first | omega | (simp; done) | (simp; omega)) _))⟩
                  case measure => simp [intOf]; omega
                · obtain ⟨z1, z2⟩ := pk_no (show pkOk S P (b : Int) = false by rw [HOK.out]; exact rises_no (zs := S) (k := k - 1) (by rw [HL.out]; omega) (by rw [show k - 1 + 1 = k by omega]; exact hy))
                  obtain rfl : Z = [] := by rw [← HZ.out, z1]
                  obtain rfl : C = 2 := by rw [← HC.out, z2]
                  clear HZ HC z1 z2
                  generalize S.getD k 0 = x at *
                  generalize S.getD (k - 1) 0 = y at *
                  have hy' : x ≤ y := by omega
                  have j1 : IntKind.i64.wrap ((k : Int) - 1) = (k : Int) - 1 := IntWalk.i64_in _ (by omega)
                  go_wp2_with fail
                  go_quiet (fail)
                  clear j1 j2 j3 j4
                  go_wp2
                  go_ret2
                  exact newI_mk (ownI_nil _ _) (by repeat (first | exact Below.refl _ _ | assumption | refine Below.drew ?_ | refine below_drewN ?_ _ | refine Below.alloc ?_ (by first | omega | (simp; done) | (simp; omega)) _ | refine Below.setCell ?_ (by first | omega | (simp; done) | (simp; omega)) _))
              · obtain ⟨z1, z2⟩ := pk_yes (show pkOk S P (b : Int) = true by rw [HOK.out]; exact rises_mk (fun m hm => HJ.out m (by rw [HL.out] at hm; omega)))
                obtain rfl : C = 0 := by rw [← HC.out, z2]
                replace HZ := Lib.hid (show pkN S P len' b b (List.replicate len' 0) = Z by rw [← HZ.out, z1, HL.out]; rfl)
                clear HC z1 z2 HJ HOK
                have hm1 : ∀ W, (Instr.makeSlice 58 (.int .i64 ((b : Int) + 1)) (.int .i64 ((b : Int) + 1))).run Try.prog W = .ok (.slice (some ⟨W.heap.size, 0, none⟩) (b + 1) (b + 1)) (W.alloc (.cells (ints (List.replicate (b + 1) 0)) 2)) := fun W => make_i64 (b + 1) (by omega) W
                have hm2 : ∀ W, (Instr.makeSlice 90 (.int .i64 ((b : Int) + 1)) (.int .i64 ((b : Int) + 1))).run Try.prog W = .ok (.slice (some ⟨W.heap.size, 0, none⟩) (b + 1) (b + 1)) (W.alloc (.cells (ints (List.replicate (b + 1) 0)) 3)) := fun W => make_int (b + 1) (by omega) W
                have i1 := IntWalk.i64_in ((b : Int) + 1) (by omega)
                go_wp2_with fail
                have hLn := HL'.out
                have hBz := hB.size
                go_cut [10, 11] (fun s10 s11 wx => ∃ g1 g2 : Nat, s10 = .slice (some ⟨g1, 0, none⟩) (b + 1) (b + 1) ∧ s11 = .slice (some ⟨g2, 0, none⟩) (b + 1) (b + 1) ∧ Arr wx g1 2 (List.replicate (b + 1) 0) ∧ Arr wx g2 3 (List.replicate (b + 1) 0) ∧ g1 ≠ g2 ∧ w.heap.size ≤ g1 ∧ w.heap.size ≤ g2 ∧ Below w.heap.size w wx)
                case first =>
                  go_region
                  all_goals
                    go_wp2
                    go_meet
                  · exact ⟨_, _, rfl, rfl, (blk_alloc (blk_new _ _)), (blk_new' _ _ (by simp)), by omega, by first | omega | (simp; omega), by first | omega | (simp; omega), (by repeat (first | exact Below.refl _ _ | assumption | refine Below.drew ?_ | refine below_drewN ?_ _ | refine Below.alloc ?_ (by first | omega | (simp; done) | (simp; omega)) _ | refine Below.setCell ?_ (by first | omega | (simp; done) | (simp; omega)) _))⟩
                  · exact ⟨_, _, rfl, rfl, (blk_new' _ _ (by simp)), (blk_alloc (blk_new _ _)), by omega, by first | omega | (simp; omega), by first | omega | (simp; omega), (by repeat (first | exact Below.refl _ _ | assumption | refine Below.drew ?_ | refine below_drewN ?_ _ | refine Below.alloc ?_ (by first | omega | (simp; done) | (simp; omega)) _ | refine Below.setCell ?_ (by first | omega | (simp; done) | (simp; omega)) _))⟩
                case rest =>
                  obtain ⟨g1, g2, rfl, rfl, hA1, hA2, hne, hg1, hg2, hB2⟩ := hcut
                  clear hm1 hm2 hLn hB hBz hlt
                  have hl0 : 0 < len' := by omega
                  have HS1 := Lib.hid (fun i hi => (HS.out i hi).1)
                  go_wp2_with fail
                  go_loopw [12] (fun kv wr => ∃ k0 k : Nat, k = k0 + 1 ∧ k0 ≤ b ∧ kv = .int .i64 (k : Int) ∧ Arr wr g1 2 (pkT S P len' k0 ++ List.replicate (b - k0) 0) ∧ Arr wr g2 3 (lasT S P len' k0 ++ List.replicate (b - k0) 0) ∧ Below w.heap.size w wr) (fun i _ => (b + 1 - intOf i).toNat)
                  case atStart => exact ⟨0, 1, rfl, by omega, rfl, hA1, hA2, hB2⟩
                  case round =>
                    clear hA1 hA2 hB2
                    obtain ⟨k0, k, hk0, hkb, rfl, hA1, hA2, hB⟩ := hrel
                    by_cases hlt : k ≤ b
                    · have hlt' : (k : Int) ≤ (b : Int) := by omega
                      have HA1 : Hid (Arr wr g1 2 (tabA (pkT S P len' k0) 0 (b - k))) := Lib.hid (by rw [tabA_zero, show b - k + 1 = b - k0 by omega]; exact hA1)
                      have HA2 : Hid (Arr wr g2 3 (tabA (lasT S P len' k0) 0 (b - k))) := Lib.hid (by rw [tabA_zero, show b - k + 1 = b - k0 by omega]; exact hA2)
                      have HK := Lib.hid hk0
                      have HT1 := Lib.hid (show (pkT S P len' k0).length = k by rw [pkT_len]; omega)
                      have HT2 := Lib.hid (show (lasT S P len' k0).length = k by rw [lasT_len]; omega)
                      have HTV := Lib.hid (fun j (hj : j < k) => show 0 ≤ (pkT S P len' k0).getD j 0 ∧ (pkT S P len' k0).getD j 0 ≤ 300000000 by
                        rw [pkT_val S P len' (show j ≤ k0 by omega)]
                        have := pkV_bd HS1.out HP.out j
                        omega)
                      have HNX1 := Lib.hid (show pkT S P len' k = pkT S P len' k0 ++ [(pkM (pkO S P (pkT S P len' k0) k) len').1] by rw [hk0]; rfl)
                      have HNX2 := Lib.hid (show lasT S P len' k = lasT S P len' k0 ++ [((pkM (pkO S P (pkT S P len' k0) k) len').2 : Int)] by rw [hk0]; exact lasT_next HS1.out)
                      have hk1 : 1 ≤ k := by omega
                      have HB := Lib.hid hB
                      clear hA1 hA2 hk0 hkb hB
                      generalize pkT S P len' k0 = T at *
                      generalize lasT S P len' k0 = L at *
                      go_wp2_with fail
                      go_loopw [71] (fun iv wr => ∃ i : Nat, i ≤ len' ∧ iv = .int .i64 (i : Int) ∧ Arr wr g1 2 (tabA T (pkM (pkO S P T k) i).1 (b - k)) ∧ Arr wr g2 3 (tabA L ((pkM (pkO S P T k) i).2 : Int) (b - k)) ∧ Below w.heap.size w wr) (fun i _ => (len' - intOf i).toNat)
                      case atStart => exact ⟨0, by omega, rfl, HA1.out, HA2.out, HB.out⟩
                      case round =>
                        clear HA1 HA2 HB
                        obtain ⟨i, hi, rfl, hA1, hA2, hB⟩ := hrel
                        by_cases hil : i < len'
                        · have hil' : (i : Int) < (len' : Int) := by omega
                          obtain ⟨b1, o1, rfl, hb1, e1⟩ := (H.out.below hB).cell hil
                          obtain ⟨b2, o2, rfl, hb2', e2⟩ := (H'.out.below hB).cell hil
                          obtain ⟨s1, s2⟩ := HS.out i hil
                          obtain ⟨p1, p2⟩ := HP.out i hil
                          have HM := Lib.hid (show pkM (pkO S P T k) (i + 1) = if i = 0 ∨ pkO S P T k i ≤ (pkM (pkO S P T k) i).1 then (pkO S P T k i, i) else pkM (pkO S P T k) i from rfl)
                          have HO := Lib.hid (show pkO S P T k i = P.getD i 0 + T.getD ((k : Int) - S.getD i 0).toNat 0 from rfl)
                          obtain ⟨j, hj⟩ : ∃ j : Nat, ((k : Int) - S.getD i 0).toNat = j := ⟨_, rfl⟩
                          rw [hj] at HO
                          have hjk : j < k := by omega
                          have hmx : (if (k : Int) - S.getD i 0 < 0 then 0 else (k : Int) - S.getD i 0) = (j : Int) := by split <;> omega
                          obtain ⟨t1, t2⟩ := HTV.out j hjk
                          have e3 : wr.cell? ⟨g1, j, none⟩ = some (.int .i64 (T.getD j 0)) := by rw [hA1.cell (by rw [tabA_len, HT1.out]; omega), tabA_old _ _ _ (by rw [HT1.out]; omega)]
                          have e4 : wr.cell? ⟨g1, k, none⟩ = some (.int .i64 (pkM (pkO S P T k) i).1) := by
                            rw [hA1.cell (by rw [tabA_len, HT1.out]; omega)]
                            have := tabA_at T (pkM (pkO S P T k) i).1 (b - k)
                            rw [HT1.out] at this
                            rw [this]
                          have e5 : wr.cell? ⟨g2, k, none⟩ = some (.int .i64 ((pkM (pkO S P T k) i).2 : Int)) := by
                            rw [hA2.cell (by rw [tabA_len, HT2.out]; omega)]
                            have := tabA_at L ((pkM (pkO S P T k) i).2 : Int) (b - k)
                            rw [HT2.out] at this
                            rw [this]
                          have f4 := hA1.fz k
                          have f5 := hA2.fz k
                          have HST1 := Lib.hid (fun y => show (tabA T (pkM (pkO S P T k) i).1 (b - k)).set k y = tabA T y (b - k) by rw [← HT1.out]; exact tabA_set T _ _ _)
                          have HST2 := Lib.hid (fun y => show (tabA L ((pkM (pkO S P T k) i).2 : Int) (b - k)).set k y = tabA L y (b - k) by rw [← HT2.out]; exact tabA_set L _ _ _)
                          have HA1 := Lib.hid hA1
                          have HA2 := Lib.hid hA2
                          have HB := Lib.hid hB
                          have HJ := Lib.hid hj
                          clear hA1 hA2 hB hj
                          generalize pkM (pkO S P T k) i = m at *
                          generalize pkO S P T k i = ov at *
                          generalize S.getD i 0 = sv at *
                          generalize P.getD i 0 = pv at *
                          generalize T.getD j 0 = tv at *
                          have hlk : (k : Int) < (b : Int) + 1 := by omega
                          have hlj : (j : Int) < (b : Int) + 1 := by omega
                          have hljN : j < b + 1 := by omega
                          have hlkN : k < b + 1 := by omega
                          have hj0 : (0 : Int) ≤ (j : Int) := by omega
                          have i1 := IntWalk.i64_in ((k : Int) - sv) (by omega)
                          have i2 := IntWalk.i64_in (pv + tv) (by omega)
                          have HLT := Lib.hid hlt
                          have HILT := Lib.hid hil
                          clear hjk HJ
                          go_wp2_with fail
                          go_quiet (fail)
                          clear hmx i1 e1 e2 e3
                          rw [← HO.out]
                          rw [← HO.out] at i2
                          have hor : i = 0 ∨ (i ≠ 0 ∧ ov ≤ m.1) ∨ (i ≠ 0 ∧ ¬ ov ≤ m.1) := by omega
                          rcases hor with hor | hor | hor
                          · subst hor
                            rw [if_pos (.inl rfl)] at HM
                            go_wp2
                            go_roundw
                            case rel =>
                              refine ⟨1, by omega, by go_num, ?_, ?_, ?_⟩
                              · rw [HM.out]; exact (HA1.out.set k ov (HST1.out ov)).far hne
                              · rw [HM.out]; exact (HA2.out.far (Ne.symm hne)).set k ((0 : Nat) : Int) (HST2.out ((0 : Nat) : Int))
                              · exact below_setA (below_setA (below_drewN HB.out _) hg1) hg2
                            case measure => first | (simp [intOf]; done) | (simp [intOf]; omega)
                          · obtain ⟨h0, hle⟩ := hor
                            rw [if_pos (.inr hle)] at HM
                            have h0' : ¬ (i : Int) = 0 := by omega
                            go_wp2
                            go_roundw
                            case rel =>
                              refine ⟨i + 1, by omega, by go_num, ?_, ?_, ?_⟩
                              · rw [HM.out]; exact (HA1.out.set k ov (HST1.out ov)).far hne
                              · rw [HM.out]; exact (HA2.out.far (Ne.symm hne)).set k (i : Int) (HST2.out (i : Int))
                              · exact below_setA (below_setA (below_drewN HB.out _) hg1) hg2
                            case measure => first | (simp [intOf]; done) | (simp [intOf]; omega)
                          · obtain ⟨h0, hle⟩ := hor
                            rw [if_neg (by omega)] at HM
                            have h0' : ¬ (i : Int) = 0 := by omega
                            go_wp2
                            go_roundw
                            case rel => exact ⟨i + 1, by omega, by go_num, by rw [HM.out]; exact HA1.out, by rw [HM.out]; exact HA2.out, below_drewN HB.out _⟩
                            case measure => first | (simp [intOf]; done) | (simp [intOf]; omega)
                        · obtain rfl : i = len' := by omega
                          have HF1 : Hid (Arr wr g1 2 (pkT S P i k ++ List.replicate (b - k) 0)) := Lib.hid (by rw [HNX1.out, ← tabA_next]; exact hA1)
                          have HF2 : Hid (Arr wr g2 3 (lasT S P i k ++ List.replicate (b - k) 0)) := Lib.hid (by rw [HNX2.out, ← tabA_next]; exact hA2)
                          have HBF := Lib.hid hB
                          clear hA1 hA2 hB
                          go_wp2
                          go_roundw
                          case rel => exact ⟨k, k + 1, rfl, hlt, by go_num, HF1.out, HF2.out, HBF.out⟩
                          case measure => first | (simp [intOf]; done) | (simp [intOf]; omega)
                    · obtain rfl : k0 = b := by omega
                      have HF2 : Hid (Arr wr g2 3 (lasT S P len' k0)) := Lib.hid (by simpa using hA2)
                      have HBF := Lib.hid hB
                      have hBz := hB.size
                      clear hA1 hA2 hB
                      have hm3 : ∀ W, (Instr.makeSlice 58 (.int .i64 (len' : Int)) (.int .i64 (len' : Int))).run Try.prog W = .ok (.slice (some ⟨W.heap.size, 0, none⟩) len' len') (W.alloc (.cells (ints (List.replicate len' 0)) 2)) := fun W => make_i64 len' (by omega) W
                      go_wp2_with fail
                      clear hm3
                      obtain ⟨W3, hW3⟩ : ∃ W3, wr.alloc (.cells (ints (List.replicate len' 0)) 2) = W3 := ⟨_, rfl⟩
                      have HA2 : Hid (Arr W3 g2 3 (lasT S P len' k0)) := Lib.hid (by rw [← hW3]; exact blk_alloc HF2.out)
                      have HA3 : Hid (Arr W3 wr.heap.size 2 (List.replicate len' 0)) := Lib.hid (by rw [← hW3]; exact blk_new _ _)
                      have HB3 : Hid (Below w.heap.size w W3) := Lib.hid (by rw [← hW3]; exact (by repeat (first | exact Below.refl _ _ | assumption | refine Below.drew ?_ | refine below_drewN ?_ _ | refine Below.alloc ?_ (by first | omega | (simp; done) | (simp; omega)) _ | refine Below.setCell ?_ (by first | omega | (simp; done) | (simp; omega)) _)))
                      have hg3 : w.heap.size ≤ wr.heap.size := hBz
                      have hgn : g2 ≠ wr.heap.size := by have := HF2.out.lt; omega
                      (try rw [hW3])
                      clear hW3 HF2 HBF hBz
                      generalize wr.heap.size = g3 at *
                      go_loopw [17] (fun kv wr => ∃ (q : Int) (f : Nat) (out : List Int), kv = .int .i64 q ∧ q ≤ (k0 : Int) ∧ -1000 ≤ q ∧ q.toNat ≤ f ∧ out.length = len' ∧ pkN S P len' f q.toNat out = Z ∧ (∀ m, m < len' → 0 ≤ out.getD m 0 ∧ out.getD m 0 ≤ (k0 : Int) - q) ∧ Arr wr g2 3 (lasT S P len' k0) ∧ Arr wr g3 2 out ∧ Below w.heap.size w wr) (fun i _ => (intOf i).toNat)
                      case atStart => exact ⟨(k0 : Int), k0, List.replicate len' 0, rfl, by omega, by omega, by omega, by simp, by rw [Int.toNat_natCast]; exact HZ.out, (fun m hm => by rw [List.getD_eq_getElem?_getD, List.getElem?_replicate_of_lt hm]; simp), HA2.out, HA3.out, HB3.out⟩
                      case round =>
                        clear HA2 HA3 HB3 HZ
                        obtain ⟨q, f, out, rfl, hq, hqm, hf, hol, hN, hbo, hA2, hA3, hB⟩ := hrel
                        by_cases hq0 : 0 < q
                        · obtain ⟨n, rfl⟩ : ∃ n : Nat, q = (n : Int) := ⟨q.toNat, by omega⟩
                          obtain ⟨f', rfl⟩ : ∃ f', f = f' + 1 := ⟨f - 1, by omega⟩
                          rw [Int.toNat_natCast, pkN_next S P len' f' n out (by omega)] at hN
                          have hll := pkL_lt (S := S) (P := P) hl0 n
                          have e1 := hA2.cell (i := n) (by rw [lasT_len]; omega)
                          rw [lasT_get S P len' (show 1 ≤ n by omega) (by omega)] at e1
                          generalize pkL S P len' n = l at *
                          have e2 := hA3.cell (i := l) (by omega)
                          have f2 := hA3.fz l
                          obtain ⟨x1, x2⟩ := hbo l hll
                          obtain ⟨b1, o1, rfl, hb1, e3⟩ := H.out.cell hll
                          replace e3 := keep1 hB e3
                          obtain ⟨s1, s2⟩ := HS.out l hll
                          have HBO : Hid (∀ m, m < len' → 0 ≤ (out.set l (out.getD l 0 + 1)).getD m 0 ∧ (out.set l (out.getD l 0 + 1)).getD m 0 ≤ (k0 : Int) - ((n : Int) - S.getD l 0)) := Lib.hid fun m hm => by
                            have h1 := hbo m hm
                            by_cases e : l = m
                            · subst e
                              rw [List.getD_eq_getElem?_getD, List.getElem?_set_self (by omega)]
                              simp only [Option.getD_some]
                              omega
                            · rw [List.getD_eq_getElem?_getD, List.getElem?_set_ne e, ← List.getD_eq_getElem?_getD]
                              omega
                          have HOL : Hid ((out.set l (out.getD l 0 + 1)).length = len') := Lib.hid (by simp [hol])
                          have HN := Lib.hid hN
                          have HA2 := Lib.hid hA2
                          have HA3 := Lib.hid hA3
                          have HB := Lib.hid hB
                          have hne3 : (b1 : Nat) ≠ g3 := by omega
                          generalize hos : out.set l (out.getD l 0 + 1) = out2 at *
                          have HOS := Lib.hid hos
                          clear hbo hN hA2 hA3 hB hos hol
                          generalize out.getD l 0 = x at *
                          generalize S.getD l 0 = sv at *
                          have hlN : n < k0 + 1 := by omega
                          have hqI : (0 : Int) < (n : Int) := by omega
                          have hlI : (l : Int) < (len' : Int) := by omega
                          have i1 := IntWalk.i64_in (x + 1) (by omega)
                          have i2 := IntWalk.i64_in ((n : Int) - sv) (by omega)
                          go_wp2
                          go_roundw
                          case rel =>
                            refine ⟨(n : Int) - sv, f', out2, rfl, by omega, by omega, by omega, HOL.out, HN.out, HBO.out, HA2.out.far hgn, HA3.out.set l (x + 1) HOS.out, below_setA HB.out hg3⟩
                          case measure => first | (simp [intOf]; done) | (simp [intOf]; omega)
                        · have hq0' : ¬ (0 : Int) < q := hq0
                          have HO : Hid (OwnI wr w.heap.size (.slice (some ⟨g3, 0, none⟩) len' len') Z) := Lib.hid (by
                            rw [show q.toNat = 0 by omega, pkN_zero] at hN
                            rw [← hN]
                            exact hA3.own hg3 hol (by unfold maxLen; omega))
                          have HBF := Lib.hid hB
                          clear hA2 hA3 hB hbo hN
                          go_wp2
                          go_ret2
                          exact newI_mk HO.out HBF.out
    · have c2' : ¬ (len' : Int) = (len : Int) := by omega
      obtain ⟨z1, z2⟩ := pk_no (show pkOk S P B = false by rw [HOK.out, show decide (len' = len) = false from decide_eq_false c2]; simp)
      obtain rfl : Z = [] := by rw [← HZ.out, z1]
      obtain rfl : C = 2 := by rw [← HC.out, z2]
      clear HZ HC z1 z2
      go_wp2
      go_ret2
      exact newI_mk (ownI_nil _ _) (by repeat (first | exact Below.refl _ _ | assumption | refine Below.drew ?_ | refine below_drewN ?_ _ | refine Below.alloc ?_ (by first | omega | (simp; done) | (simp; omega)) _ | refine Below.setCell ?_ (by first | omega | (simp; done) | (simp; omega)) _))
end Go.Proofs.Ytgnalhnbdpigdaa
