/- Contract of the reference's CheapestPacks: the packs and the code, in new memory; no old memory turns; condition: the slices can be read. -/
import Derived.Test.YtgnalhnbdpigdaaPackA
import Derived.OwnWalk
namespace Go.Proofs.Ytgnalhnbdpigdaa
open Go.RowKit
set_option linter.unusedVariables false

set_option maxHeartbeats 400000 in
theorem l00Max_any (a b : Int) (w : World) :
    Calls Try.prog 72 #[.int .i64 a, .int .i64 b] w fun e w' => e = .returned (.int .i64 (max a b)) ∧ w = w' := by
  by_cases h1 : b < a
  · go_enter Try.func72, Try.ntmps72
    go_wp2
    go_ret
    exact ⟨ret_int (by omega), rfl⟩
  · go_enter Try.func72, Try.ntmps72
    go_wp2
    go_ret
    exact ⟨ret_int (by omega), rfl⟩
set_option maxHeartbeats 2000000 in
theorem l11Sizes_any (a : Option Addr) (len cap : Nat) (S : List Int) (a' : Option Addr) (len' cap' : Nat) (P : List Int) (w : World) (h : IsRow .i64 w a len cap S) (h' : IsRow .i64 w a' len' cap' P) :
    Calls Try.prog 71 #[.slice a len cap, .slice a' len' cap'] w fun e w' => e = .returned (.bool (insB P 1 100000 && (inB (len : Int) 1 5 && (decide (len' = len) && (insB S 1 1000 && rises S))))) ∧ Below w.heap.size w w' := by
  have hl' := h'.1
  have hm' : len' ≤ maxLen := Nat.le_trans h'.2.1 h'.2.2.1
  unfold maxLen at hm'
  have H := Lib.hid h
  have H' := Lib.hid h'
  have HL' := Lib.hid hl'
  clear h h' hl'
  go_enter Try.func71, Try.ntmps71
  go_wp2
  go_loopw [5] (fun i wr => ∃ k : Nat, k ≤ len' ∧ i = .int .i64 (k : Int) ∧ (∀ m, m < k → 1 ≤ P.getD m 0 ∧ P.getD m 0 ≤ 100000) ∧ Below w.heap.size w wr) (fun i _ => (len' - intOf i).toNat)
  case atStart => exact ⟨0, by omega, rfl, (fun m hm => by omega), Below.refl _ _⟩
  case round =>
    obtain ⟨k, hk, rfl, hI, hB⟩ := hrel
    have HI := Lib.hid hI
    clear hI
    by_cases hlt : k < len'
    · have hlt' : (k : Int) < (len' : Int) := by omega
      obtain ⟨b1, o1, rfl, hb1, e1⟩ := (H'.out.below hB).cell hlt
      cases hx : inB (P.getD k 0) 1 100000
      · have HR := Lib.hid (insB_no (by rw [HL'.out]; exact hlt) hx)
        have HX := Lib.hid hx
        clear hx
        generalize P.getD k 0 = x at *
        go_wp2_with fail
        refine (l00In_any _ _ _ _).mono ?_
        rintro e1 w1 ⟨rfl, rfl⟩
        rw [HX.out]
        go_wp2
        go_ret
        exact ⟨ret_bool (by rw [HR.out]; rfl), (by repeat (first | exact Below.refl _ _ | assumption | refine Below.drew ?_ | refine below_drewN ?_ _ | refine Below.alloc ?_ (by first | omega | (simp; done) | (simp; omega)) _ | refine Below.setCell ?_ (by first | omega | (simp; done) | (simp; omega)) _))⟩
      · have HX := Lib.hid hx
        have HS : Hid (∀ m, m < k + 1 → 1 ≤ P.getD m 0 ∧ P.getD m 0 ≤ 100000) := Lib.hid fun m hm => by
          rcases Nat.lt_succ_iff_lt_or_eq.1 hm with h | rfl
          · exact HI.out m h
          · exact inB_t hx
        clear hx
        generalize P.getD k 0 = x at *
        go_wp2_with fail
        refine (l00In_any _ _ _ _).mono ?_
        rintro e1 w1 ⟨rfl, rfl⟩
        rw [HX.out]
        go_wp2
        go_roundw
        case rel => exact ⟨k + 1, by omega, by go_num, HS.out, hB⟩
        case measure => simp [intOf]; omega
    · have HR := Lib.hid (insB_mk (zs := P) (lo := 1) (hi := 100000) (fun m hm => HI.out m (by rw [HL'.out] at hm; omega)))
      have hlt' : ¬ (k : Int) < (len' : Int) := by omega
      have hBz := hB.size
      go_wp2_with fail
      refine (l00In_any _ _ _ _).mono ?_
      rintro e1 w1 ⟨rfl, rfl⟩
      cases c1 : inB (len : Int) 1 5
      · go_wp2
        go_ret
        exact ⟨ret_bool (by rw [HR.out, c1]; rfl), (by repeat (first | exact Below.refl _ _ | assumption | refine Below.drew ?_ | refine below_drewN ?_ _ | refine Below.alloc ?_ (by first | omega | (simp; done) | (simp; omega)) _ | refine Below.setCell ?_ (by first | omega | (simp; done) | (simp; omega)) _))⟩
      · by_cases c2 : len' = len
        · subst c2
          go_wp2_with fail
          refine (l00Rises_any _ _ _ _ _ _ _ (H.out.below (by repeat (first | exact Below.refl _ _ | assumption | refine Below.drew ?_ | refine below_drewN ?_ _ | refine Below.alloc ?_ (by first | omega | (simp; done) | (simp; omega)) _ | refine Below.setCell ?_ (by first | omega | (simp; done) | (simp; omega)) _)))).mono ?_
          rintro e2 w2 ⟨rfl, hb2⟩
          have ha2 := below_call hB hb2
          go_wp2
          go_ret
          exact ⟨ret_bool (by rw [HR.out]; simp), ha2⟩
        · have c2' : ¬ (len' : Int) = (len : Int) := by omega
          have HD := Lib.hid (show decide (len' = len) = false from decide_eq_false c2)
          go_wp2
          go_ret
          exact ⟨ret_bool (by rw [HR.out, HD.out]; simp), (by repeat (first | exact Below.refl _ _ | assumption | refine Below.drew ?_ | refine below_drewN ?_ _ | refine Below.alloc ?_ (by first | omega | (simp; done) | (simp; omega)) _ | refine Below.setCell ?_ (by first | omega | (simp; done) | (simp; omega)) _))⟩
set_option maxRecDepth 100000 in
set_option maxHeartbeats 8000000 in
theorem specCheapestPacks_any (a : Option Addr) (len cap : Nat) (S : List Int) (a' : Option Addr) (len' cap' : Nat) (P : List Int) (B : Int) (w : World) (h : IsRow .i64 w a len cap S) (h' : IsRow .i64 w a' len' cap' P) :
    Calls Try.prog 37 #[.slice a len cap, .slice a' len' cap', .int .i64 B] w (NewI w (pkI S P B) (pkC S P B)) := by
  have hl := h.1
  have hl' := h'.1
  have HOK := Lib.hid (show pkOk S P B = (inB (len : Int) 1 5 && (decide (len' = len) && (insB S 1 1000 && (insB P 1 100000 && (inB B 0 3000 && rises S))))) by unfold pkOk; rw [hl, hl'])
  have H := Lib.hid h
  have H' := Lib.hid h'
  have HL := Lib.hid hl
  have HL' := Lib.hid hl'
  clear h h' hl hl'
  generalize hZ : pkI S P B = Z
  generalize hC : pkC S P B = C
  have HZ := Lib.hid hZ
  have HC := Lib.hid hC
  clear hZ hC
  go_enter Try.func37, Try.ntmps37
  go_wp2_with fail
  refine (l11Sizes_any _ _ _ _ _ _ _ _ _ (H.out.below (by repeat (first | exact Below.refl _ _ | assumption | refine Below.drew ?_ | refine below_drewN ?_ _ | refine Below.alloc ?_ (by first | omega | (simp; done) | (simp; omega)) _ | refine Below.setCell ?_ (by first | omega | (simp; done) | (simp; omega)) _))) (H'.out.below (by repeat (first | exact Below.refl _ _ | assumption | refine Below.drew ?_ | refine below_drewN ?_ _ | refine Below.alloc ?_ (by first | omega | (simp; done) | (simp; omega)) _ | refine Below.setCell ?_ (by first | omega | (simp; done) | (simp; omega)) _)))).mono ?_
  rintro e2 w2 ⟨rfl, hb2⟩
  have hz2 := hb2.size
  try simp at hz2
  have ha2 : Below w.heap.size w w2 := below_call (by repeat (first | exact Below.refl _ _ | assumption | refine Below.drew ?_ | refine below_drewN ?_ _ | refine Below.alloc ?_ (by first | omega | (simp; done) | (simp; omega)) _ | refine Below.setCell ?_ (by first | omega | (simp; done) | (simp; omega)) _)) hb2
  cases c1 : (insB P 1 100000 && (inB (len : Int) 1 5 && (decide (len' = len) && (insB S 1 1000 && rises S))))
  · obtain ⟨z1, z2⟩ := pk_no (show pkOk S P B = false by
      cases hq : pkOk S P B
      · rfl
      · rw [HOK.out] at hq
        simp only [Bool.and_eq_true] at hq
        obtain ⟨q1, q2, q3, q4, q5, q6⟩ := hq
        rw [q1, q2, q3, q4, q6] at c1
        cases c1)
    obtain rfl : Z = [] := by rw [← HZ.out, z1]
    obtain rfl : C = 2 := by rw [← HC.out, z2]
    clear HZ HC z1 z2 c1
    go_wp2
    go_ret2
    exact newI_mk (ownI_nil _ _) (by repeat (first | exact Below.refl _ _ | assumption | refine Below.drew ?_ | refine below_drewN ?_ _ | refine Below.alloc ?_ (by first | omega | (simp; done) | (simp; omega)) _ | refine Below.setCell ?_ (by first | omega | (simp; done) | (simp; omega)) _))
  · go_wp2_with fail
    refine (l00In_any _ _ _ _).mono ?_
    rintro e1 w1 ⟨rfl, rfl⟩
    cases c5 : inB B 0 3000
    · obtain ⟨z1, z2⟩ := pk_no (show pkOk S P B = false by rw [HOK.out, c5]; simp)
      obtain rfl : Z = [] := by rw [← HZ.out, z1]
      obtain rfl : C = 2 := by rw [← HC.out, z2]
      clear HZ HC z1 z2 c1
      go_wp2
      go_ret2
      exact newI_mk (ownI_nil _ _) (by repeat (first | exact Below.refl _ _ | assumption | refine Below.drew ?_ | refine below_drewN ?_ _ | refine Below.alloc ?_ (by first | omega | (simp; done) | (simp; omega)) _ | refine Below.setCell ?_ (by first | omega | (simp; done) | (simp; omega)) _))
    · simp only [Bool.and_eq_true, decide_eq_true_eq] at c1
      obtain ⟨c4, c0, rfl, c3, c6⟩ := c1
      obtain ⟨l1, l2⟩ := inB_t c0
      obtain ⟨z1, z2⟩ := pk_yes (show pkOk S P B = true by rw [HOK.out, c0, c3, c4, c5, c6]; simp)
      obtain ⟨d1, d2⟩ := inB_t c5
      obtain ⟨b, rfl⟩ : ∃ b : Nat, B = (b : Int) := ⟨B.toNat, by omega⟩
      have HS := Lib.hid (insB_t c3)
      have HP := Lib.hid (insB_t c4)
      rw [HL.out] at HS
      rw [HL'.out] at HP
      have hlen : len' ≤ 5 := by omega
      obtain rfl : C = 0 := by rw [← HC.out, z2]
      replace HZ := Lib.hid (show pkN S P len' b b (List.replicate len' 0) = Z by rw [← HZ.out, z1, HL.out]; rfl)
      clear HC z1 z2 HOK c0 c3 c4 c5 c6
      have hm1 : ∀ W, (Instr.makeSlice 58 (.int .i64 ((b : Int) + 1)) (.int .i64 ((b : Int) + 1))).run Try.prog W = .ok (.slice (some ⟨W.heap.size, 0, none⟩) (b + 1) (b + 1)) (W.alloc (.cells (ints (List.replicate (b + 1) 0)) 2)) := fun W => make_i64 (b + 1) (by omega) W
      have i1 := IntWalk.i64_in ((b : Int) + 1) (by omega)
      go_wp2_with fail
      clear hm1
      obtain ⟨W1, hW1⟩ : ∃ W1, w2.alloc (.cells (ints (List.replicate (b + 1) 0)) 2) = W1 := ⟨_, rfl⟩
      have HA1 : Hid (Arr W1 w2.heap.size 2 (List.replicate (b + 1) 0)) := Lib.hid (by rw [← hW1]; exact blk_new _ _)
      have HB1 : Hid (Below w.heap.size w W1) := Lib.hid (by rw [← hW1]; exact (by repeat (first | exact Below.refl _ _ | assumption | refine Below.drew ?_ | refine below_drewN ?_ _ | refine Below.alloc ?_ (by first | omega | (simp; done) | (simp; omega)) _ | refine Below.setCell ?_ (by first | omega | (simp; done) | (simp; omega)) _)))
      have hg1 : w.heap.size ≤ w2.heap.size := by omega
      (try rw [hW1])
      clear hW1 hb2 ha2 hz2
      generalize w2.heap.size = g1 at *
      have hl0 : 0 < len' := by omega
      have HS1 := Lib.hid (fun i hi => (HS.out i hi).1)
      go_loopw [9] (fun kv wr => ∃ k0 k : Nat, k = k0 + 1 ∧ k0 ≤ b ∧ kv = .int .i64 (k : Int) ∧ Arr wr g1 2 (pkT S P len' k0 ++ List.replicate (b - k0) 0) ∧ Below w.heap.size w wr) (fun i _ => (b + 1 - intOf i).toNat)
      case atStart => exact ⟨0, 1, rfl, by omega, rfl, HA1.out, HB1.out⟩
      case round =>
        clear HA1 HB1
        obtain ⟨k0, k, hk0, hkb, rfl, hA1, hB⟩ := hrel
        by_cases hlt : k ≤ b
        · have hlt' : (k : Int) ≤ (b : Int) := by omega
          have HA1 : Hid (Arr wr g1 2 (tabA (pkT S P len' k0) 0 (b - k))) := Lib.hid (by rw [tabA_zero, show b - k + 1 = b - k0 by omega]; exact hA1)
          have HT1 := Lib.hid (show (pkT S P len' k0).length = k by rw [pkT_len]; omega)
          have HTV := Lib.hid (fun j (hj : j < k) => show 0 ≤ (pkT S P len' k0).getD j 0 ∧ (pkT S P len' k0).getD j 0 ≤ 300000000 by
            rw [pkT_val S P len' (show j ≤ k0 by omega)]
            have := pkV_bd HS1.out HP.out j
            omega)
          have HNX1 := Lib.hid (show pkT S P len' k = pkT S P len' k0 ++ [(pkM (pkO S P (pkT S P len' k0) k) len').1] by rw [hk0]; rfl)
          have hk1 : 1 ≤ k := by omega
          have HB := Lib.hid hB
          clear hA1 hk0 hkb hB
          generalize pkT S P len' k0 = T at *
          go_wp2_with fail
          go_loopw [10] (fun iv wr => ∃ i : Nat, i ≤ len' ∧ iv = .int .i64 (i : Int) ∧ Arr wr g1 2 (tabA T (pkM (pkO S P T k) i).1 (b - k)) ∧ Below w.heap.size w wr) (fun i _ => (len' - intOf i).toNat)
          case atStart => exact ⟨0, by omega, rfl, HA1.out, HB.out⟩
          case round =>
            clear HA1 HB
            obtain ⟨i, hi, rfl, hA1, hB⟩ := hrel
            by_cases hil : i < len'
            · have hil' : (i : Int) < (len' : Int) := by omega
              obtain ⟨b1, o1, rfl, hb1, e1⟩ := (H.out.below hB).cell hil
              obtain ⟨b2, o2, rfl, hb2', e2⟩ := (H'.out.below hB).cell hil
              obtain ⟨s1, s2⟩ := HS.out i hil
              obtain ⟨p1, p2⟩ := HP.out i hil
              have HM := Lib.hid (show (pkM (pkO S P T k) (i + 1)).1 = if i = 0 ∨ pkO S P T k i < (pkM (pkO S P T k) i).1 then pkO S P T k i else (pkM (pkO S P T k) i).1 by rw [← pkR_is, ← pkR_is]; rfl)
              have HO := Lib.hid (show pkO S P T k i = P.getD i 0 + T.getD ((k : Int) - S.getD i 0).toNat 0 from rfl)
              obtain ⟨j, hj⟩ : ∃ j : Nat, ((k : Int) - S.getD i 0).toNat = j := ⟨_, rfl⟩
              rw [hj] at HO
              have hjk : j < k := by omega
              have HMX : Hid (max 0 ((k : Int) - S.getD i 0) = (j : Int)) := Lib.hid (by omega)
              obtain ⟨t1, t2⟩ := HTV.out j hjk
              have e3 : wr.cell? ⟨g1, j, none⟩ = some (.int .i64 (T.getD j 0)) := by rw [hA1.cell (by rw [tabA_len, HT1.out]; omega), tabA_old _ _ _ (by rw [HT1.out]; omega)]
              have e4 : wr.cell? ⟨g1, k, none⟩ = some (.int .i64 (pkM (pkO S P T k) i).1) := by
                rw [hA1.cell (by rw [tabA_len, HT1.out]; omega)]
                have := tabA_at T (pkM (pkO S P T k) i).1 (b - k)
                rw [HT1.out] at this
                rw [this]
              have f4 := hA1.fz k
              have HST1 := Lib.hid (fun y => show (tabA T (pkM (pkO S P T k) i).1 (b - k)).set k y = tabA T y (b - k) by rw [← HT1.out]; exact tabA_set T _ _ _)
              have HA1 := Lib.hid hA1
              have HB := Lib.hid hB
              have HJ := Lib.hid hj
              clear hA1 hB hj
              generalize (pkM (pkO S P T k) i).1 = m at *
              generalize pkO S P T k i = ov at *
              generalize S.getD i 0 = sv at *
              generalize P.getD i 0 = pv at *
              generalize T.getD j 0 = tv at *
              have hlk : (k : Int) < (b : Int) + 1 := by omega
              have hlj : (j : Int) < (b : Int) + 1 := by omega
              have hljN : j < b + 1 := by omega
              have hlkN : k < b + 1 := by omega
              have hj0 : (0 : Int) ≤ (j : Int) := by omega
              have i1 := IntWalk.i64_in ((k : Int) - sv) (by omega)
              have i2 := IntWalk.i64_in (pv + tv) (by omega)
              have HLT := Lib.hid hlt
              have HILT := Lib.hid hil
              clear hjk HJ
              go_wp2_with fail
              go_quiet ((go_at_call 72; exact Calls.quiet_of_same ((l00Max_any _ _ _).mono fun _ _ h => ⟨h.1.trans (by rw [HMX.out]), h.2.symm⟩)))
              clear i1 e1 e2 e3
              rw [← HO.out]
              rw [← HO.out] at i2
              have hor : i = 0 ∨ (i ≠ 0 ∧ ov < m) ∨ (i ≠ 0 ∧ ¬ ov < m) := by omega
              rcases hor with hor | hor | hor
              · subst hor
                rw [if_pos (.inl rfl)] at HM
                go_wp2
                go_roundw
                case rel => exact ⟨1, by omega, by go_num, by rw [HM.out]; exact HA1.out.set k ov (HST1.out ov), below_setA (below_drewN HB.out _) hg1⟩
                case measure => first | (simp [intOf]; done) | (simp [intOf]; omega)
              · obtain ⟨h0, hle⟩ := hor
                rw [if_pos (.inr hle)] at HM
                have h0' : ¬ (i : Int) = 0 := by omega
                go_wp2
                go_roundw
                case rel => exact ⟨i + 1, by omega, by go_num, by rw [HM.out]; exact HA1.out.set k ov (HST1.out ov), below_setA (below_drewN HB.out _) hg1⟩
                case measure => first | (simp [intOf]; done) | (simp [intOf]; omega)
              · obtain ⟨h0, hle⟩ := hor
                rw [if_neg (by omega)] at HM
                have h0' : ¬ (i : Int) = 0 := by omega
                go_wp2
                go_roundw
                case rel => exact ⟨i + 1, by omega, by go_num, by rw [HM.out]; exact HA1.out, below_drewN HB.out _⟩
                case measure => first | (simp [intOf]; done) | (simp [intOf]; omega)
            · obtain rfl : i = len' := by omega
              have HF1 : Hid (Arr wr g1 2 (pkT S P i k ++ List.replicate (b - k) 0)) := Lib.hid (by rw [HNX1.out, ← tabA_next]; exact hA1)
              have HBF := Lib.hid hB
              clear hA1 hB
              go_wp2
              go_roundw
              case rel => exact ⟨k, k + 1, rfl, hlt, by go_num, HF1.out, HBF.out⟩
              case measure => first | (simp [intOf]; done) | (simp [intOf]; omega)
        · have hlt' : ¬ (k : Int) ≤ (b : Int) := by omega
          have HF1 : Hid (Arr wr g1 2 (pkT S P len' b)) := Lib.hid (by { (have e : k0 = b := by omega); rw [e] at hA1; simpa using hA1 })
          have HBF := Lib.hid hB
          have hBz := hB.size
          clear hA1 hB
          have hm3 : ∀ W, (Instr.makeSlice 58 (.int .i64 (len' : Int)) (.int .i64 (len' : Int))).run Try.prog W = .ok (.slice (some ⟨W.heap.size, 0, none⟩) len' len') (W.alloc (.cells (ints (List.replicate len' 0)) 2)) := fun W => make_i64 len' (by omega) W
          go_wp2_with fail
          clear hm3
          obtain ⟨W3, hW3⟩ : ∃ W3, wr.alloc (.cells (ints (List.replicate len' 0)) 2) = W3 := ⟨_, rfl⟩
          have HA2 : Hid (Arr W3 g1 2 (pkT S P len' b)) := Lib.hid (by rw [← hW3]; exact blk_alloc HF1.out)
          have HA3 : Hid (Arr W3 wr.heap.size 2 (List.replicate len' 0)) := Lib.hid (by rw [← hW3]; exact blk_new _ _)
          have HB3 : Hid (Below w.heap.size w W3) := Lib.hid (by rw [← hW3]; exact (by repeat (first | exact Below.refl _ _ | assumption | refine Below.drew ?_ | refine below_drewN ?_ _ | refine Below.alloc ?_ (by first | omega | (simp; done) | (simp; omega)) _ | refine Below.setCell ?_ (by first | omega | (simp; done) | (simp; omega)) _)))
          have hg3 : w.heap.size ≤ wr.heap.size := hBz
          have hgn : g1 ≠ wr.heap.size := by have := HF1.out.lt; omega
          (try rw [hW3])
          clear hW3 HF1 HBF hBz
          generalize wr.heap.size = g3 at *
          go_loopw [13] (fun kv wr => ∃ (q f : Nat) (out : List Int), kv = .int .i64 (q : Int) ∧ q ≤ b ∧ q ≤ f ∧ out.length = len' ∧ pkN S P len' f q out = Z ∧ (∀ m, m < len' → 0 ≤ out.getD m 0 ∧ out.getD m 0 ≤ (b : Int) - q) ∧ Arr wr g1 2 (pkT S P len' b) ∧ Arr wr g3 2 out ∧ Below w.heap.size w wr) (fun i _ => (intOf i).toNat)
          case atStart => exact ⟨b, b, List.replicate len' 0, rfl, by omega, by omega, by simp, HZ.out, (fun m hm => by rw [List.getD_eq_getElem?_getD, List.getElem?_replicate_of_lt hm]; simp), HA2.out, HA3.out, HB3.out⟩
          case round =>
            clear HA2 HA3 HB3 HZ
            obtain ⟨q, f, out, rfl, hq, hf, hol, hN, hbo, hA2, hA3, hB⟩ := hrel
            by_cases hq0 : 0 < q
            · obtain ⟨f', rfl⟩ : ∃ f', f = f' + 1 := ⟨f - 1, by omega⟩
              rw [pkN_next S P len' f' q out (by omega)] at hN
              have hll := pkL_lt (S := S) (P := P) hl0 q
              obtain ⟨q1, rfl⟩ : ∃ q1, q = q1 + 1 := ⟨q - 1, by omega⟩
              have HEQ : Hid (pkW S P len' (q1 + 1) (pkL S P len' (q1 + 1)) = pkV S P len' (q1 + 1) ∧ ∀ j, pkL S P len' (q1 + 1) < j → j < len' → pkV S P len' (q1 + 1) < pkW S P len' (q1 + 1) j) := Lib.hid (by
                obtain ⟨_, h2, h3⟩ := pkM_last (pkW S P len' (q1 + 1)) len' hl0
                rw [pkV_next HS1.out]
                exact ⟨h2, h3⟩)
              have HWD := Lib.hid (fun i => show pkW S P len' (q1 + 1) i = P.getD i 0 + pkV S P len' ((q1 + 1 : Nat) - S.getD i 0 : Int).toNat from rfl)
              have HVB := Lib.hid (fun j (hj : j ≤ b) => show 0 ≤ pkV S P len' j ∧ pkV S P len' j ≤ 300000000 by
                have := pkV_bd HS1.out HP.out j
                omega)
              have eq1 : wr.cell? ⟨g1, q1 + 1, none⟩ = some (.int .i64 (pkV S P len' (q1 + 1))) := by rw [hA2.cell (by rw [pkT_len]; omega), pkT_val S P len' hq]
              generalize pkL S P len' (q1 + 1) = l at *
              have HQ : Hid (1 ≤ q1 + 1) := Lib.hid (by omega)
              generalize hqq : q1 + 1 = q at *
              have HN := Lib.hid hN
              have HBO := Lib.hid hbo
              have HOL := Lib.hid hol
              have HA2 := Lib.hid hA2
              have HA3 := Lib.hid hA3
              have HB := Lib.hid hB
              clear hqq hN hbo hol hA2 hA3 hB
              have hqI : (0 : Int) < (q : Int) := by omega
              clear eq1
              go_wp2_with fail
              go_loopw [13, 14] (fun qv iv wr => ∃ i : Nat, i < len' ∧ l ≤ i ∧ qv = .int .i64 (q : Int) ∧ iv = .int .i64 (i : Int) ∧ Arr wr g1 2 (pkT S P len' b) ∧ Arr wr g3 2 out ∧ Below w.heap.size w wr) (fun _ i _ => (intOf i).toNat)
              case atStart => exact ⟨len' - 1, by omega, by omega, rfl, by go_num, HA2.out, HA3.out, HB.out⟩
              case round =>
                clear HA2 HA3 HB
                obtain ⟨i, hi, hli, rfl, rfl, hA2, hA3, hB⟩ := hrel
                have hi' : (i : Int) < (len' : Int) := by omega
                obtain ⟨b1, o1, rfl, hb1, e1⟩ := (H.out.below hB).cell hi
                obtain ⟨b2, o2, rfl, hb2', e2⟩ := (H'.out.below hB).cell hi
                obtain ⟨s1, s2⟩ := HS.out i hi
                obtain ⟨p1, p2⟩ := HP.out i hi
                obtain ⟨j, hj⟩ : ∃ j : Nat, ((q : Int) - S.getD i 0).toNat = j := ⟨_, rfl⟩
                have hjq : j < q := by omega
                have HMX : Hid (max 0 ((q : Int) - S.getD i 0) = (j : Int)) := Lib.hid (by omega)
                have e3 : wr.cell? ⟨g1, j, none⟩ = some (.int .i64 (pkV S P len' j)) := by rw [hA2.cell (by rw [pkT_len]; omega), pkT_val S P len' (by omega)]
                have e4 : wr.cell? ⟨g1, q, none⟩ = some (.int .i64 (pkV S P len' q)) := by rw [hA2.cell (by rw [pkT_len]; omega), pkT_val S P len' (by omega)]
                obtain ⟨v1, v2⟩ := HVB.out j (by omega)
                have HWi := Lib.hid (HWD.out i)
                rw [hj] at HWi
                have e5 := hA3.cell (i := i) (by rw [HOL.out]; exact hi)
                have f5 := hA3.fz i
                obtain ⟨x1, x2⟩ := HBO.out i hi
                have hljN : j < b + 1 := by omega
                have hlqN : q < b + 1 := by omega
                have i1 := IntWalk.i64_in ((q : Int) - S.getD i 0) (by omega)
                have i2 := IntWalk.i64_in (P.getD i 0 + pkV S P len' j) (by omega)
                have i3 := IntWalk.i64_in (out.getD i 0 + 1) (by omega)
                have HA2 := Lib.hid hA2
                have HA3 := Lib.hid hA3
                have HB := Lib.hid hB
                have HJ := Lib.hid hj
                clear hA2 hA3 hB hj
                by_cases hil : i = l
                · subst hil
                  have HBO2 : Hid (∀ m, m < len' → 0 ≤ (out.set i (out.getD i 0 + 1)).getD m 0 ∧ (out.set i (out.getD i 0 + 1)).getD m 0 ≤ (b : Int) - (j : Int)) := Lib.hid fun m hm => by
                    have h1 := HBO.out m hm
                    by_cases e : i = m
                    · subst e
                      rw [List.getD_eq_getElem?_getD, List.getElem?_set_self (by rw [HOL.out]; omega)]
                      simp only [Option.getD_some]
                      omega
                    · rw [List.getD_eq_getElem?_getD, List.getElem?_set_ne e, ← List.getD_eq_getElem?_getD]
                      omega
                  have HOL2 : Hid ((out.set i (out.getD i 0 + 1)).length = len') := Lib.hid (by rw [List.length_set]; exact HOL.out)
                  rw [HJ.out] at HN
                  have heq : P.getD i 0 + pkV S P len' j = pkV S P len' q := by rw [← HWi.out]; exact HEQ.out.1
                  rw [heq] at i2
                  generalize hos : out.set i (out.getD i 0 + 1) = out2 at *
                  have HOS := Lib.hid hos
                  have HEQ' := Lib.hid heq
                  clear hos HEQ HWi HWD HVB heq HBO HOL
                  generalize out.getD i 0 = x at *
                  generalize S.getD i 0 = sv at *
                  generalize P.getD i 0 = pv at *
                  generalize pkV S P len' j = tv at *
                  generalize pkV S P len' q = vv at *
                  have heq2 : pv + tv = vv := HEQ'.out
                  go_wp2_with fail
                  refine (l00Max_any _ _ _).mono ?_
                  rintro e1 w1 ⟨rfl, rfl⟩
                  rw [HMX.out]
                  go_wp2_with fail
                  go_quiet (fail)
                  go_wp2
                  go_roundw
                  case rel => exact ⟨j, f', out2, rfl, by omega, by omega, HOL2.out, HN.out, HBO2.out, (HA2.out.far hgn), HA3.out.set i (x + 1) HOS.out, below_setA (below_drewN HB.out _) hg3⟩
                  case measure => first | (simp [intOf]; done) | (simp [intOf]; omega)
                · have hne : pkV S P len' q < P.getD i 0 + pkV S P len' j := by rw [← HWi.out]; exact HEQ.out.2 i (by omega) hi
                  generalize out.getD i 0 = x at *
                  generalize S.getD i 0 = sv at *
                  generalize P.getD i 0 = pv at *
                  generalize pkV S P len' j = tv at *
                  generalize pkV S P len' q = vv at *
                  have hne2 : ¬ pv + tv = vv := by omega
                  have hlt2 : l < i := by omega
                  clear hne
                  go_wp2_with fail
                  refine (l00Max_any _ _ _).mono ?_
                  rintro e1 w1 ⟨rfl, rfl⟩
                  rw [HMX.out]
                  go_wp2_with fail
                  go_quiet (fail)
                  go_wp2
                  go_roundw
                  case rel => exact ⟨i - 1, by omega, by omega, rfl, by go_num, HA2.out, HA3.out, below_drewN HB.out _⟩
                  case measure => first | (simp [intOf]; done) | (simp [intOf]; omega)
            · have hq0' : ¬ (0 : Int) < (q : Int) := by omega
              have HO : Hid (OwnI wr w.heap.size (.slice (some ⟨g3, 0, none⟩) len' len') Z) := Lib.hid (by
                rw [show q = 0 by omega, pkN_zero] at hN
                rw [← hN]
                exact hA3.own hg3 hol (by unfold maxLen; omega))
              have HBF := Lib.hid hB
              clear hA2 hA3 hB hbo hN
              go_wp2
              go_ret2
              exact newI_mk HO.out HBF.out
end Go.Proofs.Ytgnalhnbdpigdaa
