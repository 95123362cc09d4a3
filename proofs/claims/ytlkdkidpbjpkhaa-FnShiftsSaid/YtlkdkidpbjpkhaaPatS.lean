/- Contract of the reference's ValidPattern. -/
import Derived.Test.YtlkdkidpbjpkhaaPatV
namespace Go.Proofs.Ytlkdkidpbjpkhaa
open Go.RowKit
theorem IsStrs.same {w : World} {b o len cap : Nat} {ss : List ByteArray} (h : IsStrs w (some ⟨b, o, none⟩) len cap ss) {i : Nat} (hi : i < len) : w.cell? ⟨b, o + i, none⟩ = some (.string (ss.getD i ByteArray.empty)) := by
  obtain ⟨b', o', e, _, hc⟩ := h.cell hi
  injection e with e
  injection e with e1 e2
  subst e1 e2
  exact hc
theorem IsStrs.addr {w : World} {a : Option Addr} {len cap : Nat} {ss : List ByteArray} (h : IsStrs w a len cap ss) (hi : 0 < len) : ∃ b o, a = some ⟨b, o, none⟩ ∧ b < w.heap.size := by
  obtain ⟨b', o', e, hb, _⟩ := h.cell hi
  exact ⟨b', o', e, hb⟩
theorem patC_test (c : UInt8) : patC c = false ↔ (¬ (c.toNat : Int) = 35 ∧ ¬ (c.toNat : Int) = 46) := by
  unfold patC
  rw [Bool.or_eq_false_iff, decide_eq_false_iff_not, decide_eq_false_iff_not]
  have e : ∀ d : UInt8, c = d ↔ (c.toNat : Int) = (d.toNat : Int) := fun d => ⟨fun h => by rw [h], fun h => UInt8.toNat_inj.1 (by omega)⟩
  rw [e 35, e 46]
  rfl
set_option maxRecDepth 100000 in
set_option maxHeartbeats 4000000 in
theorem l14Ok_any (a : Option Addr) (len cap : Nat) (ss : List ByteArray) (w : World) (h : IsStrs w a len cap ss) :
    Calls Try.prog 49 #[.slice a len cap] w fun e w' => e = .returned (.bool (patB ss)) ∧ Below w.heap.size w w' := by
  have hl := h.1
  have hm : len ≤ maxLen := Nat.le_trans h.2.1 h.2.2.1
  unfold maxLen at hm
  have HR : Hid (patB ss = (inB (len : Int) 1 24 && rowsB (patN ss) ss)) := Lib.hid (by unfold patB; rw [hl])
  have H := Lib.hid h
  have HL := Lib.hid hl
  have HX := Lib.hid h.max
  clear h hl
  go_enter Try.func49, Try.ntmps49
  go_wp2
  go_loopw [3, 4] (fun i _ wr => ∃ k : Nat, k ≤ len ∧ i = .int .i64 (k : Int) ∧ (∀ m, m < k → rowB (patN ss) (ss.getD m ByteArray.empty) = true) ∧ Below w.heap.size w wr) (fun i _ _ => (len - intOf i).toNat)
  case atStart => exact ⟨0, by omega, rfl, fun m hm => by omega, Below.refl _ _⟩
  case round =>
    obtain ⟨k, hk, rfl, hI, hB⟩ := hrel
    have HI := Lib.hid hI
    clear hI
    by_cases hlt : k < len
    · have hlt' : (k : Int) < (len : Int) := by omega
      have hk0 : (0 : Int) ≤ (k : Int) := by omega
      have hl0 : (0 : Int) < (len : Int) := by omega
      obtain ⟨b, o, rfl, hb⟩ := H.out.addr (by omega)
      have hc := (H.out.below hB).same hlt
      have hc0 := (H.out.below hB).same (i := 0) (by omega)
      simp only [Nat.add_zero] at hc0
      have m1 := HX.out k
      have m0 := HX.out 0
      unfold maxLen at m0 m1
      have hrow : rowB (patN ss) (ss.getD k ByteArray.empty) = (inB ((ss.getD k ByteArray.empty).size : Int) 1 24 && (decide ((ss.getD k ByteArray.empty).size = (ss.getD 0 ByteArray.empty).size) && onlyB (ss.getD k ByteArray.empty))) := rfl
      have HRow := Lib.hid hrow
      have HNo : Hid (rowB (patN ss) (ss.getD k ByteArray.empty) = false → patB ss = false) := Lib.hid fun h => by
        rw [HR.out, rowsB_no (by rw [HL.out]; exact hlt) h, Bool.and_false]
      have HYes : Hid (rowB (patN ss) (ss.getD k ByteArray.empty) = true → ∀ m, m < k + 1 → rowB (patN ss) (ss.getD m ByteArray.empty) = true) := Lib.hid fun h m hm => by
        rcases Nat.lt_succ_iff_lt_or_eq.1 hm with h' | rfl
        · exact HI.out m h'
        · exact h
      clear hrow
      generalize ss.getD k ByteArray.empty = x at *
      generalize hx0 : ss.getD 0 ByteArray.empty = x0 at *
      have HX0 := Lib.hid hx0
      clear hx0
      by_cases e2 : x.size = x0.size
      · have T2 : ((x.size : Int) != (x0.size : Int)) = false := by simp; omega
        have X2 := Lib.hid (decide_eq_true e2)
        have HW := Lib.hid (fun W => l00In_any (x.size : Int) 1 24 W)
        cases e1 : inB (x.size : Int) 1 24
        · have HF := Lib.hid (HNo.out (by rw [HRow.out, e1]; rfl))
          have X1 := Lib.hid e1
          clear e1 e2
          go_wp2
          go_quiet ((go_at_call 58; exact Calls.quiet_of_same ((l00In_any _ _ _ _).mono fun _ _ h => ⟨h.1.trans (by rw [X1.out]), h.2.symm⟩)))
          go_wp2
          go_ret
          exact ⟨ret_bool (by rw [HF.out]), (by repeat (first | exact Below.refl _ _ | assumption | refine Below.drew ?_ | refine below_drewN ?_ _ | refine Below.alloc ?_ (by first | omega | (simp; done) | (simp; omega)) _ | refine Below.setCell ?_ (by first | omega | (simp; done) | (simp; omega)) _))⟩
        · have X1 := Lib.hid e1
          clear e1 e2
          go_wp2
          go_quiet ((go_at_call 58; exact Calls.quiet_of_same ((l00In_any _ _ _ _).mono fun _ _ h => ⟨h.1.trans (by rw [X1.out]), h.2.symm⟩)))
          go_wp2_with fail
          obtain ⟨wo, hwo⟩ : ∃ wo : World, wo = wr.drewN nq := ⟨_, rfl⟩
          have hBo : Below w.heap.size w wo := by rw [hwo]; exact (by repeat (first | exact Below.refl _ _ | assumption | refine Below.drew ?_ | refine below_drewN ?_ _ | refine Below.alloc ?_ (by first | omega | (simp; done) | (simp; omega)) _ | refine Below.setCell ?_ (by first | omega | (simp; done) | (simp; omega)) _))
          have hco : wo.cell? ⟨b, o + k, none⟩ = some (.string x) := by rw [hwo]; exact hc
          rw [← hwo]
          clear hwo hc hc0
          go_loop [4] (fun i => ∃ j : Nat, j ≤ x.size ∧ i = .int .i64 (j : Int) ∧ ∀ m, m < j → patC (x.data.toList.getD m 0) = true) (fun i => (x.size - intOf i).toNat)
          case atStart => exact ⟨0, by omega, rfl, fun m hm => by omega⟩
          case round =>
            obtain ⟨j, hj, rfl, hI2⟩ := hrel
            have HI2 := Lib.hid hI2
            clear hI2
            by_cases hlj : j < x.size
            · have hlj' : (j : Int) < (x.size : Int) := by omega
              have HB2 := Lib.hid (byteAt x j hlj)
              by_cases hx : patC x[j] = true
              · have HN : Hid (∀ m, m < j + 1 → patC (x.data.toList.getD m 0) = true) := Lib.hid fun m hm => by
                  rcases Nat.lt_succ_iff_lt_or_eq.1 hm with h | rfl
                  · exact HI2.out m h
                  · rw [HB2.out]; exact hx
                have hq : (x[j].toNat : Int) = 35 ∨ (¬ (x[j].toNat : Int) = 35 ∧ (x[j].toNat : Int) = 46) := by
                  by_cases q1 : (x[j].toNat : Int) = 35
                  · exact .inl q1
                  · by_cases q2 : (x[j].toNat : Int) = 46
                    · exact .inr ⟨q1, q2⟩
                    · rw [(patC_test x[j]).2 ⟨q1, q2⟩] at hx; cases hx
                clear hx
                rcases hq with hq | ⟨hq1, hq2⟩
                · have t1 : ((x[j].toNat : Int) != 35) = false := by simpa using hq
                  clear hq
                  go_wp2
                  go_round
                  case rel => exact ⟨j + 1, by omega, by go_num, HN.out⟩
                  case measure => simp [intOf]; omega
                · have t1 : ((x[j].toNat : Int) != 35) = true := by simpa using hq1
                  have t2 : ((x[j].toNat : Int) != 46) = false := by simpa using hq2
                  clear hq1 hq2
                  go_wp2
                  go_round
                  case rel => exact ⟨j + 1, by omega, by go_num, HN.out⟩
                  case measure => simp [intOf]; omega
              · have hx' : patC x[j] = false := by simpa using hx
                have HF := Lib.hid (HNo.out (by rw [HRow.out, X1.out, X2.out, onlyB_no hlj (by rw [HB2.out]; exact hx')]; rfl))
                obtain ⟨q1, q2⟩ := (patC_test x[j]).1 hx'
                have t1 : ((x[j].toNat : Int) != 35) = true := by simpa using q1
                have t2 : ((x[j].toNat : Int) != 46) = true := by simpa using q2
                clear hx hx' q1 q2
                go_wp2
                go_ret
                exact ⟨ret_bool (by rw [HF.out]), hBo⟩
            · obtain rfl : j = x.size := by omega
              have HN := Lib.hid (HYes.out (by rw [HRow.out, X1.out, X2.out, onlyB_mk HI2.out]; rfl))
              go_wp2
              go_roundw
              case rel => exact ⟨k + 1, by omega, by go_num, HN.out, hBo⟩
              case measure => simp [intOf]; omega
      · have T2 : ((x.size : Int) != (x0.size : Int)) = true := by simp; omega
        have HF := Lib.hid (HNo.out (by rw [HRow.out, decide_eq_false e2]; simp))
        clear e2
        go_wp2
        go_quiet (fail)
        go_wp2
        go_ret
        exact ⟨ret_bool (by rw [HF.out]), (by repeat (first | exact Below.refl _ _ | assumption | refine Below.drew ?_ | refine below_drewN ?_ _ | refine Below.alloc ?_ (by first | omega | (simp; done) | (simp; omega)) _ | refine Below.setCell ?_ (by first | omega | (simp; done) | (simp; omega)) _))⟩
    · obtain rfl : k = len := by omega
      have HA : Hid (patB ss = inB (k : Int) 1 24) := Lib.hid (by
        rw [HR.out, rowsB_mk (fun m hm => HI.out m (by rw [HL.out] at hm; exact hm)), Bool.and_true])
      go_wp2_with fail
      refine (l00In_any _ _ _ _).mono ?_
      rintro e1 w1 ⟨rfl, rfl⟩
      rw [← HA.out]
      go_wp2
      go_ret
      exact ⟨rfl, hB⟩
set_option maxHeartbeats 400000 in
theorem specValidPattern_any (a : Option Addr) (len cap : Nat) (ss : List ByteArray) (w : World) (h : IsStrs w a len cap ss) :
    Calls Try.prog 21 #[.slice a len cap] w fun e w' => e = .returned (.bool (patB ss)) ∧ Below w.heap.size w w' := by
  go_enter Try.func21, Try.ntmps21
  go_wp2_with fail
  refine (l14Ok_any _ _ _ _ _ h).mono ?_
  rintro e1 w1 ⟨rfl, hb1⟩
  obtain ⟨hc1, hf1⟩ := bcell hb1
  have hz1 := hb1.size
  try simp at hz1
  have ha1 : Below w.heap.size w w1 := below_call (by repeat (first | exact Below.refl _ _ | assumption | refine Below.drew ?_ | refine below_drewN ?_ _ | refine Below.alloc ?_ (by first | omega | (simp; done) | (simp; omega)) _ | refine Below.setCell ?_ (by first | omega | (simp; done) | (simp; omega)) _)) hb1
  go_wp2
  go_ret
  exact ⟨rfl, (by repeat (first | exact Below.refl _ _ | assumption | refine Below.drew ?_ | refine below_drewN ?_ _ | refine Below.alloc ?_ (by first | omega | (simp; done) | (simp; omega)) _ | refine Below.setCell ?_ (by first | omega | (simp; done) | (simp; omega)) _))⟩
end Go.Proofs.Ytlkdkidpbjpkhaa
