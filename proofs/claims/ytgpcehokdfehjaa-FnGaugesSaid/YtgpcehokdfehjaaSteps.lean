/- Contracts of StepsBetween, program and reference: the courses of the parts between levels, in a new slice, and its code; no old memory turns. -/
import Derived.Test.YtgpcehokdfehjaaMarks
import Derived.Test.YtgpcehokdfehjaaOwn
namespace Go.Proofs.Ytgpcehokdfehjaa
open Go.RowKit

/-- The level behind part i: the last one is the height. -/
def allAt (zs : List Int) (H : Int) (i : Nat) : Int := (zs ++ [H]).getD i 0
def befAt (zs : List Int) (H : Int) : Nat → Int
  | 0 => 0
  | i + 1 => allAt zs H i
theorem allAt_lt {zs : List Int} {H : Int} {i : Nat} (h : i < zs.length) : allAt zs H i = zs.getD i 0 := by
  simp [allAt, List.getD_eq_getElem?_getD, List.getElem?_append_left h]
theorem allAt_len {zs : List Int} {H : Int} : allAt zs H zs.length = H := by
  simp [allAt, List.getD_eq_getElem?_getD]
theorem all_bd {zs : List Int} {H : Int} (h : levB zs H = true) (i : Nat) (hi : i ≤ zs.length) : 0 ≤ befAt zs H i ∧ befAt zs H i ≤ allAt zs H i ∧ allAt zs H i ≤ 6000 := by
  obtain ⟨b1, b2, b3, b4, b5⟩ := levB_t h
  have top : allAt zs H i ≤ H ∧ 0 ≤ allAt zs H i := by
    by_cases e : i < zs.length
    · rw [allAt_lt e]; have := insB_t b4 i e; omega
    · obtain rfl : i = zs.length := by omega
      rw [allAt_len]; omega
  cases i with
  | zero => simp only [befAt]; omega
  | succ i =>
    have p := insB_t b4 i (by omega)
    have e1 : allAt zs H i = zs.getD i 0 := allAt_lt (by omega)
    simp only [befAt, e1]
    by_cases e : i + 1 < zs.length
    · rw [allAt_lt e] at top ⊢; have := rises_t b5 i e; omega
    · obtain e : i + 1 = zs.length := by omega
      rw [e, allAt_len] at top ⊢; omega
/-- The courses of part i; s: a course with its joint. -/
def stpAt (zs : List Int) (H s : Int) (i : Nat) : Int := rndI (allAt zs H i - befAt zs H i) s
def stps (zs : List Int) (H s : Int) (n : Nat) : List Int := (List.range n).map (stpAt zs H s)
theorem stps_len (zs : List Int) (H s : Int) (n : Nat) : (stps zs H s n).length = n := by simp [stps]
theorem stps_next (zs : List Int) (H s : Int) (n : Nat) : stps zs H s (n + 1) = stps zs H s n ++ [stpAt zs H s n] := by simp [stps, List.range_succ]
def noZero (zs : List Int) (H s : Int) : Bool := (List.range (zs.length + 1)).all fun i => stpAt zs H s i != 0
theorem noZero_mk {zs : List Int} {H s : Int} (h : ∀ i, i < zs.length + 1 → stpAt zs H s i ≠ 0) : noZero zs H s = true := by
  refine List.all_eq_true.2 fun i hi => ?_
  have := h i (by simpa using hi)
  simpa using this
theorem noZero_no {zs : List Int} {H s : Int} {i : Nat} (hi : i < zs.length + 1) (h : stpAt zs H s i = 0) : noZero zs H s = false := by
  cases e : noZero zs H s
  · rfl
  · have := List.all_eq_true.1 e i (by simpa using hi)
    rw [h] at this; simp at this
def stpC (l d h j H : Int) (zs : List Int) : Int := if fmtB l d h j then (if levB zs H then (if noZero zs H (h + j) then 0 else 6) else 2) else 1
def stpI (l d h j H : Int) (zs : List Int) : List Int := if fmtB l d h j then (if levB zs H then (if noZero zs H (h + j) then stps zs H (h + j) (zs.length + 1) else []) else []) else []
theorem stp_bad {l d h j H : Int} {zs : List Int} (g : fmtB l d h j = false) : stpC l d h j H zs = 1 ∧ stpI l d h j H zs = [] := by simp [stpC, stpI, g]
theorem stp_range {l d h j H : Int} {zs : List Int} (g : fmtB l d h j = true) (g1 : levB zs H = false) : stpC l d h j H zs = 2 ∧ stpI l d h j H zs = [] := by simp [stpC, stpI, g, g1]
theorem stp_zero {l d h j H : Int} {zs : List Int} (g : fmtB l d h j = true) (g1 : levB zs H = true) (g2 : noZero zs H (h + j) = false) : stpC l d h j H zs = 6 ∧ stpI l d h j H zs = [] := by simp [stpC, stpI, g, g1, g2]
theorem stp_ok {l d h j H : Int} {zs : List Int} (g : fmtB l d h j = true) (g1 : levB zs H = true) (g2 : noZero zs H (h + j) = true) : stpC l d h j H zs = 0 ∧ stpI l d h j H zs = stps zs H (h + j) (zs.length + 1) := by simp [stpC, stpI, g, g1, g2]
theorem stpI_len (l d h j H : Int) (zs : List Int) : (stpI l d h j H zs).length ≤ 1000000 := by
  unfold stpI
  split
  · split
    · rename_i g1
      have := (levB_t g1).2.2.1
      split
      · rw [stps_len]; omega
      · simp
    · simp
  · simp
set_option maxHeartbeats 4000000 in
theorem stepsBetween_any (l d h j H : Int) (a : Option Addr) (len cap : Nat) (zs : List Int) (w : World) (hz : IsRow .i64 w a len cap zs) :
    Calls Try.prog 23 #[.agg #[.int .i64 l, .int .i64 d, .int .i64 h, .int .i64 j], .int .i64 H, .slice a len cap] w (NewI w (stpI l d h j H zs) (stpC l d h j H zs)) := by
  have hl := hz.1
  have HZ := Lib.hid hz
  have HV := Lib.hid (fun W => validFormat_any l d h j W)
  clear hz
  cases g : fmtB l d h j
  · rw [(stp_bad g).1, (stp_bad g).2]
    rw [g] at HV
    clear g hl
    go_enter Try.func23, Try.ntmps23
    go_wp2_with fail
    refine (HV.out _).mono ?_
    rintro e1 w1 ⟨rfl, hb1⟩
    obtain ⟨hc1, hf1⟩ := bcell hb1
    have hz1 := hb1.size
    try simp at hz1
    have hz1_0 : w.heap.size < w1.heap.size := by omega
    have ha1 : Below w.heap.size w w1 := below_call (by repeat (first | exact Below.refl _ _ | assumption | refine Below.drew ?_ | refine below_drewN ?_ _ | refine Below.alloc ?_ (by first | omega | (simp; done) | (simp; omega)) _ | refine Below.setCell ?_ (by first | omega | (simp; done) | (simp; omega)) _)) hb1
    go_wp2
    go_ret2
    exact newI_mk (ownI_nil _ _) (by repeat (first | exact Below.refl _ _ | assumption | refine Below.drew ?_ | refine below_drewN ?_ _ | refine Below.alloc ?_ (by first | omega | (simp; done) | (simp; omega)) _ | refine Below.setCell ?_ (by first | omega | (simp; done) | (simp; omega)) _))
  · cases g1 : levB zs H
    · rw [(stp_range g g1).1, (stp_range g g1).2]
      rw [g] at HV
      have G1 := Lib.hid g1
      clear g g1 hl
      go_enter Try.func23, Try.ntmps23
      go_wp2_with fail
      refine (HV.out _).mono ?_
      rintro e1 w1 ⟨rfl, hb1⟩
      obtain ⟨hc1, hf1⟩ := bcell hb1
      have hz1 := hb1.size
      try simp at hz1
      have hz1_0 : w.heap.size < w1.heap.size := by omega
      have ha1 : Below w.heap.size w w1 := below_call (by repeat (first | exact Below.refl _ _ | assumption | refine Below.drew ?_ | refine below_drewN ?_ _ | refine Below.alloc ?_ (by first | omega | (simp; done) | (simp; omega)) _ | refine Below.setCell ?_ (by first | omega | (simp; done) | (simp; omega)) _)) hb1
      go_wp2_with fail
      refine (validLevels_any _ _ _ _ _ _ (HZ.out.below (by repeat (first | exact Below.refl _ _ | assumption | refine Below.drew ?_ | refine below_drewN ?_ _ | refine Below.alloc ?_ (by first | omega | (simp; done) | (simp; omega)) _ | refine Below.setCell ?_ (by first | omega | (simp; done) | (simp; omega)) _)))).mono ?_
      rintro e2 w2 ⟨rfl, hb2⟩
      obtain ⟨hc2, hf2⟩ := bcell hb2
      have hz2 := hb2.size
      try simp at hz2
      have ha2 : Below w.heap.size w w2 := below_call (by repeat (first | exact Below.refl _ _ | assumption | refine Below.drew ?_ | refine below_drewN ?_ _ | refine Below.alloc ?_ (by first | omega | (simp; done) | (simp; omega)) _ | refine Below.setCell ?_ (by first | omega | (simp; done) | (simp; omega)) _)) hb2
      rw [G1.out]
      go_wp2
      go_ret2
      exact newI_mk (ownI_nil _ _) (by repeat (first | exact Below.refl _ _ | assumption | refine Below.drew ?_ | refine below_drewN ?_ _ | refine Below.alloc ?_ (by first | omega | (simp; done) | (simp; omega)) _ | refine Below.setCell ?_ (by first | omega | (simp; done) | (simp; omega)) _))
    · have HN := Lib.hid (stp_ok g g1)
      have HX := Lib.hid (stp_zero g g1)
      obtain ⟨_, _, _, _, f3, f4, f5, f6, _⟩ := fmtB_t g
      obtain ⟨b1, b2, b3, _, _⟩ := levB_t g1
      have HB := Lib.hid (all_bd g1)
      rw [hl] at b3
      rw [g] at HV
      have G1 := Lib.hid g1
      have HL := Lib.hid hl
      have HY := Lib.hid (fun n => stps_len zs H (h + j) n)
      have HW := Lib.hid (fun n => stps_next zs H (h + j) n)
      clear g g1 hl
      obtain ⟨i0, hi, hi0, hi1, hi2⟩ := info_parts info_i64
      go_enter Try.func23, Try.ntmps23
      go_wp2_with fail
      refine (HV.out _).mono ?_
      rintro e1 w1 ⟨rfl, hb1⟩
      obtain ⟨hc1, hf1⟩ := bcell hb1
      have hz1 := hb1.size
      try simp at hz1
      have hz1_0 : w.heap.size < w1.heap.size := by omega
      have ha1 : Below w.heap.size w w1 := below_call (by repeat (first | exact Below.refl _ _ | assumption | refine Below.drew ?_ | refine below_drewN ?_ _ | refine Below.alloc ?_ (by first | omega | (simp; done) | (simp; omega)) _ | refine Below.setCell ?_ (by first | omega | (simp; done) | (simp; omega)) _)) hb1
      have F : Hid (w1.heap[w.heap.size]? = some _) := blk_call (by first | (refine blk_new' _ _ ?_; simp; done) | (refine blk_alloc (blk_new' _ _ ?_); simp; done) | (refine blk_alloc (blk_alloc (blk_new' _ _ ?_)); simp; done)) hb1
      have F_0 := cellOf F.out 0
      simp at F_0
      have F_1 := cellOf F.out 1
      simp at F_1
      have F_2 := cellOf F.out 2
      simp at F_2
      have F_3 := cellOf F.out 3
      simp at F_3
      have F_lt := blk_lt F.out
      have F_le := Nat.le_of_lt F_lt
      have F_l1 := Nat.le_succ_of_le F_le
      go_wp2_with fail
      refine (validLevels_any _ _ _ _ _ _ (HZ.out.below (by repeat (first | exact Below.refl _ _ | assumption | refine Below.drew ?_ | refine below_drewN ?_ _ | refine Below.alloc ?_ (by first | omega | (simp; done) | (simp; omega)) _ | refine Below.setCell ?_ (by first | omega | (simp; done) | (simp; omega)) _)))).mono ?_
      rintro e2 w2 ⟨rfl, hb2⟩
      obtain ⟨hc2, hf2⟩ := bcell hb2
      have hz2 := hb2.size
      try simp at hz2
      have ha2 : Below w.heap.size w w2 := below_call (by repeat (first | exact Below.refl _ _ | assumption | refine Below.drew ?_ | refine below_drewN ?_ _ | refine Below.alloc ?_ (by first | omega | (simp; done) | (simp; omega)) _ | refine Below.setCell ?_ (by first | omega | (simp; done) | (simp; omega)) _)) hb2
      rw [G1.out]
      have F2 := Lib.hid (blk_call F.out hb2)
      have hzz : w.heap.size + 1 ≤ w2.heap.size := by omega
      clear hc1 hf1 hc2 hf2
      go_wp2_with fail
      go_loopw [8, 9, 10, 11, 12, 26] (fun os bs _ _ _ i wr => ∃ k : Nat, k ≤ len + 1 ∧ i = .int .i64 (k : Int) ∧ bs = .int .i64 (befAt zs H k) ∧ (∀ m, m < k → stpAt zs H (h + j) m ≠ 0) ∧ OwnI wr (w.heap.size + 1) os (stps zs H (h + j) k) ∧ Below w.heap.size w wr ∧ wr.heap[w.heap.size]? = some (.cells #[.int .i64 l, .int .i64 d, .int .i64 h, .int .i64 j] 26 (0, 0))) (fun _ _ _ _ _ i _ => (len + 1 - intOf i).toNat)
      case atStart => exact ⟨0, by omega, rfl, rfl, fun m hm => by omega, ownI_empty _ _ (by omega), (by repeat (first | exact Below.refl _ _ | assumption | refine Below.drew ?_ | refine below_drewN ?_ _ | refine Below.alloc ?_ (by first | omega | (simp; done) | (simp; omega)) _ | refine Below.setCell ?_ (by first | omega | (simp; done) | (simp; omega)) _)), blk_alloc F2.out⟩
      case round =>
        obtain ⟨k, hk, rfl, rfl, hJ, hO, hB, hF⟩ := hrel
        have HJ := Lib.hid hJ
        have HF := Lib.hid hF
        have c2 := cellOf hF 2
        have c3 := cellOf hF 3
        have clt := blk_lt hF
        simp at c2 c3
        clear hJ hF
        have hz := hB.size
        by_cases hlt : k < len + 1
        · have hlt' : (k : Int) < (len : Int) + 1 := by omega
          obtain ⟨p1, p2, p3⟩ := HB.out k (by rw [HL.out]; omega)
          have HS := Lib.hid (show rndI (allAt zs H k - befAt zs H k) (h + j) = stpAt zs H (h + j) k from rfl)
          have HNx := Lib.hid (HW.out k)
          have HP := Lib.hid (HY.out k)
          have HBn : Hid (befAt zs H (k + 1) = allAt zs H k) := Lib.hid rfl
          generalize stps zs H (h + j) k = P at *
          have HO := Lib.hid hO
          have hOl := hO
          unfold OwnI at hOl
          rw [HP.out] at hOl
          clear hO
          by_cases hin : k < len
          · have hin' : (k : Int) < (len : Int) := by omega
            obtain ⟨b, o, rfl, hb, hc⟩ := (HZ.out.below hB).cell hin
            rw [← allAt_lt (H := H) (by rw [HL.out]; exact hin)] at hc
            generalize allAt zs H k = x at *
            generalize befAt zs H k = y at *
            go_wp2_with fail
            refine (rounded_any _ _ _ (by omega) (by omega) (by omega) (by omega)).mono ?_
            rintro e3 w3 ⟨rfl, rfl⟩
            rw [HS.out]
            by_cases h0 : stpAt zs H (h + j) k = 0
            · have hno := Lib.hid (HX.out (noZero_no (by rw [HL.out]; exact hlt) h0))
              have h0' : (stpAt zs H (h + j) k == 0) = true := by simpa using h0
              clear h0 hOl
              generalize stpAt zs H (h + j) k = u at *
              go_wp2
              go_ret2
              rw [hno.out.1, hno.out.2]
              exact newI_mk (ownI_nil _ _) (by repeat (first | exact Below.refl _ _ | assumption | refine Below.drew ?_ | refine below_drewN ?_ _ | refine Below.alloc ?_ (by first | omega | (simp; done) | (simp; omega)) _ | refine Below.setCell ?_ (by first | omega | (simp; done) | (simp; omega)) _))
            · have HJn : Hid (∀ m, m < k + 1 → stpAt zs H (h + j) m ≠ 0) := Lib.hid fun m hm => by
                rcases Nat.lt_succ_iff_lt_or_eq.1 hm with e | rfl
                · exact HJ.out m e
                · exact h0
              have h0' : (stpAt zs H (h + j) k == 0) = false := by simpa using h0
              clear h0
              generalize stpAt zs H (h + j) k = u at *
              go_wp2_with (at_builtin; refine wpList_append_new _ rfl _ _ 35 rfl _ 2 i0 (.int .i64 0) 1 8 Try.underlying35 hi hi0 hi1 hi2 rfl (by decide) _ _ _ rfl (hOl.alloc _) ⟨wr.heap.size, 0, none⟩ 1 1 [.int .i64 u] rfl rfl ?c1 ?c2 ?c3 ?c4 ?c5 (by decide) ?_)
              case c1 => exact cell_one_new _ _ _
              case c2 => simp [Value.oneCell']
              case c3 => unfold maxLen; omega
              case c4 => omega
              case c5 => first | omega | (simp; omega)
              intro v' w1' hown1 hgrow1 hnew1
              have hO1 := Lib.hid (OwnI.snoc hown1 (by rw [HP.out]))
              have hF1 := Lib.hid (blk_own (blk_alloc HF.out) (HO.out.alloc _) hgrow1 (by omega))
              have hB1 := Lib.hid (below_mark (hB.alloc hz _) (by omega) (HO.out.alloc _) hgrow1)
              clear hown1 hgrow1 hnew1 hOl
              go_wp2
              go_roundw
              case rel => exact ⟨k + 1, by omega, by go_num, by rw [HBn.out], HJn.out, by rw [HNx.out]; exact hO1.out, hB1.out, hF1.out⟩
              case measure => first | (simp [intOf]; done) | (simp [intOf]; omega)
          · have hin' : ¬ (k : Int) < (len : Int) := by omega
            obtain rfl : k = len := by omega
            have HT : Hid (allAt zs H k = H) := Lib.hid (by rw [← HL.out]; exact allAt_len)
            rw [HT.out] at HS HBn p2
            generalize befAt zs H k = y at *
            clear hin
            go_wp2_with fail
            refine (rounded_any _ _ _ (by omega) (by omega) (by omega) (by omega)).mono ?_
            rintro e3 w3 ⟨rfl, rfl⟩
            rw [HS.out]
            by_cases h0 : stpAt zs H (h + j) k = 0
            · have hno := Lib.hid (HX.out (noZero_no (by rw [HL.out]; exact hlt) h0))
              have h0' : (stpAt zs H (h + j) k == 0) = true := by simpa using h0
              clear h0 hOl
              generalize stpAt zs H (h + j) k = u at *
              go_wp2
              go_ret2
              rw [hno.out.1, hno.out.2]
              exact newI_mk (ownI_nil _ _) (by repeat (first | exact Below.refl _ _ | assumption | refine Below.drew ?_ | refine below_drewN ?_ _ | refine Below.alloc ?_ (by first | omega | (simp; done) | (simp; omega)) _ | refine Below.setCell ?_ (by first | omega | (simp; done) | (simp; omega)) _))
            · have HJn : Hid (∀ m, m < k + 1 → stpAt zs H (h + j) m ≠ 0) := Lib.hid fun m hm => by
                rcases Nat.lt_succ_iff_lt_or_eq.1 hm with e | rfl
                · exact HJ.out m e
                · exact h0
              have h0' : (stpAt zs H (h + j) k == 0) = false := by simpa using h0
              clear h0
              generalize stpAt zs H (h + j) k = u at *
              go_wp2_with (at_builtin; refine wpList_append_new _ rfl _ _ 35 rfl _ 2 i0 (.int .i64 0) 1 8 Try.underlying35 hi hi0 hi1 hi2 rfl (by decide) _ _ _ rfl (hOl.alloc _) ⟨wr.heap.size, 0, none⟩ 1 1 [.int .i64 u] rfl rfl ?c1 ?c2 ?c3 ?c4 ?c5 (by decide) ?_)
              case c1 => exact cell_one_new _ _ _
              case c2 => simp [Value.oneCell']
              case c3 => unfold maxLen; omega
              case c4 => omega
              case c5 => first | omega | (simp; omega)
              intro v' w1' hown1 hgrow1 hnew1
              have hO1 := Lib.hid (OwnI.snoc hown1 (by rw [HP.out]))
              have hF1 := Lib.hid (blk_own (blk_alloc HF.out) (HO.out.alloc _) hgrow1 (by omega))
              have hB1 := Lib.hid (below_mark (hB.alloc hz _) (by omega) (HO.out.alloc _) hgrow1)
              clear hown1 hgrow1 hnew1 hOl
              go_wp2
              go_roundw
              case rel => exact ⟨k + 1, by omega, by go_num, by rw [HBn.out], HJn.out, by rw [HNx.out]; exact hO1.out, hB1.out, hF1.out⟩
              case measure => first | (simp [intOf]; done) | (simp [intOf]; omega)
        · obtain rfl : k = len + 1 := by omega
          have hok := Lib.hid (HN.out (noZero_mk (fun i hi => HJ.out i (by rw [HL.out] at hi; exact hi))))
          have hlt' : ¬ ((len + 1 : Nat) : Int) < (len : Int) + 1 := by omega
          have HO := Lib.hid (newI_mk (code := 0) (hO.base (by omega)) hB)
          clear hO hlt
          go_wp2
          go_ret2
          rw [hok.out.1, hok.out.2, HL.out]
          exact HO.out
set_option maxHeartbeats 4000000 in
theorem specStepsBetween_any (l d h j H : Int) (a : Option Addr) (len cap : Nat) (zs : List Int) (w : World) (hz : IsRow .i64 w a len cap zs) :
    Calls Try.prog 21 #[.agg #[.int .i64 l, .int .i64 d, .int .i64 h, .int .i64 j], .int .i64 H, .slice a len cap] w (NewI w (stpI l d h j H zs) (stpC l d h j H zs)) := by
  have hl := hz.1
  have HZ := Lib.hid hz
  have HV := Lib.hid (fun W => l02Ok_any l d h j W)
  clear hz
  cases g : fmtB l d h j
  · rw [(stp_bad g).1, (stp_bad g).2]
    rw [g] at HV
    clear g hl
    go_enter Try.func21, Try.ntmps21
    go_wp2_with fail
    refine (HV.out _).mono ?_
    rintro e1 w1 ⟨rfl, hb1⟩
    obtain ⟨hc1, hf1⟩ := bcell hb1
    have hz1 := hb1.size
    try simp at hz1
    have hz1_0 : w.heap.size < w1.heap.size := by omega
    have ha1 : Below w.heap.size w w1 := below_call (by repeat (first | exact Below.refl _ _ | assumption | refine Below.drew ?_ | refine below_drewN ?_ _ | refine Below.alloc ?_ (by first | omega | (simp; done) | (simp; omega)) _ | refine Below.setCell ?_ (by first | omega | (simp; done) | (simp; omega)) _)) hb1
    go_wp2
    go_ret2
    exact newI_mk (ownI_nil _ _) (by repeat (first | exact Below.refl _ _ | assumption | refine Below.drew ?_ | refine below_drewN ?_ _ | refine Below.alloc ?_ (by first | omega | (simp; done) | (simp; omega)) _ | refine Below.setCell ?_ (by first | omega | (simp; done) | (simp; omega)) _))
  · cases g1 : levB zs H
    · rw [(stp_range g g1).1, (stp_range g g1).2]
      rw [g] at HV
      have G1 := Lib.hid g1
      clear g g1 hl
      go_enter Try.func21, Try.ntmps21
      go_wp2_with fail
      refine (HV.out _).mono ?_
      rintro e1 w1 ⟨rfl, hb1⟩
      obtain ⟨hc1, hf1⟩ := bcell hb1
      have hz1 := hb1.size
      try simp at hz1
      have hz1_0 : w.heap.size < w1.heap.size := by omega
      have ha1 : Below w.heap.size w w1 := below_call (by repeat (first | exact Below.refl _ _ | assumption | refine Below.drew ?_ | refine below_drewN ?_ _ | refine Below.alloc ?_ (by first | omega | (simp; done) | (simp; omega)) _ | refine Below.setCell ?_ (by first | omega | (simp; done) | (simp; omega)) _)) hb1
      go_wp2_with fail
      refine (l10Levels_any _ _ _ _ _ _ (HZ.out.below (by repeat (first | exact Below.refl _ _ | assumption | refine Below.drew ?_ | refine below_drewN ?_ _ | refine Below.alloc ?_ (by first | omega | (simp; done) | (simp; omega)) _ | refine Below.setCell ?_ (by first | omega | (simp; done) | (simp; omega)) _)))).mono ?_
      rintro e2 w2 ⟨rfl, hb2⟩
      obtain ⟨hc2, hf2⟩ := bcell hb2
      have hz2 := hb2.size
      try simp at hz2
      have ha2 : Below w.heap.size w w2 := below_call (by repeat (first | exact Below.refl _ _ | assumption | refine Below.drew ?_ | refine below_drewN ?_ _ | refine Below.alloc ?_ (by first | omega | (simp; done) | (simp; omega)) _ | refine Below.setCell ?_ (by first | omega | (simp; done) | (simp; omega)) _)) hb2
      rw [G1.out]
      go_wp2
      go_ret2
      exact newI_mk (ownI_nil _ _) (by repeat (first | exact Below.refl _ _ | assumption | refine Below.drew ?_ | refine below_drewN ?_ _ | refine Below.alloc ?_ (by first | omega | (simp; done) | (simp; omega)) _ | refine Below.setCell ?_ (by first | omega | (simp; done) | (simp; omega)) _))
    · have HN := Lib.hid (stp_ok g g1)
      have HX := Lib.hid (stp_zero g g1)
      obtain ⟨_, _, _, _, f3, f4, f5, f6, _⟩ := fmtB_t g
      obtain ⟨b1, b2, b3, _, _⟩ := levB_t g1
      have HB := Lib.hid (all_bd g1)
      rw [hl] at b3
      rw [g] at HV
      have G1 := Lib.hid g1
      have HL := Lib.hid hl
      have HL1 : Hid ((zs ++ [H]).length = len + 1) := Lib.hid (by rw [List.length_append, hl]; rfl)
      have HY := Lib.hid (fun n => stps_len zs H (h + j) n)
      have HW := Lib.hid (fun n => stps_next zs H (h + j) n)
      clear g g1 hl
      obtain ⟨i0, hi, hi0, hi1, hi2⟩ := info_parts info_i64
      go_enter Try.func21, Try.ntmps21
      go_wp2_with fail
      refine (HV.out _).mono ?_
      rintro e1 w1 ⟨rfl, hb1⟩
      obtain ⟨hc1, hf1⟩ := bcell hb1
      have hz1 := hb1.size
      try simp at hz1
      have hz1_0 : w.heap.size < w1.heap.size := by omega
      have ha1 : Below w.heap.size w w1 := below_call (by repeat (first | exact Below.refl _ _ | assumption | refine Below.drew ?_ | refine below_drewN ?_ _ | refine Below.alloc ?_ (by first | omega | (simp; done) | (simp; omega)) _ | refine Below.setCell ?_ (by first | omega | (simp; done) | (simp; omega)) _)) hb1
      have F : Hid (w1.heap[w.heap.size]? = some _) := blk_call (by first | (refine blk_new' _ _ ?_; simp; done) | (refine blk_alloc (blk_new' _ _ ?_); simp; done) | (refine blk_alloc (blk_alloc (blk_new' _ _ ?_)); simp; done)) hb1
      have F_0 := cellOf F.out 0
      simp at F_0
      have F_1 := cellOf F.out 1
      simp at F_1
      have F_2 := cellOf F.out 2
      simp at F_2
      have F_3 := cellOf F.out 3
      simp at F_3
      have F_lt := blk_lt F.out
      have F_le := Nat.le_of_lt F_lt
      have F_l1 := Nat.le_succ_of_le F_le
      go_wp2_with fail
      refine (l10Levels_any _ _ _ _ _ _ (HZ.out.below (by repeat (first | exact Below.refl _ _ | assumption | refine Below.drew ?_ | refine below_drewN ?_ _ | refine Below.alloc ?_ (by first | omega | (simp; done) | (simp; omega)) _ | refine Below.setCell ?_ (by first | omega | (simp; done) | (simp; omega)) _)))).mono ?_
      rintro e2 w2 ⟨rfl, hb2⟩
      obtain ⟨hc2, hf2⟩ := bcell hb2
      have hz2 := hb2.size
      try simp at hz2
      have ha2 : Below w.heap.size w w2 := below_call (by repeat (first | exact Below.refl _ _ | assumption | refine Below.drew ?_ | refine below_drewN ?_ _ | refine Below.alloc ?_ (by first | omega | (simp; done) | (simp; omega)) _ | refine Below.setCell ?_ (by first | omega | (simp; done) | (simp; omega)) _)) hb2
      rw [G1.out]
      have F2 := Lib.hid (blk_call F.out hb2)
      have hzz : w.heap.size + 1 ≤ w2.heap.size := by omega
      clear hc1 hf1 hc2 hf2
      go_wp2_with fail
      refine (l00Own_any _ _ _ _ _ (HZ.out.below (by repeat (first | exact Below.refl _ _ | assumption | refine Below.drew ?_ | refine below_drewN ?_ _ | refine Below.alloc ?_ (by first | omega | (simp; done) | (simp; omega)) _ | refine Below.setCell ?_ (by first | omega | (simp; done) | (simp; omega)) _))) (by omega)).mono ?_
      rintro e3 w3 ⟨a3, c3, rfl, hO3, hb3⟩
      have hz3 := hb3.size
      simp at hz3
      have ha3 : Below w.heap.size w w3 := below_call (by repeat (first | exact Below.refl _ _ | assumption | refine Below.drew ?_ | refine below_drewN ?_ _ | refine Below.alloc ?_ (by first | omega | (simp; done) | (simp; omega)) _ | refine Below.setCell ?_ (by first | omega | (simp; done) | (simp; omega)) _)) hb3
      have E0 : Hid (OwnI w3 (w.heap.size + 1) (.slice (some ⟨w2.heap.size, 0, none⟩) 0 0) []) := Lib.hid (OwnI.below (ownI_empty _ _ (by omega)) hb3)
      have E1 : Hid (Apart (.slice (some ⟨w2.heap.size, 0, none⟩) 0 0) (.slice a3 zs.length c3)) := Lib.hid (apart_new (ownI_empty w2 (w.heap.size + 1) (by omega)) hO3 (Nat.le_refl _))
      have F3 := Lib.hid (blk_call (blk_alloc F2.out) hb3)
      rw [HL.out] at E1 hO3 ⊢
      have HO3 := Lib.hid (hO3.base (show w.heap.size + 1 ≤ _ by simp; omega))
      have hOl := HO3.out
      unfold OwnI at hOl
      rw [HL.out] at hOl
      clear hO3
      go_wp2_with (at_builtin; refine wpList_append_new _ rfl _ _ 35 rfl _ 2 i0 (.int .i64 0) 1 8 Try.underlying35 hi hi0 hi1 hi2 rfl (by decide) _ _ _ rfl (hOl.alloc _) ⟨w3.heap.size, 0, none⟩ 1 1 [.int .i64 H] rfl rfl ?c1 ?c2 ?c3 ?c4 ?c5 (by decide) ?_)
      case c1 => exact cell_one_new _ _ _
      case c2 => simp [Value.oneCell']
      case c3 => unfold maxLen; omega
      case c4 => omega
      case c5 => first | omega | (simp; omega)
      intro v' w1' hown1 hgrow1 hnew1
      have A4 := Lib.hid (OwnI.snoc hown1 (by rw [HL.out]))
      have F4 := Lib.hid (blk_own (blk_alloc F3.out) (HO3.out.alloc _) hgrow1 (by omega))
      have B4 := Lib.hid (below_mark (ha3.alloc ha3.size _) (by omega) (HO3.out.alloc _) hgrow1)
      have E4 := Lib.hid ((E0.out.alloc _).keptM hgrow1 E1.out.ne)
      have E5 := Lib.hid (Apart.symm (E1.out.symm.next E0.out hnew1 (by omega)))
      clear hown1 hgrow1 hnew1 hOl HO3 E0 E1 F2 F3
      obtain ⟨a4, c4, rfl⟩ := A4.out.shape
      rw [HL1.out] at A4 E5 ⊢
      have f2 := cellOf F4.out 2
      have f3' := cellOf F4.out 3
      have flt := blk_lt F4.out
      simp at f2 f3'
      go_wp2_with fail
      clear f2 f3' flt
      go_loopw [8, 9, 12, 13] (fun os bs i _ wr => ∃ k : Nat, k ≤ len + 1 ∧ i = .int .i64 (k : Int) ∧ bs = .int .i64 (befAt zs H k) ∧ (∀ m, m < k → stpAt zs H (h + j) m ≠ 0) ∧ OwnI wr (w.heap.size + 1) os (stps zs H (h + j) k) ∧ OwnI wr (w.heap.size + 1) (.slice a4 (len + 1) c4) (zs ++ [H]) ∧ Apart os (.slice a4 (len + 1) c4) ∧ Below w.heap.size w wr) (fun _ _ i _ _ => (len + 1 - intOf i).toNat)
      case atStart => exact ⟨0, by omega, rfl, rfl, fun m hm => by omega, E4.out, A4.out, E5.out, B4.out⟩
      case round =>
        obtain ⟨k, hk, rfl, rfl, hJ, hO, hA, hE, hB⟩ := hrel
        have HJ := Lib.hid hJ
        have HA := Lib.hid hA
        have HE := Lib.hid hE
        clear hJ hA hE
        have hz := hB.size
        by_cases hlt : k < len + 1
        · have hlt' : (k : Int) < (len : Int) + 1 := by omega
          obtain ⟨p1, p2, p3⟩ := HB.out k (by rw [HL.out]; omega)
          have HNx := Lib.hid (HW.out k)
          have HP := Lib.hid (HY.out k)
          have HBn : Hid (befAt zs H (k + 1) = allAt zs H k) := Lib.hid rfl
          have HS := Lib.hid (show (2 * (allAt zs H k - befAt zs H k) + (h + j)) / (2 * (h + j)) = stpAt zs H (h + j) k from rfl)
          have HC : Hid (∀ W, OwnI W (w.heap.size + 1) (.slice a4 (len + 1) c4) (zs ++ [H]) → ∃ b o, a4 = some ⟨b, o, none⟩ ∧ b < W.heap.size ∧ W.cell? ⟨b, o + k, none⟩ = some (.int .i64 (allAt zs H k))) := Lib.hid fun W hW => hW.row.cell hlt
          have HZ0 : Hid (stpAt zs H (h + j) k = 0 → noZero zs H (h + j) = false) := Lib.hid (noZero_no (by rw [HL.out]; exact hlt))
          generalize stps zs H (h + j) k = P at *
          have HO := Lib.hid hO
          have hOl := hO
          unfold OwnI at hOl
          rw [HP.out] at hOl
          clear hO
          obtain ⟨b, o, ha4, hb, hc⟩ := HC.out wr HA.out
          subst ha4
          generalize allAt zs H k = x at *
          generalize befAt zs H k = y at *
          by_cases h0 : stpAt zs H (h + j) k = 0
          · have hno := Lib.hid (HX.out (HZ0.out h0))
            have h0' : ((2 * (x - y) + (h + j)) / (2 * (h + j)) == 0) = true := by rw [HS.out]; simpa using h0
            clear h0 hOl
            go_wp2
            go_ret2
            rw [hno.out.1, hno.out.2]
            exact newI_mk (ownI_nil _ _) (by repeat (first | exact Below.refl _ _ | assumption | refine Below.drew ?_ | refine below_drewN ?_ _ | refine Below.alloc ?_ (by first | omega | (simp; done) | (simp; omega)) _ | refine Below.setCell ?_ (by first | omega | (simp; done) | (simp; omega)) _))
          · have HJn : Hid (∀ m, m < k + 1 → stpAt zs H (h + j) m ≠ 0) := Lib.hid fun m hm => by
              rcases Nat.lt_succ_iff_lt_or_eq.1 hm with e | rfl
              · exact HJ.out m e
              · exact h0
            have h0' : ((2 * (x - y) + (h + j)) / (2 * (h + j)) == 0) = false := by rw [HS.out]; simpa using h0
            clear h0
            go_wp2_with (at_builtin; refine wpList_append_new _ rfl _ _ 35 rfl _ 2 i0 (.int .i64 0) 1 8 Try.underlying35 hi hi0 hi1 hi2 rfl (by decide) _ _ _ rfl (hOl.alloc _) ⟨wr.heap.size, 0, none⟩ 1 1 [.int .i64 ((2 * (x - y) + (h + j)) / (2 * (h + j)))] rfl rfl ?c1 ?c2 ?c3 ?c4 ?c5 (by decide) ?_)
            case c1 => exact cell_one_new _ _ _
            case c2 => simp [Value.oneCell']
            case c3 => unfold maxLen; omega
            case c4 => omega
            case c5 => first | omega | (simp; omega)
            intro v' w1' hown1 hgrow1 hnew1
            have hO1 := Lib.hid (OwnI.snoc hown1 (by rw [HP.out]))
            have hA1 := Lib.hid ((HA.out.alloc _).keptM hgrow1 HE.out.symm.ne)
            have hE1 := Lib.hid (HE.out.next HA.out hnew1 (by omega))
            have hB1 := Lib.hid (below_mark (hB.alloc hz _) (by omega) (HO.out.alloc _) hgrow1)
            clear hown1 hgrow1 hnew1 hOl hc hb
            obtain ⟨b', o', ha', hb, hc⟩ := HC.out w1' hA1.out
            injection ha' with ha'
            injection ha' with ha1 ha2
            subst ha1 ha2
            go_wp2
            go_roundw
            case rel => exact ⟨k + 1, by omega, by go_num, by rw [HBn.out], HJn.out, by rw [HNx.out, ← HS.out]; exact hO1.out, hA1.out, hE1.out, hB1.out⟩
            case measure => first | (simp [intOf]; done) | (simp [intOf]; omega)
        · obtain rfl : k = len + 1 := by omega
          have hok := Lib.hid (HN.out (noZero_mk (fun i hi => HJ.out i (by rw [HL.out] at hi; exact hi))))
          have hlt' : ¬ ((len + 1 : Nat) : Int) < (len : Int) + 1 := by omega
          have HO := Lib.hid (newI_mk (code := 0) (hO.base (by omega)) hB)
          clear hO hlt
          go_wp2
          go_ret2
          rw [hok.out.1, hok.out.2, HL.out]
          exact HO.out
end Go.Proofs.Ytgpcehokdfehjaa
