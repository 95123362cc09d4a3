/- Contracts of the functions on levels and marks (ValidLevels, nearestMark, levelsOff and their twins of the reference): what each call returns; no old memory turns. -/
import Derived.Test.YtgpcehokdfehjaaGaugeC
import Derived.Test.YtgpcehokdfehjaaOutside
import Derived.Test.YtgpcehokdfehjaaSlice
namespace Go.Proofs.Ytgpcehokdfehjaa
open Go.RowKit

def rises (zs : List Int) : Bool := (List.range (zs.length - 1)).all fun k => decide (zs.getD k 0 < zs.getD (k + 1) 0)
theorem rises_t {zs : List Int} (h : rises zs = true) (k : Nat) (hk : k + 1 < zs.length) : zs.getD k 0 < zs.getD (k + 1) 0 := by
  have := List.all_eq_true.1 h k (by simp; omega)
  simpa using this
theorem rises_mk {zs : List Int} (h : ∀ k, k + 1 < zs.length → zs.getD k 0 < zs.getD (k + 1) 0) : rises zs = true := by
  refine List.all_eq_true.2 fun k hk => ?_
  have hk' : k < zs.length - 1 := by simpa using hk
  exact decide_eq_true (h k (by omega))
theorem rises_no {zs : List Int} {k : Nat} (hk : k + 1 < zs.length) (h : ¬ zs.getD k 0 < zs.getD (k + 1) 0) : rises zs = false := by
  cases e : rises zs
  · rfl
  · exact absurd (rises_t e k hk) h
/-- The levels are those of a height. -/
def levB (zs : List Int) (H : Int) : Bool := inB H 100 6000 && (decide (zs.length ≤ 20) && (insB zs 1 (H - 1) && rises zs))
theorem levB_t {zs : List Int} {H : Int} (h : levB zs H = true) : 100 ≤ H ∧ H ≤ 6000 ∧ zs.length ≤ 20 ∧ insB zs 1 (H - 1) = true ∧ rises zs = true := by
  simp only [levB, Bool.and_eq_true, decide_eq_true_eq] at h
  exact ⟨(inB_t h.1).1, (inB_t h.1).2, h.2.1, h.2.2.1, h.2.2.2⟩
theorem stor1 (H : Int) : storB H 1 = inB H 100 6000 := by simp [storB, inB]
theorem IsRow.cell2 {k : IntKind} {w : World} {a : Option Addr} {len cap : Nat} {zs : List Int} (h : IsRow k w a len cap zs) {i j : Nat} (hi : i < len) (hj : j < len) :
    ∃ b o, a = some ⟨b, o, none⟩ ∧ b < w.heap.size ∧ w.cell? ⟨b, o + i, none⟩ = some (.int k (zs.getD i 0)) ∧ w.cell? ⟨b, o + j, none⟩ = some (.int k (zs.getD j 0)) := by
  obtain ⟨b, o, ha, hb, h1⟩ := h.cell hi
  obtain ⟨b', o', ha', _, h2⟩ := h.cell hj
  rw [ha] at ha'
  injection ha' with e
  injection e with e1 e2
  subst e1 e2
  exact ⟨b, o, ha, hb, h1, h2⟩
set_option maxHeartbeats 2000000 in
theorem l00Rises_any (a : Option Addr) (len cap : Nat) (zs : List Int) (lo hi : Int) (w : World) (h : IsRow .i64 w a len cap zs) :
    Calls Try.prog 71 #[.slice a len cap, .int .i64 lo, .int .i64 hi] w fun e w' => e = .returned (.bool (insB zs lo hi && rises zs)) ∧ Below w.heap.size w w' := by
  have hl := h.1
  have hm : len ≤ maxLen := Nat.le_trans h.2.1 h.2.2.1
  unfold maxLen at hm
  have H := Lib.hid h
  have HL := Lib.hid hl
  clear h hl
  go_enter Try.func71, Try.ntmps71
  go_wp2
  go_loopw [7] (fun i wr => ∃ k : Nat, k ≤ len ∧ i = .int .i64 (k : Int) ∧ (∀ m, m < k → lo ≤ zs.getD m 0 ∧ zs.getD m 0 ≤ hi) ∧ (∀ m, m + 1 < k → zs.getD m 0 < zs.getD (m + 1) 0) ∧ Below w.heap.size w wr) (fun i _ => (len - intOf i).toNat)
  case atStart => exact ⟨0, by omega, rfl, fun m hm => by omega, fun m hm => by omega, Below.refl _ _⟩
  case round =>
    obtain ⟨k, hk, rfl, hI, hJ, hB⟩ := hrel
    have HI := Lib.hid hI
    have HJ := Lib.hid hJ
    clear hI hJ
    by_cases hlt : k < len
    · have hlt' : (k : Int) < (len : Int) := by omega
      cases hx : inB (zs.getD k 0) lo hi
      · obtain ⟨b, o, rfl, hb, hc⟩ := (H.out.below hB).cell hlt
        have HR := Lib.hid (insB_no (by rw [HL.out]; exact hlt) hx)
        have HX := Lib.hid hx
        clear hx
        generalize zs.getD k 0 = x at *
        go_wp2_with fail
        go_quiet ((go_at_call 67; exact Calls.quiet_of_same ((l00In_any _ _ _ _).mono fun _ _ h => ⟨h.1.trans (by rw [HX.out]), h.2.symm⟩)))
        go_wp2
        go_ret
        exact ⟨ret_bool (by rw [HR.out]; rfl), (by repeat (first | exact Below.refl _ _ | assumption | refine Below.drew ?_ | refine below_drewN ?_ _ | refine Below.alloc ?_ (by first | omega | (simp; done) | (simp; omega)) _ | refine Below.setCell ?_ (by first | omega | (simp; done) | (simp; omega)) _))⟩
      · have HX := Lib.hid hx
        have HS : Hid (∀ m, m < k + 1 → lo ≤ zs.getD m 0 ∧ zs.getD m 0 ≤ hi) := Lib.hid fun m hm => by
          rcases Nat.lt_succ_iff_lt_or_eq.1 hm with h | rfl
          · exact HI.out m h
          · exact inB_t hx
        clear hx
        by_cases h0 : 0 < k
        · obtain ⟨b, o, rfl, hb, hc, hp⟩ := (H.out.below hB).cell2 hlt (show k - 1 < len by omega)
          by_cases hy : zs.getD (k - 1) 0 < zs.getD k 0
          · have HT : Hid (∀ m, m + 1 < k + 1 → zs.getD m 0 < zs.getD (m + 1) 0) := Lib.hid fun m hm => by
              by_cases e : m + 1 < k
              · exact HJ.out m e
              · obtain rfl : m = k - 1 := by omega
                rw [show k - 1 + 1 = k by omega]; exact hy
            generalize zs.getD k 0 = x at *
            generalize zs.getD (k - 1) 0 = y at *
            have hy' : ¬ x ≤ y := by omega
            have h0' : (0 : Int) < (k : Int) := by omega
            have j1 : IntKind.i64.wrap ((k : Int) - 1) = (k : Int) - 1 := IntWalk.i64_in _ (by omega)
            have j2 : 0 ≤ (k : Int) - 1 := by omega
            have j3 : ((k : Int) - 1).toNat = k - 1 := by omega
            have j4 : (k : Int) - 1 < (len : Int) := by omega
            go_wp2_with fail
            go_quiet ((go_at_call 67; exact Calls.quiet_of_same ((l00In_any _ _ _ _).mono fun _ _ h => ⟨h.1.trans (by rw [HX.out]), h.2.symm⟩)))
            clear j1 j2 j3 j4
            go_wp2
            go_roundw
            case rel => exact ⟨k + 1, by omega, by go_num, HS.out, HT.out, (by repeat (first | exact Below.refl _ _ | assumption | refine Below.drew ?_ | refine below_drewN ?_ _ | refine Below.alloc ?_ (by first | omega | (simp; done) | (simp; omega)) _ | refine Below.setCell ?_ (by first | omega | (simp; done) | (simp; omega)) _))⟩
            case measure => simp [intOf]; omega
          · have HR := Lib.hid (rises_no (zs := zs) (k := k - 1) (by rw [HL.out]; omega) (by rw [show k - 1 + 1 = k by omega]; exact hy))
            generalize zs.getD k 0 = x at *
            generalize zs.getD (k - 1) 0 = y at *
            have hy' : x ≤ y := by omega
            have h0' : (0 : Int) < (k : Int) := by omega
            have j1 : IntKind.i64.wrap ((k : Int) - 1) = (k : Int) - 1 := IntWalk.i64_in _ (by omega)
            have j2 : 0 ≤ (k : Int) - 1 := by omega
            have j3 : ((k : Int) - 1).toNat = k - 1 := by omega
            have j4 : (k : Int) - 1 < (len : Int) := by omega
            go_wp2_with fail
            go_quiet ((go_at_call 67; exact Calls.quiet_of_same ((l00In_any _ _ _ _).mono fun _ _ h => ⟨h.1.trans (by rw [HX.out]), h.2.symm⟩)))
            clear j1 j2 j3 j4
            go_wp2
            go_ret
            exact ⟨ret_bool (by rw [HR.out]; simp), (by repeat (first | exact Below.refl _ _ | assumption | refine Below.drew ?_ | refine below_drewN ?_ _ | refine Below.alloc ?_ (by first | omega | (simp; done) | (simp; omega)) _ | refine Below.setCell ?_ (by first | omega | (simp; done) | (simp; omega)) _))⟩
        · obtain ⟨b, o, rfl, hb, hc⟩ := (H.out.below hB).cell hlt
          have h0' : decide ((0 : Int) < (k : Int)) = false := decide_eq_false (by omega)
          have HT : Hid (∀ m, m + 1 < k + 1 → zs.getD m 0 < zs.getD (m + 1) 0) := Lib.hid fun m hm => by omega
          generalize zs.getD k 0 = x at *
          go_wp2_with fail
          go_quiet ((go_at_call 67; exact Calls.quiet_of_same ((l00In_any _ _ _ _).mono fun _ _ h => ⟨h.1.trans (by rw [HX.out]), h.2.symm⟩)))
          go_wp2
          go_roundw
          case rel => exact ⟨k + 1, by omega, by go_num, HS.out, HT.out, (by repeat (first | exact Below.refl _ _ | assumption | refine Below.drew ?_ | refine below_drewN ?_ _ | refine Below.alloc ?_ (by first | omega | (simp; done) | (simp; omega)) _ | refine Below.setCell ?_ (by first | omega | (simp; done) | (simp; omega)) _))⟩
          case measure => simp [intOf]; omega
    · obtain rfl : k = len := by omega
      have HR : Hid ((insB zs lo hi && rises zs) = true) := Lib.hid (by
        rw [insB_mk (fun m hm => HI.out m (by rw [HL.out] at hm; exact hm)), rises_mk (fun m hm => HJ.out m (by rw [HL.out] at hm; exact hm))]; rfl)
      go_wp2
      go_ret
      exact ⟨ret_bool (by rw [HR.out]), (by repeat (first | exact Below.refl _ _ | assumption | refine Below.drew ?_ | refine below_drewN ?_ _ | refine Below.alloc ?_ (by first | omega | (simp; done) | (simp; omega)) _ | refine Below.setCell ?_ (by first | omega | (simp; done) | (simp; omega)) _))⟩
set_option maxHeartbeats 1000000 in
theorem l10Levels_any (a : Option Addr) (len cap : Nat) (zs : List Int) (H : Int) (w : World) (h : IsRow .i64 w a len cap zs) :
    Calls Try.prog 51 #[.slice a len cap, .int .i64 H] w fun e w' => e = .returned (.bool (levB zs H)) ∧ Below w.heap.size w w' := by
  have hl := h.1
  have HR := Lib.hid (show levB zs H = (inB H 100 6000 && (decide (len ≤ 20) && (insB zs 1 (H - 1) && rises zs))) by unfold levB; rw [hl])
  have Hz := Lib.hid h
  clear h hl
  cases h1 : inB H 100 6000
  · have H1 := Lib.hid h1
    clear h1
    go_enter Try.func51, Try.ntmps51
    go_wp2_with fail
    refine (l10Height_any _ _).mono ?_
    rintro e1 w1 ⟨rfl, rfl⟩
    rw [H1.out]
    go_wp2
    go_ret
    exact ⟨ret_bool (by rw [HR.out, H1.out]; rfl), (by repeat (first | exact Below.refl _ _ | assumption | refine Below.drew ?_ | refine below_drewN ?_ _ | refine Below.alloc ?_ (by first | omega | (simp; done) | (simp; omega)) _ | refine Below.setCell ?_ (by first | omega | (simp; done) | (simp; omega)) _))⟩
  · obtain ⟨b1, b2⟩ := inB_t h1
    have H1 := Lib.hid h1
    clear h1
    by_cases h2 : len ≤ 20
    · have h2' : (len : Int) ≤ 20 := by omega
      have H2 := Lib.hid (show decide (len ≤ 20) = true from decide_eq_true h2)
      clear h2
      go_enter Try.func51, Try.ntmps51
      go_wp2_with fail
      refine (l10Height_any _ _).mono ?_
      rintro e1 w1 ⟨rfl, rfl⟩
      rw [H1.out]
      go_wp2_with fail
      refine (l00Rises_any _ _ _ _ _ _ _ (Hz.out.below (by repeat (first | exact Below.refl _ _ | assumption | refine Below.drew ?_ | refine below_drewN ?_ _ | refine Below.alloc ?_ (by first | omega | (simp; done) | (simp; omega)) _ | refine Below.setCell ?_ (by first | omega | (simp; done) | (simp; omega)) _)))).mono ?_
      rintro e2 w2 ⟨rfl, hb2⟩
      obtain ⟨hc2, hf2⟩ := bcell hb2
      have hz2 := hb2.size
      try simp at hz2
      have ha2 : Below w.heap.size w w2 := below_call (by repeat (first | exact Below.refl _ _ | assumption | refine Below.drew ?_ | refine below_drewN ?_ _ | refine Below.alloc ?_ (by first | omega | (simp; done) | (simp; omega)) _ | refine Below.setCell ?_ (by first | omega | (simp; done) | (simp; omega)) _)) hb2
      go_wp2
      go_ret
      exact ⟨ret_bool (by rw [HR.out, H1.out, H2.out]; simp), (by repeat (first | exact Below.refl _ _ | assumption | refine Below.drew ?_ | refine below_drewN ?_ _ | refine Below.alloc ?_ (by first | omega | (simp; done) | (simp; omega)) _ | refine Below.setCell ?_ (by first | omega | (simp; done) | (simp; omega)) _))⟩
    · have h2' : decide ((len : Int) ≤ 20) = false := decide_eq_false (by omega)
      have H2 := Lib.hid (show decide (len ≤ 20) = false from decide_eq_false h2)
      clear h2
      go_enter Try.func51, Try.ntmps51
      go_wp2_with fail
      refine (l10Height_any _ _).mono ?_
      rintro e1 w1 ⟨rfl, rfl⟩
      rw [H1.out]
      go_wp2
      go_ret
      exact ⟨ret_bool (by rw [HR.out, H1.out, H2.out]; rfl), (by repeat (first | exact Below.refl _ _ | assumption | refine Below.drew ?_ | refine below_drewN ?_ _ | refine Below.alloc ?_ (by first | omega | (simp; done) | (simp; omega)) _ | refine Below.setCell ?_ (by first | omega | (simp; done) | (simp; omega)) _))⟩
set_option maxHeartbeats 2000000 in
theorem validLevels_any (a : Option Addr) (len cap : Nat) (zs : List Int) (H : Int) (w : World) (h : IsRow .i64 w a len cap zs) :
    Calls Try.prog 34 #[.slice a len cap, .int .i64 H] w fun e w' => e = .returned (.bool (levB zs H)) ∧ Below w.heap.size w w' := by
  have hl := h.1
  have HR := Lib.hid (show levB zs H = (inB H 100 6000 && (decide (len ≤ 20) && (insB zs 1 (H - 1) && rises zs))) by unfold levB; rw [hl])
  have Hz := Lib.hid h
  have HL := Lib.hid hl
  clear h hl
  cases h1 : inB H 100 6000
  · have H1 := Lib.hid (show storB H 1 = false by rw [stor1, h1])
    replace HR := Lib.hid (show levB zs H = false by rw [HR.out, h1]; rfl)
    clear h1
    go_enter Try.func34, Try.ntmps34
    go_wp2_with fail
    refine (isStorey_any _ _ _).mono ?_
    rintro e1 w1 ⟨rfl, rfl⟩
    rw [H1.out]
    go_wp2
    go_ret
    exact ⟨ret_bool (by rw [HR.out]), (by repeat (first | exact Below.refl _ _ | assumption | refine Below.drew ?_ | refine below_drewN ?_ _ | refine Below.alloc ?_ (by first | omega | (simp; done) | (simp; omega)) _ | refine Below.setCell ?_ (by first | omega | (simp; done) | (simp; omega)) _))⟩
  · obtain ⟨b1, b2⟩ := inB_t h1
    have H1 := Lib.hid (show storB H 1 = true by rw [stor1, h1])
    replace HR := Lib.hid (show levB zs H = (decide (len ≤ 20) && (insB zs 1 (H - 1) && rises zs)) by rw [HR.out, h1]; rfl)
    clear h1
    by_cases h2 : 20 < len
    · have h2' : (20 : Int) < (len : Int) := by omega
      replace HR := Lib.hid (show levB zs H = false by rw [HR.out, show decide (len ≤ 20) = false from decide_eq_false (by omega)]; rfl)
      clear h2
      go_enter Try.func34, Try.ntmps34
      go_wp2_with fail
      refine (isStorey_any _ _ _).mono ?_
      rintro e1 w1 ⟨rfl, rfl⟩
      rw [H1.out]
      go_wp2
      go_ret
      exact ⟨ret_bool (by rw [HR.out]), (by repeat (first | exact Below.refl _ _ | assumption | refine Below.drew ?_ | refine below_drewN ?_ _ | refine Below.alloc ?_ (by first | omega | (simp; done) | (simp; omega)) _ | refine Below.setCell ?_ (by first | omega | (simp; done) | (simp; omega)) _))⟩
    · have h2' : decide ((20 : Int) < (len : Int)) = false := decide_eq_false (by omega)
      replace HR := Lib.hid (show levB zs H = (insB zs 1 (H - 1) && rises zs) by rw [HR.out, show decide (len ≤ 20) = true from decide_eq_true (by omega)]; rfl)
      have hlen : len ≤ 20 := by omega
      clear h2
      cases h3 : insB zs 1 (H - 1)
      · replace HR := Lib.hid (show levB zs H = false by rw [HR.out, h3]; rfl)
        have H3 := Lib.hid h3
        clear h3
        go_enter Try.func34, Try.ntmps34
        go_wp2_with fail
        refine (isStorey_any _ _ _).mono ?_
        rintro e1 w1 ⟨rfl, rfl⟩
        rw [H1.out]
        go_wp2_with fail
        refine (outside_any _ _ _ _ _ _ _ (Hz.out.below (by repeat (first | exact Below.refl _ _ | assumption | refine Below.drew ?_ | refine below_drewN ?_ _ | refine Below.alloc ?_ (by first | omega | (simp; done) | (simp; omega)) _ | refine Below.setCell ?_ (by first | omega | (simp; done) | (simp; omega)) _)))).mono ?_
        rintro e2 w2 ⟨rfl, hb2⟩
        obtain ⟨hc2, hf2⟩ := bcell hb2
        have hz2 := hb2.size
        try simp at hz2
        have ha2 : Below w.heap.size w w2 := below_call (by repeat (first | exact Below.refl _ _ | assumption | refine Below.drew ?_ | refine below_drewN ?_ _ | refine Below.alloc ?_ (by first | omega | (simp; done) | (simp; omega)) _ | refine Below.setCell ?_ (by first | omega | (simp; done) | (simp; omega)) _)) hb2
        rw [H3.out]
        go_wp2
        go_ret
        exact ⟨ret_bool (by rw [HR.out]), (by repeat (first | exact Below.refl _ _ | assumption | refine Below.drew ?_ | refine below_drewN ?_ _ | refine Below.alloc ?_ (by first | omega | (simp; done) | (simp; omega)) _ | refine Below.setCell ?_ (by first | omega | (simp; done) | (simp; omega)) _))⟩
      · replace HR := Lib.hid (show levB zs H = rises zs by rw [HR.out, h3]; rfl)
        have H3 := Lib.hid h3
        clear h3
        go_enter Try.func34, Try.ntmps34
        go_wp2_with fail
        refine (isStorey_any _ _ _).mono ?_
        rintro e1 w1 ⟨rfl, rfl⟩
        rw [H1.out]
        go_wp2_with fail
        refine (outside_any _ _ _ _ _ _ _ (Hz.out.below (by repeat (first | exact Below.refl _ _ | assumption | refine Below.drew ?_ | refine below_drewN ?_ _ | refine Below.alloc ?_ (by first | omega | (simp; done) | (simp; omega)) _ | refine Below.setCell ?_ (by first | omega | (simp; done) | (simp; omega)) _)))).mono ?_
        rintro e2 w2 ⟨rfl, hb2⟩
        obtain ⟨hc2, hf2⟩ := bcell hb2
        have hz2 := hb2.size
        try simp at hz2
        have ha2 : Below w.heap.size w w2 := below_call (by repeat (first | exact Below.refl _ _ | assumption | refine Below.drew ?_ | refine below_drewN ?_ _ | refine Below.alloc ?_ (by first | omega | (simp; done) | (simp; omega)) _ | refine Below.setCell ?_ (by first | omega | (simp; done) | (simp; omega)) _)) hb2
        rw [H3.out]
        go_wp2_with fail
        go_loopw [5] (fun i wr => ∃ k : Nat, 1 ≤ k ∧ k ≤ len + 1 ∧ i = .int .i64 (k : Int) ∧ (∀ m, m + 1 < k → m + 1 < len → zs.getD m 0 < zs.getD (m + 1) 0) ∧ Below w.heap.size w wr) (fun i _ => (len + 1 - intOf i).toNat)
        case atStart => exact ⟨1, by omega, by omega, rfl, fun m hm => by omega, (by repeat (first | exact Below.refl _ _ | assumption | refine Below.drew ?_ | refine below_drewN ?_ _ | refine Below.alloc ?_ (by first | omega | (simp; done) | (simp; omega)) _ | refine Below.setCell ?_ (by first | omega | (simp; done) | (simp; omega)) _))⟩
        case round =>
          obtain ⟨k, hk1, hk, rfl, hJ, hB⟩ := hrel
          have HJ := Lib.hid hJ
          clear hJ
          by_cases hlt : k < len
          · have hlt' : (k : Int) < (len : Int) := by omega
            obtain ⟨b, o, rfl, hb, hc, hp⟩ := (Hz.out.below hB).cell2 hlt (show k - 1 < len by omega)
            have j2 : 0 ≤ (k : Int) - 1 := by omega
            have j3 : ((k : Int) - 1).toNat = k - 1 := by omega
            have j4 : (k : Int) - 1 < (len : Int) := by omega
            by_cases hy : zs.getD (k - 1) 0 < zs.getD k 0
            · have HT : Hid (∀ m, m + 1 < k + 1 → m + 1 < len → zs.getD m 0 < zs.getD (m + 1) 0) := Lib.hid fun m hm hm' => by
                by_cases e : m + 1 < k
                · exact HJ.out m e hm'
                · obtain rfl : m = k - 1 := by omega
                  rw [show k - 1 + 1 = k by omega]; exact hy
              generalize zs.getD k 0 = x at *
              generalize zs.getD (k - 1) 0 = y at *
              have hy' : ¬ x ≤ y := by omega
              have j1 : IntKind.i64.wrap ((k : Int) - 1) = (k : Int) - 1 := IntWalk.i64_in _ (by omega)
              go_wp2_with fail
              go_quiet (fail)
              clear j1 j2 j3 j4
              go_wp2
              go_roundw
              case rel => exact ⟨k + 1, by omega, by omega, by go_num, HT.out, (by repeat (first | exact Below.refl _ _ | assumption | refine Below.drew ?_ | refine below_drewN ?_ _ | refine Below.alloc ?_ (by first | omega | (simp; done) | (simp; omega)) _ | refine Below.setCell ?_ (by first | omega | (simp; done) | (simp; omega)) _))⟩
              case measure => simp [intOf]; omega
            · replace HR := Lib.hid (show levB zs H = false by rw [HR.out]; exact rises_no (zs := zs) (k := k - 1) (by rw [HL.out]; omega) (by rw [show k - 1 + 1 = k by omega]; exact hy))
              generalize zs.getD k 0 = x at *
              generalize zs.getD (k - 1) 0 = y at *
              have hy' : x ≤ y := by omega
              have j1 : IntKind.i64.wrap ((k : Int) - 1) = (k : Int) - 1 := IntWalk.i64_in _ (by omega)
              go_wp2_with fail
              go_quiet (fail)
              clear j1 j2 j3 j4
              go_wp2
              go_ret
              exact ⟨ret_bool (by rw [HR.out]), (by repeat (first | exact Below.refl _ _ | assumption | refine Below.drew ?_ | refine below_drewN ?_ _ | refine Below.alloc ?_ (by first | omega | (simp; done) | (simp; omega)) _ | refine Below.setCell ?_ (by first | omega | (simp; done) | (simp; omega)) _))⟩
          · replace HR := Lib.hid (show levB zs H = true by rw [HR.out]; exact rises_mk (fun m hm => HJ.out m (by rw [HL.out] at hm; omega) (by rw [HL.out] at hm; exact hm)))
            have hlt' : ¬ (k : Int) < (len : Int) := by omega
            clear hlt
            go_wp2
            go_ret
            exact ⟨ret_bool (by rw [HR.out]), (by repeat (first | exact Below.refl _ _ | assumption | refine Below.drew ?_ | refine below_drewN ?_ _ | refine Below.alloc ?_ (by first | omega | (simp; done) | (simp; omega)) _ | refine Below.setCell ?_ (by first | omega | (simp; done) | (simp; omega)) _))⟩
end Go.Proofs.Ytgpcehokdfehjaa
