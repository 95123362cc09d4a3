/- The plain law of gauges: courses that fit are told, marks are not nearer than the one that is told, and the best gauge is no worse than the other; no program in sight. -/
import Derived.Test.YtgpcehokdfehjaaGaugeF
import Derived.Test.YtgpcehokdfehjaaBest
import Derived.Test.YtgpcehokdfehjaaLevelsOff
import Derived.Test.YtgpcehokdfehjaaGauge
namespace Go.Proofs.Ytgpcehokdfehjaa
set_option linter.unusedVariables false

theorem fitB_t {h H le mo n : Int} (g : fitB h H le mo n = true) : n * (h + le) ≤ H ∧ H ≤ n * (h + mo) := by
  unfold fitB at g
  simpa using g
/-- The first search: none fits, or what is told fits. -/
theorem cf_fit (h H le mo s : Int) (k : Nat) : (cfBest h H le mo s k = 0 ∧ ∀ n : Int, 1 ≤ n → n ≤ k → fitB h H le mo n = false) ∨ (1 ≤ cfBest h H le mo s k ∧ cfBest h H le mo s k ≤ k ∧ fitB h H le mo (cfBest h H le mo s k) = true) := by
  induction k with
  | zero => exact .inl ⟨rfl, fun n h1 h2 => by omega⟩
  | succ k ih =>
    simp only [cfBest]
    cases g : fitB h H le mo ((k : Int) + 1)
    · rw [cf_no g]
      rcases ih with ⟨a, b⟩ | ⟨a, b, c⟩
      · refine .inl ⟨a, fun n h1 h2 => ?_⟩
        by_cases e : n = (k : Int) + 1
        · rw [e]; exact g
        · exact b n h1 (by omega)
      · exact .inr ⟨a, by omega, c⟩
    · rcases ih with ⟨a, b⟩ | ⟨a, b, c⟩
      · rw [cf_first g a]
        exact .inr ⟨by omega, by omega, g⟩
      · by_cases hd : dstI H s ((k : Int) + 1) * cfBest h H le mo s k < dstI H s (cfBest h H le mo s k) * ((k : Int) + 1)
        · rw [cf_less g hd]
          exact .inr ⟨by omega, by omega, g⟩
        · rw [cf_more g (by omega) hd]
          exact .inr ⟨a, by omega, c⟩
/-- The second search: none fits, or what is told fits and is best. -/
theorem bg_fit (h H le mo : Int) (zs : List Int) (k : Nat) : ((bgBest h H le mo zs k).1 = 0 ∧ ∀ n : Int, 1 ≤ n → n ≤ k → fitB h H le mo n = false) ∨ (1 ≤ (bgBest h H le mo zs k).1 ∧ (bgBest h H le mo zs k).1 ≤ k ∧ fitB h H le mo (bgBest h H le mo zs k).1 = true ∧ (bgBest h H le mo zs k).2 = sumI H (bgBest h H le mo zs k).1 zs ∧ ∀ n : Int, 1 ≤ n → n ≤ k → fitB h H le mo n = true → (bgBest h H le mo zs k).2 ≤ sumI H n zs) := by
  induction k with
  | zero => exact .inl ⟨rfl, fun n h1 h2 => by omega⟩
  | succ k ih =>
    simp only [bgBest]
    cases g : fitB h H le mo ((k : Int) + 1)
    · rw [bg_no g]
      rcases ih with ⟨a, b⟩ | ⟨a, b, c, d, e⟩
      · refine .inl ⟨a, fun n h1 h2 => ?_⟩
        by_cases e : n = (k : Int) + 1
        · rw [e]; exact g
        · exact b n h1 (by omega)
      · refine .inr ⟨a, by omega, c, d, fun n h1 h2 h3 => ?_⟩
        by_cases e' : n = (k : Int) + 1
        · rw [e', g] at h3; cases h3
        · exact e n h1 (by omega) h3
    · rcases ih with ⟨a, b⟩ | ⟨a, b, c, d, e⟩
      · rw [bg_first g a]
        refine .inr ⟨?_, ?_, g, rfl, fun n h1 h2 h3 => ?_⟩
        · show 1 ≤ (k : Int) + 1
          omega
        · show (k : Int) + 1 ≤ _
          omega
        · by_cases e' : n = (k : Int) + 1
          · rw [e']; exact Int.le_refl _
          · rw [b n h1 (by omega)] at h3; cases h3
      · by_cases hd : sumI H ((k : Int) + 1) zs < (bgBest h H le mo zs k).2
        · rw [bg_less g hd]
          refine .inr ⟨?_, ?_, g, rfl, fun n h1 h2 h3 => ?_⟩
          · show 1 ≤ (k : Int) + 1
            omega
          · show (k : Int) + 1 ≤ _
            omega
          · show sumI H ((k : Int) + 1) zs ≤ _
            by_cases e' : n = (k : Int) + 1
            · rw [e']; exact Int.le_refl _
            · have := e n h1 (by omega) h3; omega
        · rw [bg_more g (by omega) hd]
          refine .inr ⟨a, by omega, c, d, fun n h1 h2 h3 => ?_⟩
          by_cases e' : n = (k : Int) + 1
          · rw [e']; omega
          · exact e n h1 (by omega) h3
/-- No mark is nearer. -/
theorem nearK_min (H c v : Int) (n : Nat) (k : Int) (h0 : 0 ≤ k) (h1 : k ≤ n) : farI H c v (nearK H c v n) ≤ farI H c v k := by
  induction n with
  | zero => obtain rfl : k = 0 := by omega
            exact Int.le_refl _
  | succ n ih =>
    by_cases g : farI H c v ((n : Int) + 1) < farI H c v (nearK H c v n)
    · rw [nearK_yes g]
      by_cases e : k = (n : Int) + 1
      · rw [e]; exact Int.le_refl _
      · have := ih (by omega); omega
    · rw [nearK_no g]
      by_cases e : k = (n : Int) + 1
      · rw [e]; omega
      · exact ih (by omega)
theorem mark_zero {H c : Int} (hc : 1 ≤ c) : markI H c 0 = 0 := by
  unfold markI rndI
  rw [Int.zero_mul]
  exact Int.ediv_eq_zero_of_lt (by omega) (by omega)
theorem lvOff_le {H c v : Int} (hc : 1 ≤ c) (k : Int) (h0 : 0 ≤ k) (h1 : k ≤ c) : lvOff H c v ≤ farI H c v k := by
  unfold lvOff nearI
  exact nearK_min H c v c.toNat k h0 (by omega)
theorem lvOff_self {H c v : Int} (hc : 1 ≤ c) (hv : 0 ≤ v) : lvOff H c v ≤ v := by
  have := lvOff_le (H := H) (v := v) hc 0 (by omega) (by omega)
  unfold farI at this
  rw [mark_zero hc] at this
  omega
/-- Courses that fit have beds within the limits. -/
theorem bed_law {h H le mo n : Int} (h1 : 30 ≤ h) (hn : 1 ≤ n) (hl : 0 ≤ le) (g : fitB h H le mo n = true) : n * h ≤ H ∧ le * lwD (H - n * h) n ≤ lwN (H - n * h) n ∧ lwN (H - n * h) n ≤ mo * lwD (H - n * h) n := by
  obtain ⟨a, b⟩ := fitB_t g
  rw [Int.mul_add] at a b
  have := Int.mul_nonneg (show 0 ≤ n by omega) hl
  have e1 := Int.mul_comm n le
  have e2 := Int.mul_comm n mo
  exact ⟨by omega, lw_ge _ _ _ (by omega) (by omega), lw_le _ _ _ (by omega) (by omega)⟩
/-- What the two searches tell. -/
inductive GaugeCase (l d h j H le mo : Int) (zs : List Int) : Prop
  | bad (hg : fmtB l d h j = false) (h1 : bgI l d h j H le mo zs = (0, 1)) (h2 : coursesI l d h j H le mo = (0, 1))
  | range (h1 : bgI l d h j H le mo zs = (0, 2)) (n c : Int) (h2 : coursesI l d h j H le mo = (n, c)) (h3 : c = 0 → bedI l d h j H n = (lwN (H - n * h) n, lwD (H - n * h) n, 0) ∧ 1 ≤ n ∧ n ≤ 40 ∧ 0 ≤ le ∧ le ≤ 40 ∧ 0 ≤ mo ∧ mo ≤ 40 ∧ le * lwD (H - n * h) n ≤ lwN (H - n * h) n ∧ lwN (H - n * h) n ≤ mo * lwD (H - n * h) n ∧ 1 ≤ lwD (H - n * h) n ∧ lwD (H - n * h) n ≤ 40 ∧ 0 ≤ lwN (H - n * h) n ∧ lwN (H - n * h) n ≤ 6000) (h4 : c = 0 ∨ c ≠ 0)
  | none (h1 : bgI l d h j H le mo zs = (0, 3)) (h2 : coursesI l d h j H le mo = (0, 3))
  | both (b n : Int) (h1 : bgI l d h j H le mo zs = (b, 0)) (h2 : coursesI l d h j H le mo = (n, 0)) (h3 : bedI l d h j H n = (lwN (H - n * h) n, lwD (H - n * h) n, 0) ∧ 1 ≤ n ∧ n ≤ 40 ∧ 0 ≤ le ∧ le ≤ 40 ∧ 0 ≤ mo ∧ mo ≤ 40 ∧ le * lwD (H - n * h) n ≤ lwN (H - n * h) n ∧ lwN (H - n * h) n ≤ mo * lwD (H - n * h) n ∧ 1 ≤ lwD (H - n * h) n ∧ lwD (H - n * h) n ≤ 40 ∧ 0 ≤ lwN (H - n * h) n ∧ lwN (H - n * h) n ≤ 6000)
      (h4 : levB zs H = true) (h5 : storB H b = true) (h6 : storB H n = true) (h7 : sumI H b zs ≤ sumI H n zs)
theorem stor_mk {H n : Int} (h : inB H 100 6000 = true) (h1 : 1 ≤ n) (h2 : n ≤ 40) : storB H n = true := by
  unfold storB; rw [h, inB_mk ⟨h1, h2⟩]; rfl
theorem bed_told {l d h j H le mo n : Int} (hf : fmtB l d h j = true) (hH : inB H 100 6000 = true) (hL : limB le mo = true) (h1 : 1 ≤ n) (h2 : n ≤ 40) (g : fitB h H le mo n = true) :
    bedI l d h j H n = (lwN (H - n * h) n, lwD (H - n * h) n, 0) ∧ 1 ≤ n ∧ n ≤ 40 ∧ 0 ≤ le ∧ le ≤ 40 ∧ 0 ≤ mo ∧ mo ≤ 40 ∧ le * lwD (H - n * h) n ≤ lwN (H - n * h) n ∧ lwN (H - n * h) n ≤ mo * lwD (H - n * h) n ∧ 1 ≤ lwD (H - n * h) n ∧ lwD (H - n * h) n ≤ 40 ∧ 0 ≤ lwN (H - n * h) n ∧ lwN (H - n * h) n ≤ 6000 := by
  obtain ⟨f1, f2, f3, f4, f5, f6, f7, f8, f9⟩ := fmtB_t hf
  obtain ⟨l1, l2, l3⟩ := limB_t hL
  obtain ⟨a, b, c⟩ := bed_law f5 h1 l1 g
  have hH' := inB_t hH
  have hp : 0 ≤ n * h := Int.mul_nonneg (by omega) (by omega)
  have d1 := lwD_pos (H - n * h) n (by omega)
  have d2 := lwD_le (H - n * h) n (by omega)
  have n1 := lwN_nonneg (H - n * h) n (by omega)
  have n2 := lwN_le (H - n * h) n (by omega)
  exact ⟨bedI_yes (bedC_ok hf (stor_mk hH h1 h2) (by omega)), h1, h2, l1, by omega, by omega, l3, b, c, d1, by omega, n1, by omega⟩
theorem gauge_law (l d h j H le mo : Int) (zs : List Int) : GaugeCase l d h j H le mo zs := by
  rcases limC_cases l d h j H le mo with ⟨hc, hf, hH, hL⟩ | ⟨hc, hf⟩ | ⟨hc, hf, hb⟩
  · cases hv : levB zs H
    · refine .range (bgI_range hf (by rw [hv]; rfl)) (coursesI l d h j H le mo).1 (coursesI l d h j H le mo).2 rfl ?_ (Decidable.em _)
      rcases cf_fit h H le mo (h + j) 40 with ⟨a, b⟩ | ⟨a, b, c⟩
      · rw [coursesI_none hc a]; intro e; cases e
      · rw [coursesI_some hc (by omega)]
        intro _
        exact bed_told hf hH hL a (by omega) c
    · have hvl : (levB zs H && limB le mo) = true := by rw [hv, hL]; rfl
      rcases cf_fit h H le mo (h + j) 40 with ⟨a, b⟩ | ⟨a, b, c⟩
      · rcases bg_fit h H le mo zs 40 with ⟨a', b'⟩ | ⟨a', b', c', _⟩
        · exact .none (bgI_none hf hvl a') (coursesI_none hc a)
        · rw [b _ a' b'] at c'; cases c'
      · rcases bg_fit h H le mo zs 40 with ⟨a', b'⟩ | ⟨a', b', c', d', e'⟩
        · rw [b' _ a b] at c; cases c
        · refine .both (bgBest h H le mo zs 40).1 (cfBest h H le mo (h + j) 40) (bgI_some hf hvl (by omega)) (coursesI_some hc (by omega)) (bed_told hf hH hL a (by omega) c) hv (stor_mk hH a' (by omega)) (stor_mk hH a (by omega)) ?_
          rw [← d']
          exact e' _ a b c
  · exact .bad hf (bgI_bad hf) (coursesI_no hc (by omega))
  · refine .range (bgI_range hf ?_) 0 2 (coursesI_no hc (by omega)) (fun e => by omega) (.inr (by omega))
    rcases hb with hb | ⟨hb, hb2⟩
    · cases hv : levB zs H
      · rfl
      · obtain ⟨v1, v2, _⟩ := levB_t hv
        rw [inB_mk ⟨v1, v2⟩] at hb; cases hb
    · rw [hb2, Bool.and_false]
end Go.Proofs.Ytgpcehokdfehjaa
