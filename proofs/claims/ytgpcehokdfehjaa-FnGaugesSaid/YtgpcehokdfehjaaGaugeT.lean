/- What the law of gauges wants of its functions: the plain law of courses and levels told at their results; contract of the reference's ValidLevels; no old memory turns. -/
import Derived.Test.YtgpcehokdfehjaaGaugeQ
import Derived.Test.YtgpcehokdfehjaaRodM
import Derived.Test.YtgpcehokdfehjaaLevelsOff
import Derived.Test.YtgpcehokdfehjaaSix
namespace Go.Proofs.Ytgpcehokdfehjaa
set_option linter.unusedVariables false
open Go.RowKit

/-- What the two searches tell, of their results. -/
structure GTold (l d h j H le mo : Int) (zs : List Int) (x1 x2 y1 y2 : Int) : Prop where
  bed : y2 = 0 → ∃ p q, bedI l d h j H y1 = (p, q, 0) ∧ 0 ≤ le ∧ le ≤ 40 ∧ 0 ≤ mo ∧ mo ≤ 40 ∧ le * q ≤ p ∧ p ≤ mo * q ∧ 1 ≤ q ∧ q ≤ 40 ∧ 0 ≤ p ∧ p ≤ 6000
  code : x2 ≠ 0 ∨ y2 ≠ 0 → x2 = 2 ∨ (x2 ≠ 0 ∧ y2 ≠ 0)
  sums : x2 = 0 → y2 = 0 ∧ levB zs H = true ∧ storB H x1 = true ∧ storB H y1 = true ∧ sumI H x1 zs ≤ sumI H y1 zs
theorem gauge_told (l d h j H le mo : Int) (zs : List Int) : GTold l d h j H le mo zs (bgI l d h j H le mo zs).1 (bgI l d h j H le mo zs).2 (coursesI l d h j H le mo).1 (coursesI l d h j H le mo).2 := by
  rcases gauge_law l d h j H le mo zs with ⟨hg, h1, h2⟩ | ⟨h1, n, c, h2, h3, h4⟩ | ⟨h1, h2⟩ | ⟨b, n, h1, h2, h3, h4, h5, h6, h7⟩
  · rw [h1, h2]
    exact ⟨fun e => absurd e (by decide), fun _ => .inr ⟨by decide, by decide⟩, fun e => absurd e (by decide)⟩
  · rw [h1, h2]
    refine ⟨fun e => ?_, fun _ => .inl rfl, fun e => absurd e (by decide)⟩
    obtain ⟨a1, a2, a3, a4, a5, a6, a7, a8, a9, a10, a11, a12, a13⟩ := h3 e
    exact ⟨_, _, a1, a4, a5, a6, a7, a8, a9, a10, a11, a12, a13⟩
  · rw [h1, h2]
    exact ⟨fun e => absurd e (by decide), fun _ => .inr ⟨by decide, by decide⟩, fun e => absurd e (by decide)⟩
  · rw [h1, h2]
    refine ⟨fun e => ?_, fun e => by rcases e with e | e <;> exact absurd rfl e, fun _ => ⟨rfl, h4, h5, h6, h7⟩⟩
    obtain ⟨a1, a2, a3, a4, a5, a6, a7, a8, a9, a10, a11, a12, a13⟩ := h3
    exact ⟨_, _, a1, a4, a5, a6, a7, a8, a9, a10, a11, a12, a13⟩
theorem preQ_preS (ys : List Int) (k : Nat) : preQ ys k = preS ys k := by
  induction k with
  | zero => rfl
  | succ k ih => simp only [preQ, preS, ih]
/-- Levels that are told, against the marks. -/
theorem levels_told {H c : Int} {zs : List Int} (hs : storB H c = true) (hv : levB zs H = true) (i k : Nat) (hi : i < zs.length) (hk : k < c.toNat) :
    lvOff H c (zs.getD i 0) ≤ zs.getD i 0 ∧ 0 ≤ lvOff H c (zs.getD i 0) ∧ zs.getD i 0 ≤ 6000 ∧
      ¬ (if (markL H c c.toNat).getD k 0 - zs.getD i 0 < -((markL H c c.toNat).getD k 0 - zs.getD i 0) then -((markL H c c.toNat).getD k 0 - zs.getD i 0) else (markL H c c.toNat).getD k 0 - zs.getD i 0) < lvOff H c (zs.getD i 0) ∧
      0 ≤ (markL H c c.toNat).getD k 0 ∧ (markL H c c.toNat).getD k 0 ≤ 1000000 := by
  obtain ⟨b1, b2, c1, c2⟩ := storB_t hs
  obtain ⟨v1, v2, v3, v4, _⟩ := levB_t hv
  obtain ⟨a1, a2⟩ := insB_t v4 i hi
  have h1 := lvOff_self (H := H) (c := c) (v := zs.getD i 0) c1 (by omega)
  have h2 := lvOff_le (H := H) (c := c) (v := zs.getD i 0) c1 ((k : Int) + 1) (by omega) (by omega)
  have h3 := lvOff_bd (H := H) (c := c) (v := zs.getD i 0) (by omega) b2 c1 c2 (by omega) (by omega)
  have h4 := mark_bd (H := H) (c := c) (k := (k : Int) + 1) (by omega) b2 c1 c2 (by omega) (by omega)
  rw [markL_get H c hk]
  unfold farI at h2
  generalize markI H c ((k : Int) + 1) = m at *
  generalize lvOff H c (zs.getD i 0) = f at *
  generalize zs.getD i 0 = v at *
  refine ⟨h1, h3.1, by omega, ?_, h4.1, h4.2⟩
  split <;> omega
theorem level_self {H c : Int} {zs : List Int} (hs : storB H c = true) (hv : levB zs H = true) (i : Nat) (hi : i < zs.length) : lvOff H c (zs.getD i 0) ≤ zs.getD i 0 := by
  obtain ⟨b1, b2, c1, c2⟩ := storB_t hs
  obtain ⟨v1, v2, v3, v4, _⟩ := levB_t hv
  obtain ⟨a1, a2⟩ := insB_t v4 i hi
  exact lvOff_self c1 (by omega)
theorem specValidLevels_any (a : Option Addr) (len cap : Nat) (zs : List Int) (H : Int) (w : World) (h : IsRow .i64 w a len cap zs) :
    Calls Try.prog 35 #[.slice a len cap, .int .i64 H] w fun e w' => e = .returned (.bool (levB zs H)) ∧ Below w.heap.size w w' := by
  have HC := Lib.hid (l10Levels_any a len cap zs H w h)
  clear h
  go_enter Try.func35, Try.ntmps35
  go_wp2_with fail
  refine HC.out.mono ?_
  rintro e w1 ⟨rfl, hb⟩
  go_wp2
  go_ret
  exact ⟨rfl, hb⟩
end Go.Proofs.Ytgpcehokdfehjaa
