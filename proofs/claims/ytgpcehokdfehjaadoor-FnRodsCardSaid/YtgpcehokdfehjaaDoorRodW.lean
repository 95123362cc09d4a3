/- What the law of rods wants of its functions: joints, beds and marks told at their results; no program in sight. -/
import Derived.Test.YtgpcehokdfehjaaDoorRodQ
import Derived.Test.YtgpcehokdfehjaaDoorRodM
namespace Go.Proofs.YtgpcehokdfehjaaDoor
set_option linter.unusedVariables false

/-- Joints that are told. -/
structure JTold (h T m : Int) (E : List Int) (p q : Int) : Prop where
  len : E.length ≤ 40 ∧ 1 ≤ E.length
  near : ∀ i, i < E.length → 0 ≤ E.getD i 0 ∧ E.getD i 0 ≤ 1000000 ∧ E.getD i 0 ≤ E.getD 0 0 ∧ E.getD 0 0 - 1 ≤ E.getD i 0
  sum : preQ E E.length = T - m * h
  bed : p * m = (T - m * h) * q
  bds : 0 ≤ m * h ∧ m * h ≤ 6000 ∧ 0 ≤ T - m * h ∧ T ≤ 6000 ∧ 1 ≤ m ∧ m ≤ 40 ∧ 0 ≤ p * m ∧ p * m ≤ 240000
theorem joints_told {l d h j T m : Int} (hc : bedC l d h j T m = 0) : JTold h T m (evenlyI l d h j T m) (bedI l d h j T m).1 (bedI l d h j T m).2.1 := by
  rcases bedC_cases l d h j T m with ⟨_, g, g1, g2⟩ | h0
  · obtain ⟨s1, s2, s3, s4⟩ := storB_t g1
    obtain ⟨_, _, _, _, h1, h2, _⟩ := fmtB_t g
    have hm := Int.mul_nonneg (show 0 ≤ m by omega) (show 0 ≤ h by omega)
    have e : evenlyI l d h j T m = evens (T - m * h) m m.toNat := by unfold evenlyI; rw [if_pos hc]
    rw [e, bedI_yes hc]
    have hA : 0 ≤ T - m * h := by omega
    have hln := evens_len (T - m * h) m m.toNat
    have hmn : 1 ≤ m.toNat ∧ m.toNat ≤ 40 := by omega
    refine ⟨by omega, fun i hi => ?_, ?_, ?_, ?_⟩
    · rw [hln] at hi
      rw [evens_get _ _ hi, evens_get _ _ (show 0 < m.toNat by omega)]
      have b1 := joint_bd hA s3 i
      have b2 := evens_near (T - m * h) m i
      omega
    · rw [hln]; exact evens_all _ _ hA s3
    · exact lw_cross _ _
    · have n1 := lwN_nonneg (T - m * h) m hA
      have n2 := lwN_le (T - m * h) m hA
      obtain ⟨p1, p2⟩ := mul_bd (a := lwN (T - m * h) m) (b := m) (A := 6000) (B := 40) n1 (by omega) (by omega) s4
      exact ⟨hm, by omega, hA, s2, s3, s4, p1, by show lwN (T - m * h) m * m ≤ 240000; omega⟩
  · exact absurd hc h0
/-- The mark before. -/
def lastM (L : List Int) : Nat → Int
  | 0 => 0
  | k + 1 => L.getD k 0
/-- Marks that are told. -/
structure MTold (H c : Int) (L : List Int) : Prop where
  len : L.length ≤ 40
  bds : 100 ≤ H ∧ H ≤ 6000 ∧ 1 ≤ c ∧ c ≤ 40
  at_ : ∀ i, i < L.length → 0 ≤ L.getD i 0 ∧ L.getD i 0 ≤ 1000000 ∧ 0 ≤ lastM L i ∧ lastM L i ≤ 1000000
  step : ∀ i, i < L.length → (L.getD i 0 - lastM L i) * c ≤ H + c ∧ H - c ≤ (L.getD i 0 - lastM L i) * c
  last : lastM L L.length = H
theorem marks_told {H c : Int} (hc : marC H c = 0) : MTold H c (marI H c) := by
  cases g : storB H c
  · rw [(marI_no g).2] at hc; cases hc
  · obtain ⟨b1, b2, c1, c2⟩ := storB_t g
    rw [(marI_yes g).1]
    have hln := markL_len H c c.toNat
    have hl : ∀ i, i ≤ c.toNat → lastM (markL H c c.toNat) i = markI H c (i : Int) := by
      intro i hi
      cases i with
      | zero => exact (mark_first c1).symm
      | succ k =>
        show (markL H c c.toNat).getD k 0 = _
        rw [markL_get H c (by omega)]
        rfl
    refine ⟨by omega, ⟨b1, b2, c1, c2⟩, fun i hi => ?_, fun i hi => ?_, ?_⟩
    · rw [hln] at hi
      rw [hl i (by omega), markL_get H c hi]
      have q1 := mark_bd (H := H) (c := c) (k := (i : Int) + 1) (by omega) b2 c1 c2 (by omega) (by omega)
      have q2 := mark_bd (H := H) (c := c) (k := (i : Int)) (by omega) b2 c1 c2 (by omega) (by omega)
      omega
    · rw [hln] at hi
      rw [hl i (by omega), markL_get H c hi]
      exact mark_step c1
    · rw [hln, hl _ (Nat.le_refl _), show ((c.toNat : Nat) : Int) = c by omega]
      exact mark_last c1
theorem IsRow.cellTwo {k : IntKind} {w : World} {a : Option Addr} {len cap : Nat} {zs : List Int} (h : IsRow k w a len cap zs) {i : Nat} (hi : i < len) :
    ∃ b o, a = some ⟨b, o, none⟩ ∧ b < w.heap.size ∧ w.cell? ⟨b, o + i, none⟩ = some (.int k (zs.getD i 0)) ∧ w.cell? ⟨b, o, none⟩ = some (.int k (zs.getD 0 0)) := by
  obtain ⟨b, o, ha, hb, h1⟩ := h.cell hi
  obtain ⟨b', o', ha', _, h2⟩ := h.cell (i := 0) (by omega)
  rw [ha] at ha'
  injection ha' with e
  injection e with e1 e2
  subst e1 e2
  exact ⟨b, o, ha, hb, h1, h2⟩
end Go.Proofs.YtgpcehokdfehjaaDoor
