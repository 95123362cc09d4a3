/- The plain law of WhyNot: which conditions forbid every line, by the program and by the reference; what a call hands back that has two new slices. -/
import Derived.Test.YtklhaanapembdaaCanP
import Derived.Test.YtklhaanapembdaaOwnT
namespace Go.Proofs.Ytklhaanapembdaa
open Go.RowKit

/-- The joints of a condition. -/
def jl (c : Cnd) : List Int := [c.j, c.k, c.p, c.q]
theorem jl_len (c : Cnd) : (jl c).length = 4 := rfl
/-- The code, and the two lists. -/
def wnC (ls lo hi : List Int) : Int := if blkB ls lo hi = true then (if standB (bfind ls lo hi) = true then 6 else 0) else 1
def wnL (ls lo hi : List Int) : List Int :=
  if blkB ls lo hi = true ∧ standB (bfind ls lo hi) = false ∧ (bfind ls lo hi).hn = false ∧ (bfind ls lo hi).high.a < 0 then jl (bfind ls lo hi).low else []
def wnH (ls lo hi : List Int) : List Int :=
  if blkB ls lo hi = true ∧ standB (bfind ls lo hi) = false then (if (bfind ls lo hi).hn = true then jl (bfind ls lo hi).never else jl (bfind ls lo hi).high) else []
theorem wnL_len (ls lo hi : List Int) : (wnL ls lo hi).length ≤ 1000000 := by unfold wnL; split <;> simp [jl]
theorem wnH_len (ls lo hi : List Int) : (wnH ls lo hi).length ≤ 1000000 := by unfold wnH; split <;> (try split) <;> simp [jl]
theorem wn_bad {ls lo hi : List Int} (h : blkB ls lo hi = false) : wnC ls lo hi = 1 ∧ wnL ls lo hi = [] ∧ wnH ls lo hi = [] := by simp [wnC, wnL, wnH, h]
theorem wn_stand {ls lo hi : List Int} (h : blkB ls lo hi = true) (h2 : standB (bfind ls lo hi) = true) : wnC ls lo hi = 6 ∧ wnL ls lo hi = [] ∧ wnH ls lo hi = [] := by simp [wnC, wnL, wnH, h, h2]
theorem wn_never {ls lo hi : List Int} (h : blkB ls lo hi = true) (h2 : standB (bfind ls lo hi) = false) (h3 : (bfind ls lo hi).hn = true) : wnC ls lo hi = 0 ∧ wnL ls lo hi = [] ∧ wnH ls lo hi = jl (bfind ls lo hi).never := by simp [wnC, wnL, wnH, h, h2, h3]
theorem wn_high {ls lo hi : List Int} (h : blkB ls lo hi = true) (h2 : standB (bfind ls lo hi) = false) (h3 : (bfind ls lo hi).hn = false) (h4 : ¬ (bfind ls lo hi).high.a < 0) : wnC ls lo hi = 0 ∧ wnL ls lo hi = [] ∧ wnH ls lo hi = jl (bfind ls lo hi).high := by simp [wnC, wnL, wnH, h, h2, h3, h4]
theorem wn_both {ls lo hi : List Int} (h : blkB ls lo hi = true) (h2 : standB (bfind ls lo hi) = false) (h3 : (bfind ls lo hi).hn = false) (h4 : (bfind ls lo hi).high.a < 0) : wnC ls lo hi = 0 ∧ wnL ls lo hi = jl (bfind ls lo hi).low ∧ wnH ls lo hi = jl (bfind ls lo hi).high := by simp [wnC, wnL, wnH, h, h2, h3, h4]
/-- Where an arch falls by two conditions, there is a lower bound, and it is positive. -/
theorem both_low {S : Bnds} (hg : goodS S) (hh : S.hh = true) (h2 : standB S = false) (h3 : S.hn = false) (h4 : S.high.a < 0) : S.hl = true ∧ 0 < S.low.a ∧ 0 < S.low.b := by
  unfold standB at h2
  rw [h3, hh, decide_eq_true h4] at h2
  simp only [Bool.not_false, Bool.or_true, Bool.and_true, Bool.true_and, Bool.not_eq_false', Bool.and_eq_true] at h2
  obtain ⟨hl, hx⟩ := h2
  have hb := (hg.1 hl).1
  refine ⟨hl, ?_, hb⟩
  by_cases k : 0 < S.low.a
  · exact k
  · replace k : S.low.a ≤ 0 := by omega
    rw [less_up' (hg.2.1 hh).1 hb h4 k] at hx; cases hx
/-- A call that hands back two new slices of integers and a code: their arrays lie in two stretches, apart. -/
def New2 (w : World) (z1 z2 : List Int) (code : Int) (e : Ending) (w' : World) : Prop :=
  ∃ a1 c1 a2 c2 b1 t1 b2 t2, e = .returned (.tuple #[.slice a1 z1.length c1, .slice a2 z2.length c2, .int .i64 code]) ∧ OwnT w' b1 t1 (.slice a1 z1.length c1) z1 ∧ OwnT w' b2 t2 (.slice a2 z2.length c2) z2 ∧ w.heap.size ≤ b1 ∧ w.heap.size ≤ b2 ∧ t1 ≤ w'.heap.size ∧ t2 ≤ w'.heap.size ∧ (t1 ≤ b2 ∨ t2 ≤ b1) ∧ Below w.heap.size w w'
theorem new2_mk {w w1 w' : World} {v1 v2 : Value} {z1 z2 : List Int} {code : Int} (h1 : OwnI w1 w.heap.size v1 z1) (h2 : OwnI w' w1.heap.size v2 z2) (hb : Below w.heap.size w w1) (hb1 : Below w1.heap.size w1 w') : New2 w z1 z2 code (.returned (.tuple #[v1, v2, .int .i64 code])) w' := by
  obtain ⟨a1, c1, rfl⟩ := h1.shape
  obtain ⟨a2, c2, rfl⟩ := h2.shape
  exact ⟨a1, c1, a2, c2, w.heap.size, w1.heap.size, w1.heap.size, w'.heap.size, rfl, h1.toT.below hb1, h2.toT, Nat.le_refl _, hb.size, hb1.size, Nat.le_refl _, .inl (Nat.le_refl _), below_call hb hb1⟩
theorem new2_mk' {w w1 w' : World} {v1 v2 : Value} {z1 z2 : List Int} {code : Int} (h2 : OwnI w1 w.heap.size v2 z2) (h1 : OwnI w' w1.heap.size v1 z1) (hb : Below w.heap.size w w1) (hb1 : Below w1.heap.size w1 w') : New2 w z1 z2 code (.returned (.tuple #[v1, v2, .int .i64 code])) w' := by
  obtain ⟨a1, c1, rfl⟩ := h1.shape
  obtain ⟨a2, c2, rfl⟩ := h2.shape
  exact ⟨a1, c1, a2, c2, w1.heap.size, w'.heap.size, w.heap.size, w1.heap.size, rfl, h1.toT, h2.toT.below hb1, hb.size, Nat.le_refl _, Nat.le_refl _, hb1.size, .inr (Nat.le_refl _), below_call hb hb1⟩
theorem New2.toldT {w w' : World} {z1 z2 : List Int} {code : Int} {e : Ending} {n1 n2 : Nat} (h : New2 w z1 z2 code e w') (h1 : z1.length = n1) (h2 : z2.length = n2) :
    ∃ a1 c1 a2 c2 b1 t1 b2 t2, e = .returned (.tuple #[.slice a1 n1 c1, .slice a2 n2 c2, .int .i64 code]) ∧ OwnT w' b1 t1 (.slice a1 n1 c1) z1 ∧ OwnT w' b2 t2 (.slice a2 n2 c2) z2 ∧ w.heap.size ≤ b1 ∧ w.heap.size ≤ b2 ∧ t1 ≤ w'.heap.size ∧ t2 ≤ w'.heap.size ∧ (t1 ≤ b2 ∨ t2 ≤ b1) ∧ Below w.heap.size w w' := by
  subst h1 h2; exact h
/-- Four cells, one after the other, are a slice of four. -/
theorem row4 {w : World} {b o : Nat} {x0 x1 x2 x3 : Int} (hb : b < w.heap.size) (h0 : w.cell? ⟨b, o, none⟩ = some (.int .i64 x0)) (h1 : w.cell? ⟨b, o + 1, none⟩ = some (.int .i64 x1)) (h2 : w.cell? ⟨b, o + 2, none⟩ = some (.int .i64 x2)) (h3 : w.cell? ⟨b, o + 3, none⟩ = some (.int .i64 x3)) :
    IsRow .i64 w (some ⟨b, o, none⟩) 4 4 [x0, x1, x2, x3] := by
  refine ⟨rfl, Nat.le_refl _, by unfold maxLen; omega, (fun h => by cases h), fun _ => ⟨b, o, rfl, hb, fun i n hi => ?_⟩⟩
  match i, hi with
  | 0, hi => injection hi with hi; subst hi; exact h0
  | 1, hi => injection hi with hi; subst hi; exact h1
  | 2, hi => injection hi with hi; subst hi; exact h2
  | 3, hi => injection hi with hi; subst hi; exact h3
  | i + 4, hi => simp at hi
end Go.Proofs.Ytklhaanapembdaa
