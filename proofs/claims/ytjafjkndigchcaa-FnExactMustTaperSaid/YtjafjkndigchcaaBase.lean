/- Small lemmas on worlds, endings and integers that all walks of this seat share; no function of the program is named here, no condition. -/
import Derived.Test.YtjafjkndigchcaaRows
import Derived.WalkKit
import Derived.WalkSpells
import Derived.WalkLawsBesides
import Derived.RegionTactic
import Derived.ChangeAlike
import Derived.Deep.QuietTactic
import Derived.BigQuiet
import Derived.Deep.RegionHeld3
import Derived.Deep.DeepCutAuto
import Derived.Lib.Hide
import Derived.ProofKit
import Derived.OpenShut
import Derived.ShutString
import Derived.ChangeOld
import Derived.Lib.SmallJoins
import Derived.SliceStrings
namespace Go.Proofs.Ytjafjkndigchcaa
open Go.RowKit

theorem ret_int {k : IntKind} {a b : Int} (h : a = b) : Ending.returned (.int k a) = .returned (.int k b) := by rw [h]
theorem ret_bool {a b : Bool} (h : a = b) : Ending.returned (.bool a) = .returned (.bool b) := by rw [h]
theorem bcell {W w1 : World} (hb : Below W.heap.size W w1) : (∀ b o, b < W.heap.size → w1.cell? ⟨b, o, none⟩ = W.cell? ⟨b, o, none⟩) ∧ (∀ b o, b < W.heap.size → w1.frozen? ⟨b, o, none⟩ = W.frozen? ⟨b, o, none⟩) :=
  ⟨fun b o h => hb.cell (p := ⟨b, o, none⟩) h, fun b o h => hb.frozen (p := ⟨b, o, none⟩) h⟩
theorem below_drewN {B : Nat} {a w : World} (h : Below B a w) (n : Nat) : Below B a (w.drewN n) := ⟨h.os, h.tape, h.output, h.size, h.block⟩
/-- What a callee did above its caller's world, seen from an elder world. -/
theorem below_call {a W w1 : World} (h : Below a.heap.size a W) (hb : Below W.heap.size W w1) : Below a.heap.size a w1 := h.trans (hb.mono h.size)

/-- low ≤ n ≤ high, as a Bool that simp does not open. -/
def inB (n lo hi : Int) : Bool := decide (lo ≤ n ∧ n ≤ hi)
theorem inB_t {n lo hi : Int} (h : inB n lo hi = true) : lo ≤ n ∧ n ≤ hi := by simpa [inB] using h
theorem inB_f {n lo hi : Int} (h : inB n lo hi = false) : ¬ (lo ≤ n ∧ n ≤ hi) := by simpa [inB] using h
theorem inB_mk {n lo hi : Int} (h : lo ≤ n ∧ n ≤ hi) : inB n lo hi = true := by simpa [inB] using h
theorem inB_no {n lo hi : Int} (h : ¬ (lo ≤ n ∧ n ≤ hi)) : inB n lo hi = false := by
  unfold inB; exact decide_eq_false h

/-- A cell that is there reads as before behind a call that turns no old memory; it stays unfrozen. -/
theorem keep1 {W wx : World} {a : Addr} {v : Value} (hb : Below W.heap.size W wx) (h : W.cell? a = some v) : wx.cell? a = some v :=
  (hb.cell (World.block_lt_of_cell? _ _ h)).trans h
theorem keepA {W : World} {a : Addr} {v : Value} {o : Obj} (h : W.cell? a = some v) : (W.alloc o).cell? a = some v :=
  (World.cell?_alloc_lt _ _ _ (World.block_lt_of_cell? _ _ h)).trans h
theorem keepf {W wx : World} {a : Addr} {v : Value} (hb : Below W.heap.size W wx) (h : W.cell? a = some v) (hf : W.frozen? a = false) : wx.frozen? a = false :=
  (hb.frozen (World.block_lt_of_cell? _ _ h)).trans hf
theorem keep4 {W wx : World} {a0 a1 a2 a3 : Addr} {v0 v1 v2 v3 : Value} (hb : Below W.heap.size W wx) (h : W.cell? a0 = some v0 ∧ W.cell? a1 = some v1 ∧ W.cell? a2 = some v2 ∧ W.cell? a3 = some v3) :
    wx.cell? a0 = some v0 ∧ wx.cell? a1 = some v1 ∧ wx.cell? a2 = some v2 ∧ wx.cell? a3 = some v3 :=
  ⟨(hb.cell (World.block_lt_of_cell? _ _ h.1)).trans h.1, (hb.cell (World.block_lt_of_cell? _ _ h.2.1)).trans h.2.1, (hb.cell (World.block_lt_of_cell? _ _ h.2.2.1)).trans h.2.2.1, (hb.cell (World.block_lt_of_cell? _ _ h.2.2.2)).trans h.2.2.2⟩
theorem keep3 {W wx : World} {a0 a1 a2 : Addr} {v0 v1 v2 : Value} (hb : Below W.heap.size W wx) (h : W.cell? a0 = some v0 ∧ W.cell? a1 = some v1 ∧ W.cell? a2 = some v2) : wx.cell? a0 = some v0 ∧ wx.cell? a1 = some v1 ∧ wx.cell? a2 = some v2 :=
  ⟨keep1 hb h.1, keep1 hb h.2.1, keep1 hb h.2.2⟩
theorem keep7 {W wx : World} {a0 a1 a2 a3 a4 a5 a6 : Addr} {v0 v1 v2 v3 v4 v5 v6 : Value} (hb : Below W.heap.size W wx) (h : W.cell? a0 = some v0 ∧ W.cell? a1 = some v1 ∧ W.cell? a2 = some v2 ∧ W.cell? a3 = some v3 ∧ W.cell? a4 = some v4 ∧ W.cell? a5 = some v5 ∧ W.cell? a6 = some v6) : wx.cell? a0 = some v0 ∧ wx.cell? a1 = some v1 ∧ wx.cell? a2 = some v2 ∧ wx.cell? a3 = some v3 ∧ wx.cell? a4 = some v4 ∧ wx.cell? a5 = some v5 ∧ wx.cell? a6 = some v6 :=
  ⟨keep1 hb h.1, keep1 hb h.2.1, keep1 hb h.2.2.1, keep1 hb h.2.2.2.1, keep1 hb h.2.2.2.2.1, keep1 hb h.2.2.2.2.2.1, keep1 hb h.2.2.2.2.2.2⟩
theorem keep8 {W wx : World} {a0 a1 a2 a3 a4 a5 a6 a7 : Addr} {v0 v1 v2 v3 v4 v5 v6 v7 : Value} (hb : Below W.heap.size W wx) (h : W.cell? a0 = some v0 ∧ W.cell? a1 = some v1 ∧ W.cell? a2 = some v2 ∧ W.cell? a3 = some v3 ∧ W.cell? a4 = some v4 ∧ W.cell? a5 = some v5 ∧ W.cell? a6 = some v6 ∧ W.cell? a7 = some v7) : wx.cell? a0 = some v0 ∧ wx.cell? a1 = some v1 ∧ wx.cell? a2 = some v2 ∧ wx.cell? a3 = some v3 ∧ wx.cell? a4 = some v4 ∧ wx.cell? a5 = some v5 ∧ wx.cell? a6 = some v6 ∧ wx.cell? a7 = some v7 :=
  ⟨keep1 hb h.1, keep1 hb h.2.1, keep1 hb h.2.2.1, keep1 hb h.2.2.2.1, keep1 hb h.2.2.2.2.1, keep1 hb h.2.2.2.2.2.1, keep1 hb h.2.2.2.2.2.2.1, keep1 hb h.2.2.2.2.2.2.2⟩
theorem keep1s {W : World} {p p' : Addr} {u u' : Value} {B o : Nat} {v : Value} (h : W.cell? ⟨B, o, none⟩ = some v) (hp : p.block ≠ B) (hp' : p'.block ≠ B) : ((W.setCell p u).setCell p' u').cell? ⟨B, o, none⟩ = some v := by
  rw [World.cell?_setCell_other _ _ _ _ (fun e => by subst e; exact hp' rfl), World.cell?_setCell_other _ _ _ _ (fun e => by subst e; exact hp rfl)]; exact h
theorem keep4s {W : World} {p p' : Addr} {u u' : Value} {B o0 o1 o2 o3 : Nat} {v0 v1 v2 v3 : Value} (h : W.cell? ⟨B, o0, none⟩ = some v0 ∧ W.cell? ⟨B, o1, none⟩ = some v1 ∧ W.cell? ⟨B, o2, none⟩ = some v2 ∧ W.cell? ⟨B, o3, none⟩ = some v3)
    (hp : p.block ≠ B) (hp' : p'.block ≠ B) : ((W.setCell p u).setCell p' u').cell? ⟨B, o0, none⟩ = some v0 ∧ ((W.setCell p u).setCell p' u').cell? ⟨B, o1, none⟩ = some v1 ∧ ((W.setCell p u).setCell p' u').cell? ⟨B, o2, none⟩ = some v2 ∧ ((W.setCell p u).setCell p' u').cell? ⟨B, o3, none⟩ = some v3 :=
  ⟨keep1s h.1 hp hp', keep1s h.2.1 hp hp', keep1s h.2.2.1 hp hp', keep1s h.2.2.2 hp hp'⟩
theorem mul_bd {a b A B : Int} (ha : 0 ≤ a) (ha' : a ≤ A) (hb : 0 ≤ b) (hb' : b ≤ B) : 0 ≤ a * b ∧ a * b ≤ A * B :=
  ⟨Int.mul_nonneg ha hb, Int.le_trans (Int.mul_le_mul_of_nonneg_right ha' hb) (Int.mul_le_mul_of_nonneg_left hb' (by omega))⟩
theorem gcd_step (a b : Int) : Int.gcd b (a.tmod b) = Int.gcd a b := by
  simp only [Int.gcd, Int.natAbs_tmod]
  rw [Nat.gcd_comm b.natAbs, ← Nat.gcd_rec, Nat.gcd_comm]
theorem tmod_lt (a b : Int) (h : ¬ b = 0) : (a.tmod b).natAbs < b.natAbs := by
  rw [Int.natAbs_tmod]
  exact Nat.mod_lt _ (by omega)
/-- The fraction n/d in lowest terms, for a positive d. -/
def lwN (n d : Int) : Int := n.tdiv (Int.gcd n d)
def lwD (n d : Int) : Int := d.tdiv (Int.gcd n d)
theorem gcd_ge (n d : Int) (hd : 0 < d) : 1 ≤ (Int.gcd n d : Int) := by
  have := Int.gcd_pos_of_ne_zero_right n (b := d) (by omega); omega
theorem lwD_eq (n d : Int) (hd : 0 < d) : lwD n d = d / (Int.gcd n d : Int) := by
  unfold lwD; exact Int.tdiv_eq_ediv_of_nonneg (by omega)
theorem lwN_mul (n d : Int) : lwN n d * (Int.gcd n d : Int) = n := by
  unfold lwN; exact Int.tdiv_mul_cancel (Int.gcd_dvd_left n d)
theorem lwD_mul (n d : Int) : lwD n d * (Int.gcd n d : Int) = d := by
  unfold lwD; exact Int.tdiv_mul_cancel (Int.gcd_dvd_right n d)
theorem lwD_pos (n d : Int) (hd : 0 < d) : 1 ≤ lwD n d := by
  have h := lwD_mul n d
  have hg := gcd_ge n d hd
  by_cases h0 : 1 ≤ lwD n d
  · exact h0
  · exfalso
    have : lwD n d * (Int.gcd n d : Int) ≤ 0 * (Int.gcd n d : Int) := Int.mul_le_mul_of_nonneg_right (by omega) (by omega)
    omega
theorem lwD_le (n d : Int) (hd : 0 < d) : lwD n d ≤ d := by
  have h := lwD_mul n d
  have hg := gcd_ge n d hd
  have h1 := lwD_pos n d hd
  have : lwD n d * 1 ≤ lwD n d * (Int.gcd n d : Int) := Int.mul_le_mul_of_nonneg_left hg (by omega)
  omega
theorem lwN_nonneg (n d : Int) (hn : 0 ≤ n) : 0 ≤ lwN n d := by
  unfold lwN; exact Int.tdiv_nonneg hn (Int.natCast_nonneg _)
theorem lwN_neg (n d : Int) : lwN (-n) d = - lwN n d := by
  unfold lwN; rw [Int.neg_tdiv]; simp [Int.gcd]
theorem lwN_le (n d : Int) (hn : 0 ≤ n) : lwN n d ≤ n := by
  unfold lwN; rw [Int.tdiv_eq_ediv_of_nonneg hn]; exact Int.ediv_le_self _ hn
/-- n/d = N/D in cross products. -/
theorem lw_cross (n d : Int) : lwN n d * d = n * lwD n d := by
  have h1 := lwN_mul n d
  have h2 := lwD_mul n d
  calc lwN n d * d = lwN n d * (lwD n d * (Int.gcd n d : Int)) := by rw [h2]
    _ = (lwN n d * (Int.gcd n d : Int)) * lwD n d := by rw [Int.mul_comm (lwD n d), ← Int.mul_assoc]
    _ = n * lwD n d := by rw [h1]

theorem ownNone : ownKnob Try.prog.godebug = none := by kernel_rfl
theorem laidOut : laidOutB Try.prog = true := by kernel_rfl
end Go.Proofs.Ytjafjkndigchcaa
