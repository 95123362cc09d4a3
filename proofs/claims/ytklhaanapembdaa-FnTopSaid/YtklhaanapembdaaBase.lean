/- Small lemmas on worlds, endings and integers that all walks of this seat share; no function of the program is named here, no condition. -/
import Derived.Test.YtklhaanapembdaaRows
import Derived.WalkKit
import Derived.WalkSpells
import Derived.WalkLawsBesides
import Derived.RegionTactic
import Derived.ChangeAlike
import Derived.Deep.QuietTactic
import Derived.BigQuiet
import Derived.Deep.RegionHeld3
import Derived.Deep.DeepCutAuto
import Derived.Lib.Hide
import Derived.ProofKit
import Derived.OpenShut
import Derived.ShutString
import Derived.ChangeOld
import Derived.Lib.SmallJoins
import Derived.SliceStrings

namespace Go.Proofs.Ytklhaanapembdaa
open Go.RowKit

theorem ret_int {k : IntKind} {a b : Int} (h : a = b) : Ending.returned (.int k a) = .returned (.int k b) := by rw [h]
theorem ret_bool {a b : Bool} (h : a = b) : Ending.returned (.bool a) = .returned (.bool b) := by rw [h]
theorem bcell {W w1 : World} (hb : Below W.heap.size W w1) : (∀ b o, b < W.heap.size → w1.cell? ⟨b, o, none⟩ = W.cell? ⟨b, o, none⟩) ∧ (∀ b o, b < W.heap.size → w1.frozen? ⟨b, o, none⟩ = W.frozen? ⟨b, o, none⟩) :=
  ⟨fun b o h => hb.cell (p := ⟨b, o, none⟩) h, fun b o h => hb.frozen (p := ⟨b, o, none⟩) h⟩
theorem below_drewN {B : Nat} {a w : World} (h : Below B a w) (n : Nat) : Below B a (w.drewN n) := ⟨h.os, h.tape, h.output, h.size, h.block⟩
/-- What a callee did above its caller's world, seen from an elder world. -/
theorem below_call {a W w1 : World} (h : Below a.heap.size a W) (hb : Below W.heap.size W w1) : Below a.heap.size a w1 := h.trans (hb.mono h.size)

/-- low ≤ n ≤ high, as a Bool that simp does not open. -/
def inB (n lo hi : Int) : Bool := decide (lo ≤ n ∧ n ≤ hi)
theorem inB_t {n lo hi : Int} (h : inB n lo hi = true) : lo ≤ n ∧ n ≤ hi := by simpa [inB] using h
theorem inB_f {n lo hi : Int} (h : inB n lo hi = false) : ¬ (lo ≤ n ∧ n ≤ hi) := by simpa [inB] using h
theorem inB_mk {n lo hi : Int} (h : lo ≤ n ∧ n ≤ hi) : inB n lo hi = true := by simpa [inB] using h
theorem inB_no {n lo hi : Int} (h : ¬ (lo ≤ n ∧ n ≤ hi)) : inB n lo hi = false := by
  unfold inB; exact decide_eq_false h

/-- A cell that is there reads as before behind a call that turns no old memory; it stays unfrozen. -/
theorem keep1 {W wx : World} {a : Addr} {v : Value} (hb : Below W.heap.size W wx) (h : W.cell? a = some v) : wx.cell? a = some v :=
  (hb.cell (World.block_lt_of_cell? _ _ h)).trans h
theorem keepA {W : World} {a : Addr} {v : Value} {o : Obj} (h : W.cell? a = some v) : (W.alloc o).cell? a = some v :=
  (World.cell?_alloc_lt _ _ _ (World.block_lt_of_cell? _ _ h)).trans h
theorem keepf {W wx : World} {a : Addr} {v : Value} (hb : Below W.heap.size W wx) (h : W.cell? a = some v) (hf : W.frozen? a = false) : wx.frozen? a = false :=
  (hb.frozen (World.block_lt_of_cell? _ _ h)).trans hf
theorem keep4 {W wx : World} {a0 a1 a2 a3 : Addr} {v0 v1 v2 v3 : Value} (hb : Below W.heap.size W wx) (h : W.cell? a0 = some v0 ∧ W.cell? a1 = some v1 ∧ W.cell? a2 = some v2 ∧ W.cell? a3 = some v3) :
    wx.cell? a0 = some v0 ∧ wx.cell? a1 = some v1 ∧ wx.cell? a2 = some v2 ∧ wx.cell? a3 = some v3 :=
  ⟨(hb.cell (World.block_lt_of_cell? _ _ h.1)).trans h.1, (hb.cell (World.block_lt_of_cell? _ _ h.2.1)).trans h.2.1, (hb.cell (World.block_lt_of_cell? _ _ h.2.2.1)).trans h.2.2.1, (hb.cell (World.block_lt_of_cell? _ _ h.2.2.2)).trans h.2.2.2⟩
theorem keep3 {W wx : World} {a0 a1 a2 : Addr} {v0 v1 v2 : Value} (hb : Below W.heap.size W wx) (h : W.cell? a0 = some v0 ∧ W.cell? a1 = some v1 ∧ W.cell? a2 = some v2) : wx.cell? a0 = some v0 ∧ wx.cell? a1 = some v1 ∧ wx.cell? a2 = some v2 :=
  ⟨keep1 hb h.1, keep1 hb h.2.1, keep1 hb h.2.2⟩
theorem keep6 {W wx : World} {a0 a1 a2 a3 a4 a5 : Addr} {v0 v1 v2 v3 v4 v5 : Value} (hb : Below W.heap.size W wx) (h : W.cell? a0 = some v0 ∧ W.cell? a1 = some v1 ∧ W.cell? a2 = some v2 ∧ W.cell? a3 = some v3 ∧ W.cell? a4 = some v4 ∧ W.cell? a5 = some v5) : wx.cell? a0 = some v0 ∧ wx.cell? a1 = some v1 ∧ wx.cell? a2 = some v2 ∧ wx.cell? a3 = some v3 ∧ wx.cell? a4 = some v4 ∧ wx.cell? a5 = some v5 :=
  ⟨keep1 hb h.1, keep1 hb h.2.1, keep1 hb h.2.2.1, keep1 hb h.2.2.2.1, keep1 hb h.2.2.2.2.1, keep1 hb h.2.2.2.2.2⟩
theorem keep7 {W wx : World} {a0 a1 a2 a3 a4 a5 a6 : Addr} {v0 v1 v2 v3 v4 v5 v6 : Value} (hb : Below W.heap.size W wx) (h : W.cell? a0 = some v0 ∧ W.cell? a1 = some v1 ∧ W.cell? a2 = some v2 ∧ W.cell? a3 = some v3 ∧ W.cell? a4 = some v4 ∧ W.cell? a5 = some v5 ∧ W.cell? a6 = some v6) : wx.cell? a0 = some v0 ∧ wx.cell? a1 = some v1 ∧ wx.cell? a2 = some v2 ∧ wx.cell? a3 = some v3 ∧ wx.cell? a4 = some v4 ∧ wx.cell? a5 = some v5 ∧ wx.cell? a6 = some v6 :=
  ⟨keep1 hb h.1, keep1 hb h.2.1, keep1 hb h.2.2.1, keep1 hb h.2.2.2.1, keep1 hb h.2.2.2.2.1, keep1 hb h.2.2.2.2.2.1, keep1 hb h.2.2.2.2.2.2⟩
theorem keep8 {W wx : World} {a0 a1 a2 a3 a4 a5 a6 a7 : Addr} {v0 v1 v2 v3 v4 v5 v6 v7 : Value} (hb : Below W.heap.size W wx) (h : W.cell? a0 = some v0 ∧ W.cell? a1 = some v1 ∧ W.cell? a2 = some v2 ∧ W.cell? a3 = some v3 ∧ W.cell? a4 = some v4 ∧ W.cell? a5 = some v5 ∧ W.cell? a6 = some v6 ∧ W.cell? a7 = some v7) : wx.cell? a0 = some v0 ∧ wx.cell? a1 = some v1 ∧ wx.cell? a2 = some v2 ∧ wx.cell? a3 = some v3 ∧ wx.cell? a4 = some v4 ∧ wx.cell? a5 = some v5 ∧ wx.cell? a6 = some v6 ∧ wx.cell? a7 = some v7 :=
  ⟨keep1 hb h.1, keep1 hb h.2.1, keep1 hb h.2.2.1, keep1 hb h.2.2.2.1, keep1 hb h.2.2.2.2.1, keep1 hb h.2.2.2.2.2.1, keep1 hb h.2.2.2.2.2.2.1, keep1 hb h.2.2.2.2.2.2.2⟩
theorem keep1s {W : World} {p p' : Addr} {u u' : Value} {B o : Nat} {v : Value} (h : W.cell? ⟨B, o, none⟩ = some v) (hp : p.block ≠ B) (hp' : p'.block ≠ B) : ((W.setCell p u).setCell p' u').cell? ⟨B, o, none⟩ = some v := by
  rw [World.cell?_setCell_other _ _ _ _ (fun e => by subst e; exact hp' rfl), World.cell?_setCell_other _ _ _ _ (fun e => by subst e; exact hp rfl)]; exact h
theorem keep4s {W : World} {p p' : Addr} {u u' : Value} {B o0 o1 o2 o3 : Nat} {v0 v1 v2 v3 : Value} (h : W.cell? ⟨B, o0, none⟩ = some v0 ∧ W.cell? ⟨B, o1, none⟩ = some v1 ∧ W.cell? ⟨B, o2, none⟩ = some v2 ∧ W.cell? ⟨B, o3, none⟩ = some v3)
    (hp : p.block ≠ B) (hp' : p'.block ≠ B) : ((W.setCell p u).setCell p' u').cell? ⟨B, o0, none⟩ = some v0 ∧ ((W.setCell p u).setCell p' u').cell? ⟨B, o1, none⟩ = some v1 ∧ ((W.setCell p u).setCell p' u').cell? ⟨B, o2, none⟩ = some v2 ∧ ((W.setCell p u).setCell p' u').cell? ⟨B, o3, none⟩ = some v3 :=
  ⟨keep1s h.1 hp hp', keep1s h.2.1 hp hp', keep1s h.2.2.1 hp hp', keep1s h.2.2.2 hp hp'⟩
theorem mul_bd {a b A B : Int} (ha : 0 ≤ a) (ha' : a ≤ A) (hb : 0 ≤ b) (hb' : b ≤ B) : 0 ≤ a * b ∧ a * b ≤ A * B :=
  ⟨Int.mul_nonneg ha hb, Int.le_trans (Int.mul_le_mul_of_nonneg_right ha' hb) (Int.mul_le_mul_of_nonneg_left hb' (by omega))⟩
theorem sq_bd {x B : Int} (h1 : -B ≤ x) (h2 : x ≤ B) : 0 ≤ x * x ∧ x * x ≤ B * B := by
  by_cases h : 0 ≤ x
  · exact mul_bd h h2 h h2
  · have := mul_bd (a := -x) (b := -x) (A := B) (B := B) (by omega) (by omega) (by omega) (by omega)
    rwa [Int.neg_mul_neg] at this
theorem gcd_step (a b : Int) : Int.gcd b (a.tmod b) = Int.gcd a b := by
  simp only [Int.gcd, Int.natAbs_tmod]
  rw [Nat.gcd_comm b.natAbs, ← Nat.gcd_rec, Nat.gcd_comm]
theorem tmod_lt (a b : Int) (h : ¬ b = 0) : (a.tmod b).natAbs < b.natAbs := by
  rw [Int.natAbs_tmod]
  exact Nat.mod_lt _ (by omega)
/-- The fraction n/d in lowest terms, for a positive d. -/
def lwN (n d : Int) : Int := n.tdiv (Int.gcd n d)
def lwD (n d : Int) : Int := d.tdiv (Int.gcd n d)
theorem gcd_ge (n d : Int) (hd : 0 < d) : 1 ≤ (Int.gcd n d : Int) := by
  have := Int.gcd_pos_of_ne_zero_right n (b := d) (by omega); omega
theorem lwD_eq (n d : Int) (hd : 0 < d) : lwD n d = d / (Int.gcd n d : Int) := by
  unfold lwD; exact Int.tdiv_eq_ediv_of_nonneg (by omega)
theorem lwN_mul (n d : Int) : lwN n d * (Int.gcd n d : Int) = n := by
  unfold lwN; exact Int.tdiv_mul_cancel (Int.gcd_dvd_left n d)
theorem lwD_mul (n d : Int) : lwD n d * (Int.gcd n d : Int) = d := by
  unfold lwD; exact Int.tdiv_mul_cancel (Int.gcd_dvd_right n d)
theorem lwD_pos (n d : Int) (hd : 0 < d) : 1 ≤ lwD n d := by
  have h := lwD_mul n d
  have hg := gcd_ge n d hd
  by_cases h0 : 1 ≤ lwD n d
  · exact h0
  · exfalso
    have : lwD n d * (Int.gcd n d : Int) ≤ 0 * (Int.gcd n d : Int) := Int.mul_le_mul_of_nonneg_right (by omega) (by omega)
    omega
theorem lwD_le (n d : Int) (hd : 0 < d) : lwD n d ≤ d := by
  have h := lwD_mul n d
  have hg := gcd_ge n d hd
  have h1 := lwD_pos n d hd
  have : lwD n d * 1 ≤ lwD n d * (Int.gcd n d : Int) := Int.mul_le_mul_of_nonneg_left hg (by omega)
  omega
theorem lwN_nonneg (n d : Int) (hn : 0 ≤ n) : 0 ≤ lwN n d := by
  unfold lwN; exact Int.tdiv_nonneg hn (Int.natCast_nonneg _)
theorem lwN_neg (n d : Int) : lwN (-n) d = - lwN n d := by
  unfold lwN; rw [Int.neg_tdiv]; simp [Int.gcd]
theorem lwN_le (n d : Int) (hn : 0 ≤ n) : lwN n d ≤ n := by
  unfold lwN; rw [Int.tdiv_eq_ediv_of_nonneg hn]; exact Int.ediv_le_self _ hn
theorem lwN_bd (n d B : Int) (h1 : -B ≤ n) (h2 : n ≤ B) : -B ≤ lwN n d ∧ lwN n d ≤ B := by
  by_cases h : 0 ≤ n
  · have a := lwN_nonneg n d h; have b := lwN_le n d h; omega
  · have a := lwN_nonneg (-n) d (by omega); have b := lwN_le (-n) d (by omega); rw [lwN_neg] at a b; omega
theorem lwN_pos (n d : Int) (hn : 0 < n) : 1 ≤ lwN n d := by
  have h := lwN_mul n d
  have h0 := lwN_nonneg n d (by omega)
  by_cases h1 : lwN n d = 0
  · rw [h1] at h; omega
  · omega
/-- A bound of n/d from below is one of the fraction in lowest terms. -/
theorem lw_ge (n d k : Int) (hd : 0 < d) (h : k * d ≤ n) : k * lwD n d ≤ lwN n d := by
  have h1 := lwN_mul n d
  have h2 := lwD_mul n d
  have hg := gcd_ge n d hd
  refine Int.le_of_mul_le_mul_right ?_ (show (0 : Int) < (Int.gcd n d : Int) by omega)
  rw [h1, Int.mul_assoc, h2]; exact h
theorem lw_le (n d k : Int) (hd : 0 < d) (h : n ≤ k * d) : lwN n d ≤ k * lwD n d := by
  have h1 := lwN_mul n d
  have h2 := lwD_mul n d
  have hg := gcd_ge n d hd
  refine Int.le_of_mul_le_mul_right ?_ (show (0 : Int) < (Int.gcd n d : Int) by omega)
  rw [h1, Int.mul_assoc, h2]; exact h
/-- n/d = N/D in cross products. -/
theorem lw_cross (n d : Int) : lwN n d * d = n * lwD n d := by
  have h1 := lwN_mul n d
  have h2 := lwD_mul n d
  calc lwN n d * d = lwN n d * (lwD n d * (Int.gcd n d : Int)) := by rw [h2]
    _ = (lwN n d * (Int.gcd n d : Int)) * lwD n d := by rw [Int.mul_comm (lwD n d), ← Int.mul_assoc]
    _ = n * lwD n d := by rw [h1]

/-- What a walk is told of a slice of integers: its elements, and the cells in which they lie. -/
def IsRow (k : IntKind) (w : World) (a : Option Addr) (len cap : Nat) (zs : List Int) : Prop :=
  zs.length = len ∧ len ≤ cap ∧ cap ≤ maxLen ∧ (k = .u8 → ∀ n ∈ zs, 0 ≤ n ∧ n ≤ 255) ∧ (0 < len → ∃ b o, a = some ⟨b, o, none⟩ ∧ b < w.heap.size ∧ ∀ (i : Nat) (n : Int), zs[i]? = some n → w.cell? ⟨b, o + i, none⟩ = some (.int k n))
theorem isRow_nil {k : IntKind} {w : World} : IsRow k w none 0 0 [] := ⟨rfl, Nat.le_refl _, Nat.zero_le _, (fun _ _ h => by cases h), (fun h => absurd h (by omega))⟩
theorem isRow_mk {k : IntKind} {w : World} {x : Addr} {len cap : Nat} {zs : List Int} (hl : len ≤ cap) (hm : cap ≤ maxLen) (hz : zs.length = cap) (hcell : ∀ i, i < zs.length → w.cell? (x.add i) = some (.int k (zs.getD i 0))) (hw : ∀ n ∈ zs, (Lit.int k n).wf = true) :
    IsRow k w (some x) len cap (zs.take len) := by
  refine ⟨by simp; omega, hl, hm, fun hk n hn => by subst hk; exact bounds_u8 (hw n (List.mem_of_mem_take hn)), fun h0 => ?_⟩
  obtain ⟨b, o, sp⟩ := x
  have hc := hcell 0 (by omega)
  have hs : sp = none := by simpa [Addr.add] using World.cell?_spot hc
  subst hs
  refine ⟨b, o, rfl, ?_, fun i n hi => ?_⟩
  · simpa [Addr.add] using World.block_lt_of_cell? _ _ hc
  · have hi' : i < len ∧ zs[i]? = some n := by
      rw [List.getElem?_take] at hi
      split at hi
      · exact ⟨by assumption, hi⟩
      · cases hi
    have hc := hcell i (by omega)
    have e : zs.getD i 0 = n := by rw [List.getD_eq_getElem?_getD, hi'.2]; rfl
    rw [e] at hc
    by_cases h : i = 0
    · subst h; simpa [Addr.add] using hc
    · simpa [Addr.add, h] using hc
theorem IsRow.cell {k : IntKind} {w : World} {a : Option Addr} {len cap : Nat} {zs : List Int} (h : IsRow k w a len cap zs) {i : Nat} (hi : i < len) :
    ∃ b o, a = some ⟨b, o, none⟩ ∧ b < w.heap.size ∧ w.cell? ⟨b, o + i, none⟩ = some (.int k (zs.getD i 0)) := by
  obtain ⟨hl, _, _, _, hc⟩ := h
  obtain ⟨b, o, ha, hb, hc⟩ := hc (by omega)
  exact ⟨b, o, ha, hb, hc i _ (by rw [List.getD_eq_getElem?_getD, List.getElem?_eq_getElem (by omega)]; rfl)⟩
theorem IsRow.below {k : IntKind} {w w' : World} {a : Option Addr} {len cap : Nat} {zs : List Int} (h : IsRow k w a len cap zs) (hb : Below w.heap.size w w') : IsRow k w' a len cap zs := by
  obtain ⟨h1, h2, h3, h4, h5⟩ := h
  refine ⟨h1, h2, h3, h4, fun h0 => ?_⟩
  obtain ⟨b, o, ha, hlt, hc⟩ := h5 h0
  exact ⟨b, o, ha, Nat.lt_of_lt_of_le hlt hb.size, fun i n hi => keep1 hb (hc i n hi)⟩
theorem IsRow.u8 {w : World} {a : Option Addr} {len cap : Nat} {zs : List Int} (h : IsRow .u8 w a len cap zs) (i : Nat) : 0 ≤ zs.getD i 0 ∧ zs.getD i 0 ≤ 255 := by
  rw [List.getD_eq_getElem?_getD]
  rcases hi : zs[i]? with _ | n
  · simp
  · have := h.2.2.2.1 rfl n (List.mem_of_getElem? hi); simpa using this

theorem cellOf {w : World} {b : Nat} {t : TypeId} {cs : Array Value} (h : w.heap[b]? = some (.cells cs t (0, 0))) (i : Nat) : w.cell? ⟨b, i, none⟩ = cs[i]? := by
  simp [World.cell?, h]
theorem frozenOf {w : World} {b : Nat} {t : TypeId} {cs : Array Value} (h : w.heap[b]? = some (.cells cs t (0, 0))) (i : Nat) : w.frozen? ⟨b, i, none⟩ = false := by
  simp [World.frozen?, h]
/-! ### Whole blocks -/
theorem blk_lt {w : World} {g : Nat} {o : Obj} (h : w.heap[g]? = some o) : g < w.heap.size := by
  rcases Nat.lt_or_ge g w.heap.size with hlt | hge
  · exact hlt
  · rw [Array.getElem?_eq_none hge] at h; cases h
theorem blk_grown {w w' : World} {g b : Nat} {o : Obj} (h : w.heap[g]? = some o) (hg : w.grownBy w' (some b)) (hne : g ≠ b) : w'.heap[g]? = some o :=
  (hg.block g (blk_lt h) (fun e => hne (by injection e))).trans h
theorem blk_below {w w' : World} {g B : Nat} {o : Obj} (h : w.heap[g]? = some o) (hb : Below B w w') (hlt : g < B) : w'.heap[g]? = some o := (hb.block g hlt).trans h
theorem blk_alloc {w : World} {g : Nat} {o o' : Obj} (h : w.heap[g]? = some o) : (w.alloc o').heap[g]? = some o := (Below.heap_alloc w o' g (blk_lt h)).trans h
theorem blk_new (w : World) (o : Obj) : (w.alloc o).heap[w.heap.size]? = some o := by show (w.heap.push o)[w.heap.size]? = _; simp
theorem blk_far {w : World} {g : Nat} {o : Obj} (h : w.heap[g]? = some o) {p : Addr} (hne : g ≠ p.block) (u : Value) : (w.setCell p u).heap[g]? = some o := (Below.heap_setCell w p u g hne).trans h
theorem blk_set {w : World} {g : Nat} {t : TypeId} {cs : Array Value} (h : w.heap[g]? = some (.cells cs t (0, 0))) (i : Nat) (u : Value) : (w.setCell ⟨g, i, none⟩ u).heap[g]? = some (.cells (cs.setIfInBounds i u) t (0, 0)) := by
  simp [World.setCell, Array.getElem?_modify, h]
theorem blk_new' {n : Nat} (w : World) (o : Obj) (h : n = w.heap.size) : (w.alloc o).heap[n]? = some o := h ▸ blk_new w o
theorem blk_call {W w' : World} {g : Nat} {o : Obj} (h : W.heap[g]? = some o) (hb : Below W.heap.size W w') : w'.heap[g]? = some o := blk_below h hb (blk_lt h)

theorem ownNone : ownKnob Try.prog.godebug = none := by kernel_rfl
theorem laidOut : laidOutB Try.prog = true := by kernel_rfl
end Go.Proofs.Ytklhaanapembdaa
