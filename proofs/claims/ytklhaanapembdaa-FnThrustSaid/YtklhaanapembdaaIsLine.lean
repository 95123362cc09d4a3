/- Contracts of IsLine, program and reference: whether heights are those of a line of thrust, and the code; no old memory turns; condition: the slices can be read. -/
import Derived.Test.YtklhaanapembdaaMoments
namespace Go.Proofs.Ytklhaanapembdaa
open Go.RowKit

/-- A second difference. -/
def bendAt (z : List Int) (k : Nat) : Int := z.getD (k + 1) 0 - 2 * z.getD k 0 + z.getD (k - 1) 0
def sumS (ls : List Int) : Nat → Int
  | 0 => 0
  | i + 1 => sumS ls i + ls.getD i 0
theorem momS_up (ls : List Int) (k i : Nat) : momS ls (k + 1) i - momS ls k i = 2 * sumS ls i := by
  induction i with
  | zero => simp [momS, sumS]
  | succ i ih =>
    simp only [momS, sumS]
    have e1 : ls.getD i 0 * (2 * ((k + 1 : Nat) : Int) - 2 * (i : Int) - 1) = ls.getD i 0 * (2 * (k : Int) - 2 * (i : Int) - 1) + 2 * ls.getD i 0 := by
      rw [show (2 * ((k + 1 : Nat) : Int) - 2 * (i : Int) - 1) = (2 * (k : Int) - 2 * (i : Int) - 1) + 2 by omega, Int.mul_add]
      omega
    omega
theorem momAt_up (ls : List Int) (k : Nat) : momAt ls (k + 1) - momAt ls k = 2 * sumS ls k + ls.getD k 0 := by
  unfold momAt
  have h := momS_up ls k k
  have e : momS ls (k + 1) (k + 1) = momS ls (k + 1) k + ls.getD k 0 * (2 * ((k + 1 : Nat) : Int) - 2 * (k : Int) - 1) := rfl
  rw [show (2 * ((k + 1 : Nat) : Int) - 2 * (k : Int) - 1) = 1 by omega, Int.mul_one] at e
  omega
/-- The second differences of the moments are the loads beside a joint. -/
theorem momAt_bend (ls : List Int) (k : Nat) : momAt ls (k + 2) - 2 * momAt ls (k + 1) + momAt ls k = ls.getD k 0 + ls.getD (k + 1) 0 := by
  have h1 := momAt_up ls k
  have h2 : momAt ls (k + 2) - momAt ls (k + 1) = 2 * sumS ls (k + 1) + ls.getD (k + 1) 0 := momAt_up ls (k + 1)
  simp only [sumS] at h2
  omega
theorem moms_bend (ls : List Int) (n k : Nat) (h1 : 1 ≤ k) (h2 : k + 1 < n) : bendAt (moms ls n) k = ls.getD (k - 1) 0 + ls.getD k 0 := by
  obtain ⟨j, rfl⟩ : ∃ j, k = j + 1 := ⟨k - 1, by omega⟩
  unfold bendAt
  rw [moms_get _ _ _ (by omega), moms_get _ _ _ (by omega), moms_get _ _ _ (by omega)]
  have := momAt_bend ls j
  simpa using this
/-- The heights lie within the arch. -/
def fitB (lo hi z : List Int) (d : Int) : Bool := (List.range z.length).all fun k => decide (lo.getD k 0 * d ≤ z.getD k 0 ∧ z.getD k 0 ≤ hi.getD k 0 * d)
theorem fitB_mk {lo hi z : List Int} {d : Int} (h : ∀ k, k < z.length → lo.getD k 0 * d ≤ z.getD k 0 ∧ z.getD k 0 ≤ hi.getD k 0 * d) : fitB lo hi z d = true :=
  List.all_eq_true.2 fun k hk => decide_eq_true (h k (by simpa using hk))
theorem fitB_t {lo hi z : List Int} {d : Int} (h : fitB lo hi z d = true) (k : Nat) (hk : k < z.length) : lo.getD k 0 * d ≤ z.getD k 0 ∧ z.getD k 0 ≤ hi.getD k 0 * d :=
  of_decide_eq_true (List.all_eq_true.1 h k (by simpa using hk))
theorem fitB_no {lo hi z : List Int} {d : Int} {k : Nat} (hk : k < z.length) (h : ¬ (lo.getD k 0 * d ≤ z.getD k 0 ∧ z.getD k 0 ≤ hi.getD k 0 * d)) : fitB lo hi z d = false := by
  cases e : fitB lo hi z d
  · rfl
  · exact absurd (fitB_t e k hk) h
/-- The bends are those of the loads. -/
def bendB (ls z : List Int) : Bool := decide (bendAt z 1 < 0) && (List.range (ls.length - 1)).all fun i => decide (bendAt z (i + 1) * (ls.getD 0 0 + ls.getD 1 0) = bendAt z 1 * (ls.getD i 0 + ls.getD (i + 1) 0))
theorem bendB_mk {ls z : List Int} (h0 : bendAt z 1 < 0) (h : ∀ i, i < ls.length - 1 → bendAt z (i + 1) * (ls.getD 0 0 + ls.getD 1 0) = bendAt z 1 * (ls.getD i 0 + ls.getD (i + 1) 0)) : bendB ls z = true := by
  unfold bendB
  rw [decide_eq_true h0, Bool.true_and]
  exact List.all_eq_true.2 fun i hi => decide_eq_true (h i (by simpa using hi))
theorem bendB_t {ls z : List Int} (h : bendB ls z = true) : bendAt z 1 < 0 ∧ ∀ i, i < ls.length - 1 → bendAt z (i + 1) * (ls.getD 0 0 + ls.getD 1 0) = bendAt z 1 * (ls.getD i 0 + ls.getD (i + 1) 0) := by
  simp only [bendB, Bool.and_eq_true, decide_eq_true_eq] at h
  exact ⟨h.1, fun i hi => of_decide_eq_true (List.all_eq_true.1 h.2 i (by simpa using hi))⟩
theorem bendB_no0 {ls z : List Int} (h0 : ¬ bendAt z 1 < 0) : bendB ls z = false := by
  cases e : bendB ls z
  · rfl
  · exact absurd (bendB_t e).1 h0
theorem bendB_no {ls z : List Int} {i : Nat} (hi : i < ls.length - 1) (h : ¬ bendAt z (i + 1) * (ls.getD 0 0 + ls.getD 1 0) = bendAt z 1 * (ls.getD i 0 + ls.getD (i + 1) 0)) : bendB ls z = false := by
  cases e : bendB ls z
  · rfl
  · exact absurd ((bendB_t e).2 i hi) h
/-- A bend that is not negative forbids the line. -/
theorem bendB_up {ls z : List Int} {i : Nat} (hi : i < ls.length - 1) (hp : ∀ i, i < ls.length → 1 ≤ ls.getD i 0) (h : ¬ bendAt z (i + 1) < 0) : bendB ls z = false := by
  cases e : bendB ls z
  · rfl
  · exfalso
    obtain ⟨h1, h2⟩ := bendB_t e
    have h3 := h2 i hi
    have p0 := hp 0 (by omega)
    have p1 := hp 1 (by omega)
    have p2 := hp i (by omega)
    have p3 := hp (i + 1) (by omega)
    have a1 : 0 ≤ bendAt z (i + 1) * (ls.getD 0 0 + ls.getD 1 0) := Int.mul_nonneg (by omega) (by omega)
    have a2 : bendAt z 1 * (ls.getD i 0 + ls.getD (i + 1) 0) < 0 := Int.mul_neg_of_neg_of_pos h1 (by omega)
    omega
theorem bendB_end {ls z : List Int} (h : ∀ i, i < ls.length - 1 → bendAt z (i + 1) * (ls.getD 0 0 + ls.getD 1 0) = bendAt z 1 * (ls.getD i 0 + ls.getD (i + 1) 0)) : bendB ls z = decide (bendAt z 1 < 0) := by
  by_cases h0 : bendAt z 1 < 0
  · rw [bendB_mk h0 h, decide_eq_true h0]
  · rw [bendB_no0 h0, decide_eq_false h0]
def lineC (ls lo hi z : List Int) (d : Int) : Int := if blkB ls lo hi = true then (if (decide (z.length = lo.length) && insB z (-100000000000) 100000000000 && inB d 1 100000000) = true then 0 else 2) else 1
def lineV (ls lo hi z : List Int) (d : Int) : Bool := decide (lineC ls lo hi z d = 0) && (fitB lo hi z d && bendB ls z)
theorem line_bad {ls lo hi z : List Int} {d : Int} (h : blkB ls lo hi = false) : lineC ls lo hi z d = 1 ∧ lineV ls lo hi z d = false := by simp [lineC, lineV, h]
theorem line_range {ls lo hi z : List Int} {d : Int} (h : blkB ls lo hi = true) (h1 : (decide (z.length = lo.length) && insB z (-100000000000) 100000000000 && inB d 1 100000000) = false) : lineC ls lo hi z d = 2 ∧ lineV ls lo hi z d = false := by
  have e : lineC ls lo hi z d = 2 := by unfold lineC; rw [h, h1]; simp
  exact ⟨e, by unfold lineV; rw [e]; rfl⟩
theorem line_ok {ls lo hi z : List Int} {d : Int} (h : blkB ls lo hi = true) (h1 : (decide (z.length = lo.length) && insB z (-100000000000) 100000000000 && inB d 1 100000000) = true) : lineC ls lo hi z d = 0 ∧ lineV ls lo hi z d = (fitB lo hi z d && bendB ls z) := by
  have e : lineC ls lo hi z d = 0 := by unfold lineC; rw [h, h1]; simp
  exact ⟨e, by unfold lineV; rw [e]; rfl⟩
set_option maxHeartbeats 1000000 in
theorem bend_any (a : Option Addr) (n c : Nat) (z : List Int) (k : Nat) (w : World) (h : IsRow .i64 w a n c z) (h1 : 1 ≤ k) (h2 : k + 1 < n)
    (b0 : -100000000000 ≤ z.getD (k - 1) 0 ∧ z.getD (k - 1) 0 ≤ 100000000000) (b1 : -100000000000 ≤ z.getD k 0 ∧ z.getD k 0 ≤ 100000000000) (b2 : -100000000000 ≤ z.getD (k + 1) 0 ∧ z.getD (k + 1) 0 ≤ 100000000000) :
    Calls Try.prog 76 #[.slice a n c, .int .i64 (k : Int)] w fun e w' => e = .returned (.int .i64 (bendAt z k)) ∧ Below w.heap.size w w' := by
  obtain ⟨j, rfl⟩ : ∃ j, k = j + 1 := ⟨k - 1, by omega⟩
  have hm : n ≤ maxLen := Nat.le_trans h.2.1 h.2.2.1
  unfold maxLen at hm
  obtain ⟨b, o, rfl, hb, c1⟩ := h.cell (i := j + 1) (by omega)
  obtain ⟨_, _, e, _, c0⟩ := h.cell (i := j) (by omega)
  injection e with e; injection e with e1 e2; subst e1 e2
  obtain ⟨_, _, e, _, c2⟩ := h.cell (i := j + 1 + 1) (by omega)
  injection e with e; injection e with e1 e2; subst e1 e2
  have HR := Lib.hid (show bendAt z (j + 1) = z.getD (j + 1 + 1) 0 - 2 * z.getD (j + 1) 0 + z.getD j 0 from rfl)
  rw [HR.out]
  simp only [Nat.add_sub_cancel] at b0
  generalize z.getD (j + 1 + 1) 0 = x2 at *
  generalize z.getD (j + 1) 0 = x1 at *
  generalize z.getD j 0 = x0 at *
  clear h HR
  obtain ⟨b01, b02⟩ := b0
  obtain ⟨b11, b12⟩ := b1
  obtain ⟨b21, b22⟩ := b2
  have e1 : IntKind.i64.wrap ((j : Int) + 1 + 1) = (j : Int) + 1 + 1 := IntWalk.i64_in _ (by omega)
  have e2 : IntKind.i64.wrap ((j : Int) + 1 - 1) = (j : Int) + 1 - 1 := IntWalk.i64_in _ (by omega)
  have e3 := IntWalk.i64_in (2 * x1) (by omega)
  have e4 := IntWalk.i64_in (x2 - 2 * x1) (by omega)
  have e5 := IntWalk.i64_in (x2 - 2 * x1 + x0) (by omega)
  have t1 : (j : Int) + 1 < (n : Int) := by omega
  have t2 : (j : Int) + 1 + 1 < (n : Int) := by omega
  have t3 : (0 : Int) ≤ (j : Int) + 1 := by omega
  have t4 : (0 : Int) ≤ (j : Int) + 1 + 1 := by omega
  have t5 : (j : Int) + 1 - 1 = (j : Int) := by omega
  have t6 : (0 : Int) ≤ (j : Int) := by omega
  have t7 : (j : Int) < (n : Int) := by omega
  have t8 : ((j : Int) + 1).toNat = j + 1 := by omega
  have t9 : ((j : Int) + 1 + 1).toNat = j + 1 + 1 := by omega
  have c2' : w.cell? ⟨b, o + j + 1 + 1, none⟩ = some (.int .i64 x2) := c2
  have c1' : w.cell? ⟨b, o + j + 1, none⟩ = some (.int .i64 x1) := c1
  go_enter Try.func76, Try.ntmps76
  go_wp2
  go_quiet (fail)
  go_wp2
  go_ret
  exact ⟨ret_int (by first | rfl | omega), (by repeat (first | exact Below.refl _ _ | assumption | refine Below.drew ?_ | refine below_drewN ?_ _ | refine Below.alloc ?_ (by first | omega | (simp; done) | (simp; omega)) _ | refine Below.setCell ?_ (by first | omega | (simp; done) | (simp; omega)) _))⟩
end Go.Proofs.Ytklhaanapembdaa
