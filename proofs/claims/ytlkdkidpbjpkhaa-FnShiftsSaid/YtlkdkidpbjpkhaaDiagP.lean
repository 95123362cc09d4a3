/- The plain law of dark diagonals: runs of dark bricks from each place, and their greatest number; no program in sight. -/
import Derived.Test.YtlkdkidpbjpkhaaDark
namespace Go.Proofs.Ytlkdkidpbjpkhaa
open Go.RowKit

/-- The greater of two. -/
def mxI (x y : Int) : Int := if x < y then y else x
/-- The n-th place of the diagonal from (x, y) lies in the pattern and is dark. -/
def dgC (ss : List ByteArray) (st : Int) (y x n : Nat) : Bool :=
  decide (x + n < patN ss) && (decide (0 ≤ (y : Int) + st * n ∧ (y : Int) + st * n < ss.length) && decide ((ss.getD ((y : Int) + st * n).toNat ByteArray.empty).data.toList.getD (x + n) 0 = 35))
/-- How far a run goes on from n, at most f more. -/
def rn (c : Nat → Bool) : Nat → Nat → Nat
  | 0, n => n
  | f + 1, n => if c n = true then rn c f (n + 1) else n
theorem rn_no {c : Nat → Bool} {n : Nat} (h : c n = false) (f : Nat) : rn c f n = n := by
  cases f with
  | zero => rfl
  | succ f => simp [rn, h]
theorem rn_yes {c : Nat → Bool} {n W : Nat} (h : c n = true) (hn : n < W) : rn c (W - n) n = rn c (W - (n + 1)) (n + 1) := by
  have e : W - n = (W - (n + 1)) + 1 := by omega
  rw [e]
  simp [rn, h]
theorem rn_le (c : Nat → Bool) (f n : Nat) : rn c f n ≤ n + f := by
  induction f generalizing n with
  | zero => simp [rn]
  | succ f ih =>
    simp only [rn]
    split
    · have := ih (n + 1); omega
    · omega
/-- The run from a place. -/
def dgN (ss : List ByteArray) (st : Int) (y x : Nat) : Nat := rn (dgC ss st y x) (patN ss) 0
theorem dgN_le (ss : List ByteArray) (st : Int) (y x : Nat) : dgN ss st y x ≤ patN ss := by
  have := rn_le (dgC ss st y x) (patN ss) 0
  unfold dgN; omega
/-- The greatest run from the first k places of a row, and of the first rows. -/
def dgX (ss : List ByteArray) (st : Int) (y : Nat) (b : Int) : Nat → Int
  | 0 => b
  | k + 1 => mxI (dgX ss st y b k) (dgN ss st y k)
def dgY (ss : List ByteArray) (st : Int) : Nat → Int
  | 0 => 0
  | k + 1 => dgX ss st k (dgY ss st k) (patN ss)
def diG (ss : List ByteArray) (st : Int) : Int := dgY ss st ss.length
theorem dgX_bd {ss : List ByteArray} {st : Int} {y : Nat} {b : Int} (hp : patN ss ≤ 24) (h : 0 ≤ b ∧ b ≤ 24) (k : Nat) : 0 ≤ dgX ss st y b k ∧ dgX ss st y b k ≤ 24 := by
  induction k with
  | zero => exact h
  | succ k ih =>
    have := dgN_le ss st y k
    simp only [dgX, mxI]
    split <;> omega
theorem dgY_bd {ss : List ByteArray} {st : Int} (hp : patN ss ≤ 24) (k : Nat) : 0 ≤ dgY ss st k ∧ dgY ss st k ≤ 24 := by
  induction k with
  | zero => simp [dgY]
  | succ k ih => exact dgX_bd hp ih _
theorem dgC_a {ss : List ByteArray} {st : Int} {y x n : Nat} (h : ¬ x + n < patN ss) : dgC ss st y x n = false := by
  unfold dgC; rw [decide_eq_false h]; rfl
theorem dgC_b {ss : List ByteArray} {st : Int} {y x n : Nat} (h : ¬ (0 ≤ (y : Int) + st * n ∧ (y : Int) + st * n < ss.length)) : dgC ss st y x n = false := by
  unfold dgC; rw [decide_eq_false h]; simp
theorem dgC_c {ss : List ByteArray} {st : Int} {y x n m : Nat} (hm : (y : Int) + st * n = m) : dgC ss st y x n = (decide (x + n < patN ss) && (decide (m < ss.length) && decide ((ss.getD m ByteArray.empty).data.toList.getD (x + n) 0 = 35))) := by
  unfold dgC; rw [hm]
  congr 1
  congr 1
  · apply decide_eq_decide.2; omega
/-- The dark diagonals, and the code. -/
def diU (ss : List ByteArray) : Int := if patB ss = true then diG ss 1 else 0
def diD (ss : List ByteArray) : Int := if patB ss = true then diG ss (-1) else 0
theorem di_no {ss : List ByteArray} (h : patB ss = false) : diU ss = 0 ∧ diD ss = 0 := by simp [diU, diD, h]
theorem di_yes {ss : List ByteArray} (h : patB ss = true) : diU ss = diG ss 1 ∧ diD ss = diG ss (-1) := by simp [diU, diD, h]
theorem st_bd {st : Int} (h1 : -1 ≤ st) (h2 : st ≤ 1) {n : Nat} (hn : n ≤ 24) : -24 ≤ st * (n : Int) ∧ st * (n : Int) ≤ 24 := by
  have : st = -1 ∨ st = 0 ∨ st = 1 := by omega
  rcases this with rfl | rfl | rfl <;> omega
end Go.Proofs.Ytlkdkidpbjpkhaa
