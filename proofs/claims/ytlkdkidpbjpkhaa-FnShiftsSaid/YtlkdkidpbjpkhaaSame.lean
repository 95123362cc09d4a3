/- Contracts of SamePattern, program and reference, and of slices.Equal on strings: whether two lists of rows are equal; no old memory turns; condition: the slices can be read. -/
import Derived.Test.YtlkdkidpbjpkhaaStrs
namespace Go.Proofs.Ytlkdkidpbjpkhaa
open Go.RowKit

/-- Two lists of strings are equal. -/
def sameB (xs ys : List ByteArray) : Bool := decide (xs.length = ys.length) && (List.range xs.length).all fun i => decide (xs.getD i ByteArray.empty = ys.getD i ByteArray.empty)
theorem sameB_mk {xs ys : List ByteArray} (hl : xs.length = ys.length) (h : ∀ i, i < xs.length → xs.getD i ByteArray.empty = ys.getD i ByteArray.empty) : sameB xs ys = true := by
  unfold sameB
  rw [decide_eq_true hl, Bool.true_and]
  exact List.all_eq_true.2 fun i hi => decide_eq_true (h i (by simpa using hi))
theorem sameB_t {xs ys : List ByteArray} (h : sameB xs ys = true) : xs.length = ys.length ∧ ∀ i, i < xs.length → xs.getD i ByteArray.empty = ys.getD i ByteArray.empty := by
  simp only [sameB, Bool.and_eq_true, decide_eq_true_eq] at h
  exact ⟨h.1, fun i hi => of_decide_eq_true (List.all_eq_true.1 h.2 i (by simpa using hi))⟩
theorem sameB_len {xs ys : List ByteArray} (hl : ¬ xs.length = ys.length) : sameB xs ys = false := by
  unfold sameB; rw [decide_eq_false hl]; rfl
theorem sameB_no {xs ys : List ByteArray} {i : Nat} (hi : i < xs.length) (h : ¬ xs.getD i ByteArray.empty = ys.getD i ByteArray.empty) : sameB xs ys = false := by
  cases e : sameB xs ys
  · rfl
  · exact absurd ((sameB_t e).2 i hi) h
theorem str_ne {x y : ByteArray} (h : ¬ x = y) : (x.toList == y.toList) = false := by
  have : x.toList ≠ y.toList := fun e => h (by
    rw [ByteArray.toList_eq, ByteArray.toList_eq] at e
    exact ByteArray.ext (Array.toList_inj.1 e))
  simpa using this
set_option maxHeartbeats 2000000 in
theorem sEqual_any (a a' : Option Addr) (n c n' c' : Nat) (xs ys : List ByteArray) (w : World) (h : IsStrs w a n c xs) (h' : IsStrs w a' n' c' ys) :
    Calls Try.prog 48 #[.slice a n c, .slice a' n' c'] w fun e w' => e = .returned (.bool (sameB xs ys)) ∧ Below w.heap.size w w' := by
  have hm : n ≤ maxLen := Nat.le_trans h.2.1 h.2.2.1
  unfold maxLen at hm
  have l1 := h.1
  have l2 := h'.1
  have H := Lib.hid h
  have H' := Lib.hid h'
  clear h h'
  by_cases hn : n = n'
  · have hn' : ((n : Int) != (n' : Int)) = false := by simp; omega
    have L1 := Lib.hid l1
    have L2 := Lib.hid l2
    have HN := Lib.hid hn
    clear l1 l2 hn
    go_enter Try.func48, Try.ntmps48
    go_wp2
    go_loopw [5, 13] (fun _ i wr => ∃ k : Nat, k ≤ n ∧ i = .int .i64 (k : Int) ∧ (∀ m, m < k → xs.getD m ByteArray.empty = ys.getD m ByteArray.empty) ∧ Below w.heap.size w wr) (fun _ i _ => (n - intOf i).toNat)
    case atStart => exact ⟨0, by omega, rfl, fun m hm => by omega, Below.refl _ _⟩
    case round =>
      obtain ⟨k, hk, rfl, hI, hB⟩ := hrel
      have HI := Lib.hid hI
      clear hI
      by_cases hlt : k < n
      · have hlt' : (k : Int) < (n : Int) := by omega
        have hlt2 : (k : Int) < (n' : Int) := by have := HN.out; omega
        have hk0 : (0 : Int) ≤ (k : Int) := by omega
        obtain ⟨b, o, rfl, hb, hc⟩ := (H.out.below hB).cell hlt
        obtain ⟨b', o', rfl, hb', hc'⟩ := (H'.out.below hB).cell (i := k) (by have := HN.out; omega)
        by_cases hx : xs.getD k ByteArray.empty = ys.getD k ByteArray.empty
        · have HJ : Hid (∀ m, m < k + 1 → xs.getD m ByteArray.empty = ys.getD m ByteArray.empty) := Lib.hid fun m hm => by
            rcases Nat.lt_succ_iff_lt_or_eq.1 hm with h | rfl
            · exact HI.out m h
            · exact hx
          rw [← hx] at hc'
          clear hx
          generalize xs.getD k ByteArray.empty = x at *
          go_wp2
          go_quiet (fail)
          go_wp2
          go_roundw
          case rel => exact ⟨k + 1, by omega, by go_num, HJ.out, (by repeat (first | exact Below.refl _ _ | assumption | refine Below.drew ?_ | refine below_drewN ?_ _ | refine Below.alloc ?_ (by first | omega | (simp; done) | (simp; omega)) _ | refine Below.setCell ?_ (by first | omega | (simp; done) | (simp; omega)) _))⟩
          case measure => simp [intOf]; omega
        · have HR := Lib.hid (sameB_no (by rw [L1.out]; exact hlt) hx)
          generalize xs.getD k ByteArray.empty = x at *
          generalize ys.getD k ByteArray.empty = y at *
          have hx1 : (x.toList == y.toList) = false := str_ne hx
          have hx2 : (!x.toList == y.toList) = true := by rw [hx1]; rfl
          clear hx
          go_wp2
          go_quiet (fail)
          go_wp2
          go_ret
          exact ⟨ret_bool (by rw [HR.out]), (by repeat (first | exact Below.refl _ _ | assumption | refine Below.drew ?_ | refine below_drewN ?_ _ | refine Below.alloc ?_ (by first | omega | (simp; done) | (simp; omega)) _ | refine Below.setCell ?_ (by first | omega | (simp; done) | (simp; omega)) _))⟩
      · obtain rfl : k = n := by omega
        have HR := Lib.hid (sameB_mk (by rw [L1.out, L2.out, HN.out]) (fun m hm => HI.out m (by rw [L1.out] at hm; exact hm)))
        go_wp2
        go_ret
        exact ⟨ret_bool (by rw [HR.out]), hB⟩
  · have hn' : ((n : Int) != (n' : Int)) = true := by simp; omega
    have HR := Lib.hid (sameB_len (xs := xs) (ys := ys) (by omega))
    clear l1 l2 hn
    go_enter Try.func48, Try.ntmps48
    go_wp2
    go_ret
    exact ⟨ret_bool (by rw [HR.out]), (by repeat (first | exact Below.refl _ _ | assumption | refine Below.drew ?_ | refine below_drewN ?_ _ | refine Below.alloc ?_ (by first | omega | (simp; done) | (simp; omega)) _ | refine Below.setCell ?_ (by first | omega | (simp; done) | (simp; omega)) _))⟩
set_option maxHeartbeats 2000000 in
theorem l14Same_any (a a' : Option Addr) (n c n' c' : Nat) (xs ys : List ByteArray) (w : World) (h : IsStrs w a n c xs) (h' : IsStrs w a' n' c' ys) :
    Calls Try.prog 47 #[.slice a n c, .slice a' n' c'] w fun e w' => e = .returned (.bool (sameB xs ys)) ∧ Below w.heap.size w w' := by
  have hm : n ≤ maxLen := Nat.le_trans h.2.1 h.2.2.1
  unfold maxLen at hm
  have l1 := h.1
  have l2 := h'.1
  have H := Lib.hid h
  have H' := Lib.hid h'
  clear h h'
  by_cases hn : n = n'
  · have hn' : ((n : Int) != (n' : Int)) = false := by simp; omega
    have L1 := Lib.hid l1
    have L2 := Lib.hid l2
    have HN := Lib.hid hn
    clear l1 l2 hn
    go_enter Try.func47, Try.ntmps47
    go_wp2
    go_loopw [5] (fun i wr => ∃ k : Nat, k ≤ n ∧ i = .int .i64 (k : Int) ∧ (∀ m, m < k → xs.getD m ByteArray.empty = ys.getD m ByteArray.empty) ∧ Below w.heap.size w wr) (fun i _ => (n - intOf i).toNat)
    case atStart => exact ⟨0, by omega, rfl, fun m hm => by omega, Below.refl _ _⟩
    case round =>
      obtain ⟨k, hk, rfl, hI, hB⟩ := hrel
      have HI := Lib.hid hI
      clear hI
      by_cases hlt : k < n
      · have hlt' : (k : Int) < (n : Int) := by omega
        have hlt2 : (k : Int) < (n' : Int) := by have := HN.out; omega
        have hk0 : (0 : Int) ≤ (k : Int) := by omega
        obtain ⟨b, o, rfl, hb, hc⟩ := (H.out.below hB).cell hlt
        obtain ⟨b', o', rfl, hb', hc'⟩ := (H'.out.below hB).cell (i := k) (by have := HN.out; omega)
        by_cases hx : xs.getD k ByteArray.empty = ys.getD k ByteArray.empty
        · have HJ : Hid (∀ m, m < k + 1 → xs.getD m ByteArray.empty = ys.getD m ByteArray.empty) := Lib.hid fun m hm => by
            rcases Nat.lt_succ_iff_lt_or_eq.1 hm with h | rfl
            · exact HI.out m h
            · exact hx
          rw [← hx] at hc'
          clear hx
          generalize xs.getD k ByteArray.empty = x at *
          go_wp2
          go_quiet (fail)
          go_wp2
          go_roundw
          case rel => exact ⟨k + 1, by omega, by go_num, HJ.out, (by repeat (first | exact Below.refl _ _ | assumption | refine Below.drew ?_ | refine below_drewN ?_ _ | refine Below.alloc ?_ (by first | omega | (simp; done) | (simp; omega)) _ | refine Below.setCell ?_ (by first | omega | (simp; done) | (simp; omega)) _))⟩
          case measure => simp [intOf]; omega
        · have HR := Lib.hid (sameB_no (by rw [L1.out]; exact hlt) hx)
          generalize xs.getD k ByteArray.empty = x at *
          generalize ys.getD k ByteArray.empty = y at *
          have hx1 : (x.toList == y.toList) = false := str_ne hx
          have hx2 : (!x.toList == y.toList) = true := by rw [hx1]; rfl
          clear hx
          go_wp2
          go_quiet (fail)
          go_wp2
          go_ret
          exact ⟨ret_bool (by rw [HR.out]), (by repeat (first | exact Below.refl _ _ | assumption | refine Below.drew ?_ | refine below_drewN ?_ _ | refine Below.alloc ?_ (by first | omega | (simp; done) | (simp; omega)) _ | refine Below.setCell ?_ (by first | omega | (simp; done) | (simp; omega)) _))⟩
      · obtain rfl : k = n := by omega
        have HR := Lib.hid (sameB_mk (by rw [L1.out, L2.out, HN.out]) (fun m hm => HI.out m (by rw [L1.out] at hm; exact hm)))
        go_wp2
        go_ret
        exact ⟨ret_bool (by rw [HR.out]), hB⟩
  · have hn' : ((n : Int) != (n' : Int)) = true := by simp; omega
    have HR := Lib.hid (sameB_len (xs := xs) (ys := ys) (by omega))
    clear l1 l2 hn
    go_enter Try.func47, Try.ntmps47
    go_wp2
    go_ret
    exact ⟨ret_bool (by rw [HR.out]), (by repeat (first | exact Below.refl _ _ | assumption | refine Below.drew ?_ | refine below_drewN ?_ _ | refine Below.alloc ?_ (by first | omega | (simp; done) | (simp; omega)) _ | refine Below.setCell ?_ (by first | omega | (simp; done) | (simp; omega)) _))⟩
set_option maxHeartbeats 400000 in
theorem samePattern_any (a a' : Option Addr) (n c n' c' : Nat) (xs ys : List ByteArray) (w : World) (h : IsStrs w a n c xs) (h' : IsStrs w a' n' c' ys) :
    Calls Try.prog 19 #[.slice a n c, .slice a' n' c'] w fun e w' => e = .returned (.bool (sameB xs ys)) ∧ Below w.heap.size w w' := by
  go_enter Try.func19, Try.ntmps19
  go_wp2_with fail
  refine (sEqual_any _ _ _ _ _ _ _ _ _ h h').mono ?_
  rintro e1 w1 ⟨rfl, hb1⟩
  obtain ⟨hc1, hf1⟩ := bcell hb1
  have hz1 := hb1.size
  try simp at hz1
  have ha1 : Below w.heap.size w w1 := below_call (by repeat (first | exact Below.refl _ _ | assumption | refine Below.drew ?_ | refine below_drewN ?_ _ | refine Below.alloc ?_ (by first | omega | (simp; done) | (simp; omega)) _ | refine Below.setCell ?_ (by first | omega | (simp; done) | (simp; omega)) _)) hb1
  go_wp2
  go_ret
  exact ⟨rfl, (by repeat (first | exact Below.refl _ _ | assumption | refine Below.drew ?_ | refine below_drewN ?_ _ | refine Below.alloc ?_ (by first | omega | (simp; done) | (simp; omega)) _ | refine Below.setCell ?_ (by first | omega | (simp; done) | (simp; omega)) _))⟩
set_option maxHeartbeats 400000 in
theorem specSamePattern_any (a a' : Option Addr) (n c n' c' : Nat) (xs ys : List ByteArray) (w : World) (h : IsStrs w a n c xs) (h' : IsStrs w a' n' c' ys) :
    Calls Try.prog 17 #[.slice a n c, .slice a' n' c'] w fun e w' => e = .returned (.bool (sameB xs ys)) ∧ Below w.heap.size w w' := by
  go_enter Try.func17, Try.ntmps17
  go_wp2_with fail
  refine (l14Same_any _ _ _ _ _ _ _ _ _ h h').mono ?_
  rintro e1 w1 ⟨rfl, hb1⟩
  obtain ⟨hc1, hf1⟩ := bcell hb1
  have hz1 := hb1.size
  try simp at hz1
  have ha1 : Below w.heap.size w w1 := below_call (by repeat (first | exact Below.refl _ _ | assumption | refine Below.drew ?_ | refine below_drewN ?_ _ | refine Below.alloc ?_ (by first | omega | (simp; done) | (simp; omega)) _ | refine Below.setCell ?_ (by first | omega | (simp; done) | (simp; omega)) _)) hb1
  go_wp2
  go_ret
  exact ⟨rfl, (by repeat (first | exact Below.refl _ _ | assumption | refine Below.drew ?_ | refine below_drewN ?_ _ | refine Below.alloc ?_ (by first | omega | (simp; done) | (simp; omega)) _ | refine Below.setCell ?_ (by first | omega | (simp; done) | (simp; omega)) _))⟩
theorem samePattern_one (a : Option Addr) (n c : Nat) (xs : List ByteArray) (a' : Option Addr) (n' c' : Nat) (ys : List ByteArray) (w : World) (h : IsStrs w a n c xs) (h' : IsStrs w a' n' c' ys) :
    Calls Try.prog 19 #[.slice a n c, .slice a' n' c'] w fun e w' => e = .returned (.bool (sameB xs ys)) ∧ Below w.heap.size w w' := samePattern_any a a' n c n' c' xs ys w h h'
theorem specSamePattern_one (a : Option Addr) (n c : Nat) (xs : List ByteArray) (a' : Option Addr) (n' c' : Nat) (ys : List ByteArray) (w : World) (h : IsStrs w a n c xs) (h' : IsStrs w a' n' c' ys) :
    Calls Try.prog 17 #[.slice a n c, .slice a' n' c'] w fun e w' => e = .returned (.bool (sameB xs ys)) ∧ Below w.heap.size w w' := specSamePattern_any a a' n c n' c' xs ys w h h'
end Go.Proofs.Ytlkdkidpbjpkhaa
