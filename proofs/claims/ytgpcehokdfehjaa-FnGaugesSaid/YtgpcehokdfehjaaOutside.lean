/- Contracts of outside, ContainsFunc, IndexFunc: whether a slice of integers has one that is not within two limits; memory as before, but for new blocks. -/
import Derived.Test.YtgpcehokdfehjaaNum
namespace Go.Proofs.Ytgpcehokdfehjaa
open Go.RowKit

/-- All are within the limits. -/
def insB (zs : List Int) (lo hi : Int) : Bool := zs.all fun n => inB n lo hi
theorem insB_t {zs : List Int} {lo hi : Int} (h : insB zs lo hi = true) (k : Nat) (hk : k < zs.length) : lo ≤ zs.getD k 0 ∧ zs.getD k 0 ≤ hi := by
  have := List.all_eq_true.1 h (zs.getD k 0) (by simp [List.getD_eq_getElem?_getD, hk])
  exact inB_t this
theorem insB_mk {zs : List Int} {lo hi : Int} (h : ∀ k, k < zs.length → lo ≤ zs.getD k 0 ∧ zs.getD k 0 ≤ hi) : insB zs lo hi = true := by
  refine List.all_eq_true.2 fun x hx => inB_mk ?_
  obtain ⟨i, hi', rfl⟩ := List.getElem_of_mem hx
  have := h i hi'
  simpa [List.getD_eq_getElem?_getD, hi'] using this
theorem insB_no {zs : List Int} {lo hi : Int} {k : Nat} (hk : k < zs.length) (h : inB (zs.getD k 0) lo hi = false) : insB zs lo hi = false := by
  cases e : insB zs lo hi
  · rfl
  · have := inB_mk (insB_t e k hk)
    rw [this] at h; cases h
theorem capture {w w' : World} {b : Nat} {v : Value} (hb : Below w.heap.size w w') (h : w.cell? ⟨b, 0, none⟩ = some v) : w'.cell? ⟨b, 0, none⟩ = some v := keep1 hb h
set_option maxHeartbeats 400000 in
theorem outsideC_any (n lo hi : Int) (b c : Nat) (w : World) (h1 : w.cell? ⟨b, 0, none⟩ = some (.int .i64 lo)) (h2 : w.cell? ⟨c, 0, none⟩ = some (.int .i64 hi)) :
    Calls Try.prog 82 #[.int .i64 n, .pointer (some ⟨b, 0, none⟩), .pointer (some ⟨c, 0, none⟩)] w fun e w' => e = .returned (.bool (!inB n lo hi)) ∧ w = w' := by
  go_enter Try.func82, Try.ntmps82
  go_wp2_with fail
  refine (within_any _ _ _ _).mono ?_
  rintro e1 w1 ⟨rfl, rfl⟩
  go_wp2
  go_ret
  exact ⟨rfl, rfl⟩
set_option maxHeartbeats 1000000 in
theorem indexF_any (a : Option Addr) (len cap : Nat) (zs : List Int) (lo hi : Int) (b c : Nat) (w : World) (h1 : w.cell? ⟨b, 0, none⟩ = some (.int .i64 lo)) (h2 : w.cell? ⟨c, 0, none⟩ = some (.int .i64 hi)) (h : IsRow .i64 w a len cap zs) :
    Calls Try.prog 84 #[.slice a len cap, .func (Fn.func 82) #[] #[.pointer (some ⟨b, 0, none⟩), .pointer (some ⟨c, 0, none⟩)]] w
      fun e w' => (∃ r : Int, e = .returned (.int .i64 r) ∧ -1 ≤ r ∧ r ≤ 9223372036854775807 ∧ (decide (0 ≤ r)) = !insB zs lo hi) ∧ w = w' := by
  have hl := h.1
  have hm : len ≤ maxLen := Nat.le_trans h.2.1 h.2.2.1
  unfold maxLen at hm
  have H := Lib.hid h
  have HL := Lib.hid hl
  clear h hl
  go_enter Try.func84, Try.ntmps84
  go_wp2
  go_loop [5, 8] (fun _ i => ∃ k : Nat, k ≤ len ∧ i = .int .i64 (k : Int) ∧ ∀ m, m < k → lo ≤ zs.getD m 0 ∧ zs.getD m 0 ≤ hi) (fun _ i => (len - intOf i).toNat)
  case atStart => exact ⟨0, by omega, rfl, fun m hm => by omega⟩
  case round =>
    obtain ⟨k, hk, rfl, hI⟩ := hrel
    have HI := Lib.hid hI
    clear hI
    by_cases hlt : k < len
    · obtain ⟨b', o', rfl, hb', hc'⟩ := H.out.cell hlt
      have hlt' : (k : Int) < (len : Int) := by omega
      cases hx : inB (zs.getD k 0) lo hi
      · have HR := Lib.hid (insB_no (by rw [HL.out]; exact hlt) hx)
        have HX := Lib.hid hx
        clear hx
        generalize zs.getD k 0 = x at *
        go_wp2_with fail
        refine (outsideC_any _ _ _ _ _ _ h1 h2).mono ?_
        rintro e1 w1 ⟨rfl, rfl⟩
        rw [HX.out]
        go_wp2
        go_ret
        exact ⟨⟨k, rfl, by omega, by omega, by rw [HR.out]; simp⟩, rfl⟩
      · have HX := Lib.hid hx
        have HS := Lib.hid (inB_t hx)
        clear hx
        have HN : Hid (∀ m, m < k + 1 → lo ≤ zs.getD m 0 ∧ zs.getD m 0 ≤ hi) := Lib.hid fun m hm => by
          rcases Nat.lt_succ_iff_lt_or_eq.1 hm with h | rfl
          · exact HI.out m h
          · exact HS.out
        clear HS
        generalize zs.getD k 0 = x at *
        go_wp2_with fail
        refine (outsideC_any _ _ _ _ _ _ h1 h2).mono ?_
        rintro e1 w1 ⟨rfl, rfl⟩
        rw [HX.out]
        go_wp2
        go_round
        case rel => exact ⟨k + 1, by omega, by go_num, HN.out⟩
        case measure => simp [intOf]; omega
    · obtain rfl : k = len := by omega
      have HR := Lib.hid (insB_mk (lo := lo) (hi := hi) (fun m hm => HI.out m (by rw [HL.out] at hm; exact hm)))
      go_wp2
      go_ret
      exact ⟨⟨-1, rfl, by omega, by omega, by rw [HR.out]; rfl⟩, rfl⟩
set_option maxHeartbeats 400000 in
theorem contains_any (a : Option Addr) (len cap : Nat) (zs : List Int) (lo hi : Int) (b c : Nat) (w : World) (h1 : w.cell? ⟨b, 0, none⟩ = some (.int .i64 lo)) (h2 : w.cell? ⟨c, 0, none⟩ = some (.int .i64 hi)) (h : IsRow .i64 w a len cap zs) :
    Calls Try.prog 81 #[.slice a len cap, .func (Fn.func 82) #[] #[.pointer (some ⟨b, 0, none⟩), .pointer (some ⟨c, 0, none⟩)]] w
      fun e w' => e = .returned (.bool (!insB zs lo hi)) ∧ w = w' := by
  go_enter Try.func81, Try.ntmps81
  go_wp2_with fail
  refine (indexF_any _ _ _ _ _ _ _ _ _ h1 h2 h).mono ?_
  rintro e1 w1 ⟨⟨r, rfl, r1, r2, hr⟩, rfl⟩
  go_wp2
  go_ret
  exact ⟨ret_bool (by rw [← hr]), rfl⟩
set_option maxHeartbeats 400000 in
theorem outside_any (a : Option Addr) (len cap : Nat) (zs : List Int) (lo hi : Int) (w : World) (h : IsRow .i64 w a len cap zs) :
    Calls Try.prog 64 #[.slice a len cap, .int .i64 lo, .int .i64 hi] w fun e w' => e = .returned (.bool (!insB zs lo hi)) ∧ Below w.heap.size w w' := by
  have H := Lib.hid h
  clear h
  go_enter Try.func64, Try.ntmps64
  go_wp2_with fail
  refine (contains_any _ _ _ _ lo hi _ _ _ (by simp [go_sem]) (by simp [go_sem]) (H.out.below (by repeat (first | exact Below.refl _ _ | assumption | refine Below.drew ?_ | refine below_drewN ?_ _ | refine Below.alloc ?_ (by first | omega | (simp; done) | (simp; omega)) _ | refine Below.setCell ?_ (by first | omega | (simp; done) | (simp; omega)) _)))).mono ?_
  rintro e1 w1 ⟨rfl, rfl⟩
  go_wp2
  go_ret
  exact ⟨rfl, (by repeat (first | exact Below.refl _ _ | assumption | refine Below.drew ?_ | refine below_drewN ?_ _ | refine Below.alloc ?_ (by first | omega | (simp; done) | (simp; omega)) _ | refine Below.setCell ?_ (by first | omega | (simp; done) | (simp; omega)) _))⟩
end Go.Proofs.Ytgpcehokdfehjaa
