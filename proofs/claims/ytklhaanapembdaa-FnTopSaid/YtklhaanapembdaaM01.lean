/- Contracts of the small functions on numbers, ranges and fractions that both the program and the reference use; each says what a call returns, and that it turns no old memory. -/
import Derived.Test.YtklhaanapembdaaBase

namespace Go.Proofs.Ytklhaanapembdaa
open Go.RowKit

set_option maxHeartbeats 400000 in
theorem within_any (n lo hi : Int) (w : World) :
    Calls Try.prog 75 #[.int .i64 n, .int .i64 lo, .int .i64 hi] w fun e w' => e = .returned (.bool (inB n lo hi)) ∧ w = w' := by
  by_cases h1 : lo ≤ n <;> by_cases h2 : n ≤ hi <;>
  · go_enter Try.func75, Try.ntmps75
    go_wp2
    go_ret
    exact ⟨by simp [inB, h1, h2], rfl⟩
set_option maxHeartbeats 400000 in
theorem l00In_any (n lo hi : Int) (w : World) :
    Calls Try.prog 92 #[.int .i64 n, .int .i64 lo, .int .i64 hi] w fun e w' => e = .returned (.bool (inB n lo hi)) ∧ w = w' := by
  by_cases h1 : lo ≤ n <;> by_cases h2 : n ≤ hi <;>
  · go_enter Try.func92, Try.ntmps92
    go_wp2
    go_ret
    exact ⟨by simp [inB, h1, h2], rfl⟩
set_option maxHeartbeats 400000 in
theorem gcd_any (a b : Int) (w : World) (ha : -9223372036854775807 ≤ a) (ha' : a ≤ 9223372036854775807) (hb : -9223372036854775807 ≤ b) (hb' : b ≤ 9223372036854775807) :
    Calls Try.prog 69 #[.int .i64 a, .int .i64 b] w fun e w' => e = .returned (.int .i64 (Int.gcd a b)) ∧ Below w.heap.size w w' := by
  go_enter Try.func69, Try.ntmps69
  go_wp2
  go_loopw [0, 1] (fun x y wr => ∃ p q : Int, x = .int .i64 p ∧ y = .int .i64 q ∧ Int.gcd p q = Int.gcd a b ∧ -9223372036854775807 ≤ p ∧ p ≤ 9223372036854775807 ∧ -9223372036854775807 ≤ q ∧ q ≤ 9223372036854775807 ∧ Below w.heap.size w wr) (fun _ y _ => (intOf y).natAbs)
  case atStart => exact ⟨a, b, rfl, rfl, rfl, ha, ha', hb, hb', Below.refl _ _⟩
  case round =>
    obtain ⟨p, q, rfl, rfl, hg, h1, h2, h3, h4, hB⟩ := hrel
    have HG : Hid (Int.gcd p q = Int.gcd a b) := hg
    clear hg
    by_cases hq : q = 0
    · subst hq
      have HE : Hid ((p.natAbs : Int) = Int.gcd a b) := by have h := HG.out; simp at h; show _ = _; rw [h]
      clear HG
      go_wp2
      all_goals
        go_ret
        exact ⟨ret_int (by rw [← HE.out]; omega), hB⟩
    · have HS := gcd_step p q
      have HL := tmod_lt p q hq
      have H1 : Hid (Int.gcd q (p.tmod q) = Int.gcd a b) := by show _ = _; rw [HS]; exact HG.out
      have H2 : Hid ((p.tmod q).natAbs < q.natAbs) := HL
      have H3 : -9223372036854775807 ≤ p.tmod q := by omega
      have H4 : p.tmod q ≤ 9223372036854775807 := by omega
      clear HS HL HG
      go_wp2
      go_quiet (fail)
      go_wp2
      go_roundw
      case rel => exact ⟨q, p.tmod q, rfl, rfl, H1.out, h3, h4, H3, H4, below_drewN hB _⟩
      case measure => exact H2.out
set_option maxHeartbeats 400000 in
theorem l02Gcd_any (a b : Int) (w : World) (ha : 0 ≤ a) (ha' : a ≤ 9223372036854775807) (hb : 0 ≤ b) (hb' : b ≤ 9223372036854775807) :
    Calls Try.prog 105 #[.int .i64 a, .int .i64 b] w fun e w' => e = .returned (.int .i64 (Int.gcd a b)) ∧ w = w' := by
  go_enter Try.func105, Try.ntmps105
  go_wp2
  go_loop [0, 1, 5] (fun x y _ => ∃ p q : Int, x = .int .i64 p ∧ y = .int .i64 q ∧ Int.gcd p q = Int.gcd a b ∧ 0 ≤ p ∧ p ≤ 9223372036854775807 ∧ 0 ≤ q ∧ q ≤ 9223372036854775807) (fun _ y _ => (intOf y).natAbs)
  case atStart => exact ⟨a, b, rfl, rfl, rfl, ha, ha', hb, hb'⟩
  case round =>
    obtain ⟨p, q, rfl, rfl, hg, h1, h2, h3, h4⟩ := hrel
    have HG : Hid (Int.gcd p q = Int.gcd a b) := hg
    clear hg
    by_cases hq : q = 0
    · subst hq
      have HE : Hid ((p.natAbs : Int) = Int.gcd a b) := by have h := HG.out; simp at h; show _ = _; rw [h]
      clear HG
      go_wp2
      go_ret
      exact ⟨ret_int (by rw [← HE.out]; omega), rfl⟩
    · have HS := gcd_step p q
      have e : p.tmod q = p % q := Int.tmod_eq_emod_of_nonneg h1
      rw [e] at HS
      have H1 : Hid (Int.gcd q (p % q) = Int.gcd a b) := by show _ = _; rw [HS]; exact HG.out
      have H3 : 0 ≤ p % q := Int.emod_nonneg _ hq
      have H5 : p % q < q := Int.emod_lt_of_pos _ (by omega)
      have H2 : Hid ((p % q).natAbs < q.natAbs) := by show _ < _; omega
      have H4 : p % q ≤ 9223372036854775807 := by omega
      clear HS HG e
      go_wp2
      go_round
      case rel => exact ⟨q, p % q, rfl, rfl, H1.out, h3, h4, H3, H4⟩
      case measure => exact H2.out
set_option maxHeartbeats 400000 in
theorem lowest_any (n d : Int) (w : World) (hn : -9223372036854775807 ≤ n) (hn' : n ≤ 9223372036854775807) (hd : 0 < d) (hd' : d ≤ 9223372036854775807) :
    Calls Try.prog 66 #[.int .i64 n, .int .i64 d] w fun e w' => e = .returned (.agg #[.int .i64 (lwN n d), .int .i64 (lwD n d)]) ∧ Below w.heap.size w w' := by
  have hg0 := gcd_ge n d hd
  have HD := Lib.hid (lwD_eq n d hd)
  go_enter Try.func66, Try.ntmps66
  go_wp2_with fail
  refine (gcd_any _ _ _ (by omega) (by omega) (by omega) (by omega)).mono ?_
  rintro e w1 ⟨rfl, hb⟩
  obtain ⟨hc, hf⟩ := bcell hb
  have hz : w.heap.size < w1.heap.size := by have := hb.size; simp at this; omega
  go_wp2
  go_region
  all_goals
    go_wp2
    refine bodyPost_ret (v := .agg #[.int .i64 (lwN n d), .int .i64 (lwD n d)]) (by rw [HD.out]; simp [results, Try.results66, go_sem, hc, lwN]) rfl ⟨rfl, ?_⟩
    exact (((below_call ((Below.refl _ _).alloc (Nat.le_refl _) _) hb).drew).setCell (by simp) _).setCell (by simp) _
set_option maxHeartbeats 400000 in
theorem l02Size_any (n : Int) (w : World) (hn : -9223372036854775807 ≤ n) (hn' : n ≤ 9223372036854775807) :
    Calls Try.prog 106 #[.int .i64 n] w fun e w' => e = .returned (.int .i64 (n.natAbs : Int)) ∧ w = w' := by
  go_enter Try.func106, Try.ntmps106
  go_wp2
  all_goals
    go_ret
    exact ⟨ret_int (by omega), rfl⟩
set_option maxHeartbeats 400000 in
theorem l02Make_any (n d : Int) (w : World) (hn : -9223372036854775807 ≤ n) (hn' : n ≤ 9223372036854775807) (hd : 0 < d) (hd' : d ≤ 9223372036854775807) :
    Calls Try.prog 103 #[.int .i64 n, .int .i64 d] w fun e w' => e = .returned (.agg #[.int .i64 (lwN n d), .int .i64 (lwD n d)]) ∧ Below w.heap.size w w' := by
  have hg0 := gcd_ge n d hd
  have HD := Lib.hid (lwD_eq n d hd)
  have HG := Lib.hid (show Int.gcd (n.natAbs : Int) d = Int.gcd n d by simp [Int.gcd])
  go_enter Try.func103, Try.ntmps103
  go_wp2_with fail
  refine (l02Size_any _ _ (by omega) (by omega)).mono ?_
  rintro e w1 ⟨rfl, rfl⟩
  go_wp2_with fail
  refine (l02Gcd_any _ _ _ (by omega) (by omega) (by omega) (by omega)).mono ?_
  rintro e w1 ⟨rfl, rfl⟩
  rw [HG.out]
  go_wp2
  go_region
  all_goals
    go_wp2
    refine bodyPost_ret (v := .agg #[.int .i64 (lwN n d), .int .i64 (lwD n d)]) (by rw [HD.out]; simp [results, Try.results103, go_sem, lwN]) rfl ⟨rfl, ?_⟩
    exact (by repeat (first | exact Below.refl _ _ | assumption | refine Below.drew ?_ | refine below_drewN ?_ _ | refine Below.alloc ?_ (by first | omega | (simp; done) | (simp; omega)) _ | refine Below.setCell ?_ (by first | omega | (simp; done) | (simp; omega)) _))
set_option maxHeartbeats 400000 in
theorem eqFraction_same (n d : Int) (w : World) :
    Calls Try.prog 58 #[.agg #[.int .i64 n, .int .i64 d], .agg #[.int .i64 n, .int .i64 d]] w fun e w' => e = .returned (.bool true) ∧ Below w.heap.size w w' := by
  go_enter Try.func58, Try.ntmps58
  go_wp2
  go_ret
  exact ⟨rfl, (by repeat (first | exact Below.refl _ _ | assumption | refine Below.drew ?_ | refine below_drewN ?_ _ | refine Below.alloc ?_ (by first | omega | (simp; done) | (simp; omega)) _ | refine Below.setCell ?_ (by first | omega | (simp; done) | (simp; omega)) _))⟩
end Go.Proofs.Ytklhaanapembdaa
/- Contracts of outside, ContainsFunc, IndexFunc: whether a slice of integers has one that is not within two limits; memory as before, but for new blocks. -/
namespace Go.Proofs.Ytklhaanapembdaa
open Go.RowKit

/-- All are within the limits. -/
def insB (zs : List Int) (lo hi : Int) : Bool := zs.all fun n => inB n lo hi
theorem insB_t {zs : List Int} {lo hi : Int} (h : insB zs lo hi = true) (k : Nat) (hk : k < zs.length) : lo ≤ zs.getD k 0 ∧ zs.getD k 0 ≤ hi := by
  have := List.all_eq_true.1 h (zs.getD k 0) (by simp [List.getD_eq_getElem?_getD, hk])
  exact inB_t this
theorem insB_mk {zs : List Int} {lo hi : Int} (h : ∀ k, k < zs.length → lo ≤ zs.getD k 0 ∧ zs.getD k 0 ≤ hi) : insB zs lo hi = true := by
  refine List.all_eq_true.2 fun x hx => inB_mk ?_
  obtain ⟨i, hi', rfl⟩ := List.getElem_of_mem hx
  have := h i hi'
  simpa [List.getD_eq_getElem?_getD, hi'] using this
theorem insB_no {zs : List Int} {lo hi : Int} {k : Nat} (hk : k < zs.length) (h : inB (zs.getD k 0) lo hi = false) : insB zs lo hi = false := by
  cases e : insB zs lo hi
  · rfl
  · have := inB_mk (insB_t e k hk)
    rw [this] at h; cases h
theorem capture {w w' : World} {b : Nat} {v : Value} (hb : Below w.heap.size w w') (h : w.cell? ⟨b, 0, none⟩ = some v) : w'.cell? ⟨b, 0, none⟩ = some v := keep1 hb h
set_option maxHeartbeats 400000 in
theorem outsideC_any (n lo hi : Int) (b c : Nat) (w : World) (h1 : w.cell? ⟨b, 0, none⟩ = some (.int .i64 lo)) (h2 : w.cell? ⟨c, 0, none⟩ = some (.int .i64 hi)) :
    Calls Try.prog 108 #[.int .i64 n, .pointer (some ⟨b, 0, none⟩), .pointer (some ⟨c, 0, none⟩)] w fun e w' => e = .returned (.bool (!inB n lo hi)) ∧ w = w' := by
  go_enter Try.func108, Try.ntmps108
  go_wp2_with fail
  refine (within_any _ _ _ _).mono ?_
  rintro e1 w1 ⟨rfl, rfl⟩
  go_wp2
  go_ret
  exact ⟨rfl, rfl⟩
set_option maxHeartbeats 1000000 in
theorem indexF_any (a : Option Addr) (len cap : Nat) (zs : List Int) (lo hi : Int) (b c : Nat) (w : World) (h1 : w.cell? ⟨b, 0, none⟩ = some (.int .i64 lo)) (h2 : w.cell? ⟨c, 0, none⟩ = some (.int .i64 hi)) (h : IsRow .i64 w a len cap zs) :
    Calls Try.prog 131 #[.slice a len cap, .func (Fn.func 108) #[] #[.pointer (some ⟨b, 0, none⟩), .pointer (some ⟨c, 0, none⟩)]] w
      fun e w' => (∃ r : Int, e = .returned (.int .i64 r) ∧ -1 ≤ r ∧ r ≤ 9223372036854775807 ∧ (decide (0 ≤ r)) = !insB zs lo hi) ∧ w = w' := by
  have hl := h.1
  have hm : len ≤ maxLen := Nat.le_trans h.2.1 h.2.2.1
  unfold maxLen at hm
  have H := Lib.hid h
  have HL := Lib.hid hl
  clear h hl
  go_enter Try.func131, Try.ntmps131
  go_wp2
  go_loop [5, 8] (fun _ i => ∃ k : Nat, k ≤ len ∧ i = .int .i64 (k : Int) ∧ ∀ m, m < k → lo ≤ zs.getD m 0 ∧ zs.getD m 0 ≤ hi) (fun _ i => (len - intOf i).toNat)
  case atStart => exact ⟨0, by omega, rfl, fun m hm => by omega⟩
  case round =>
    obtain ⟨k, hk, rfl, hI⟩ := hrel
    have HI := Lib.hid hI
    clear hI
    by_cases hlt : k < len
    · obtain ⟨b', o', rfl, hb', hc'⟩ := H.out.cell hlt
      have hlt' : (k : Int) < (len : Int) := by omega
      cases hx : inB (zs.getD k 0) lo hi
      · have HR := Lib.hid (insB_no (by rw [HL.out]; exact hlt) hx)
        have HX := Lib.hid hx
        clear hx
        generalize zs.getD k 0 = x at *
        go_wp2_with fail
        refine (outsideC_any _ _ _ _ _ _ h1 h2).mono ?_
        rintro e1 w1 ⟨rfl, rfl⟩
        rw [HX.out]
        go_wp2
        go_ret
        exact ⟨⟨k, rfl, by omega, by omega, by rw [HR.out]; simp⟩, rfl⟩
      · have HX := Lib.hid hx
        have HS := Lib.hid (inB_t hx)
        clear hx
        have HN : Hid (∀ m, m < k + 1 → lo ≤ zs.getD m 0 ∧ zs.getD m 0 ≤ hi) := Lib.hid fun m hm => by
          rcases Nat.lt_succ_iff_lt_or_eq.1 hm with h | rfl
          · exact HI.out m h
          · exact HS.out
        clear HS
        generalize zs.getD k 0 = x at *
        go_wp2_with fail
        refine (outsideC_any _ _ _ _ _ _ h1 h2).mono ?_
        rintro e1 w1 ⟨rfl, rfl⟩
        rw [HX.out]
        go_wp2
        go_round
        case rel => exact ⟨k + 1, by omega, by go_num, HN.out⟩
        case measure => simp [intOf]; omega
    · obtain rfl : k = len := by omega
      have HR := Lib.hid (insB_mk (lo := lo) (hi := hi) (fun m hm => HI.out m (by rw [HL.out] at hm; exact hm)))
      go_wp2
      go_ret
      exact ⟨⟨-1, rfl, by omega, by omega, by rw [HR.out]; rfl⟩, rfl⟩
set_option maxHeartbeats 400000 in
theorem contains_any (a : Option Addr) (len cap : Nat) (zs : List Int) (lo hi : Int) (b c : Nat) (w : World) (h1 : w.cell? ⟨b, 0, none⟩ = some (.int .i64 lo)) (h2 : w.cell? ⟨c, 0, none⟩ = some (.int .i64 hi)) (h : IsRow .i64 w a len cap zs) :
    Calls Try.prog 107 #[.slice a len cap, .func (Fn.func 108) #[] #[.pointer (some ⟨b, 0, none⟩), .pointer (some ⟨c, 0, none⟩)]] w
      fun e w' => e = .returned (.bool (!insB zs lo hi)) ∧ w = w' := by
  go_enter Try.func107, Try.ntmps107
  go_wp2_with fail
  refine (indexF_any _ _ _ _ _ _ _ _ _ h1 h2 h).mono ?_
  rintro e1 w1 ⟨⟨r, rfl, r1, r2, hr⟩, rfl⟩
  go_wp2
  go_ret
  exact ⟨ret_bool (by rw [← hr]), rfl⟩
set_option maxHeartbeats 400000 in
theorem outside_any (a : Option Addr) (len cap : Nat) (zs : List Int) (lo hi : Int) (w : World) (h : IsRow .i64 w a len cap zs) :
    Calls Try.prog 74 #[.slice a len cap, .int .i64 lo, .int .i64 hi] w fun e w' => e = .returned (.bool (!insB zs lo hi)) ∧ Below w.heap.size w w' := by
  have H := Lib.hid h
  clear h
  go_enter Try.func74, Try.ntmps74
  go_wp2_with fail
  refine (contains_any _ _ _ _ lo hi _ _ _ (by simp [go_sem]) (by simp [go_sem]) (H.out.below (by repeat (first | exact Below.refl _ _ | assumption | refine Below.drew ?_ | refine below_drewN ?_ _ | refine Below.alloc ?_ (by first | omega | (simp; done) | (simp; omega)) _ | refine Below.setCell ?_ (by first | omega | (simp; done) | (simp; omega)) _)))).mono ?_
  rintro e1 w1 ⟨rfl, rfl⟩
  go_wp2
  go_ret
  exact ⟨rfl, (by repeat (first | exact Below.refl _ _ | assumption | refine Below.drew ?_ | refine below_drewN ?_ _ | refine Below.alloc ?_ (by first | omega | (simp; done) | (simp; omega)) _ | refine Below.setCell ?_ (by first | omega | (simp; done) | (simp; omega)) _))⟩
end Go.Proofs.Ytklhaanapembdaa
