/- Contracts of the small functions that draw numbers out of bytes in the laws (a2Long, a2At); no condition beyond the byte slice that is read. -/
import Derived.Test.YtklhaanapembdaaM01
import Derived.Test.YtklhaanapembdaaDrawB
import Derived.Test.YtklhaanapembdaaBounds

namespace Go.Proofs.Ytklhaanapembdaa
open Go.RowKit

/-- What a2At gives of bytes zs at a place. -/
def atI (zs : List Int) (i n : Int) : Int := if (zs.length : Int) ≤ i ∨ n < 1 then 0 else zs.getD i.toNat 0 % n
theorem atI_bd (zs : List Int) (i n : Int) (hn : 1 ≤ n) : 0 ≤ atI zs i n ∧ atI zs i n < n := by
  unfold atI
  split
  · omega
  · exact ⟨Int.emod_nonneg _ (by omega), Int.emod_lt_of_pos _ (by omega)⟩
set_option maxHeartbeats 1000000 in
theorem a2At_any (a : Option Addr) (len cap : Nat) (zs : List Int) (i n : Int) (w : World) (h : IsRow .u8 w a len cap zs) (h0 : 0 ≤ i) (h1 : i ≤ 1000000) :
    Calls Try.prog 26 #[.slice a len cap, .int .i64 i, .int .i64 n] w fun e w' => e = .returned (.int .i64 (atI zs i n)) ∧ w = w' := by
  obtain ⟨i, rfl⟩ := Int.eq_ofNat_of_zero_le h0
  have hlen := h.1
  have hm := h.2.2.1
  have hcap := h.2.1
  unfold maxLen at hm
  by_cases hi : len ≤ i
  · have HE := Lib.hid (show atI zs (i : Int) n = 0 by unfold atI; rw [if_pos]; omega)
    have h2 : (len : Int) ≤ (i : Int) := by omega
    clear h hlen
    go_enter Try.func26, Try.ntmps26
    go_wp2
    go_ret
    exact ⟨ret_int (by rw [HE.out]), rfl⟩
  · have h2 : ¬ (len : Int) ≤ (i : Int) := by omega
    by_cases hn : n < 1
    · have HE := Lib.hid (show atI zs (i : Int) n = 0 by unfold atI; rw [if_pos]; omega)
      clear h hlen
      go_enter Try.func26, Try.ntmps26
      go_wp2
      go_ret
      exact ⟨ret_int (by rw [HE.out]), rfl⟩
    · have HE := Lib.hid (show atI zs (i : Int) n = zs.getD i 0 % n by unfold atI; rw [if_neg (by omega)]; rfl)
      obtain ⟨b, o, rfl, hb, hc⟩ := h.cell (i := i) (by omega)
      obtain ⟨u1, u2⟩ := h.u8 i
      clear h hlen
      generalize zs.getD i 0 = x at *
      go_enter Try.func26, Try.ntmps26
      go_wp2
      go_ret
      exact ⟨ret_int (by rw [HE.out]), rfl⟩
def longB (m n : Nat) : Bool := decide (3000 < m) || decide (3000 < n)
set_option maxHeartbeats 1000000 in
theorem a2Long_any (a a' : Option Addr) (len cap len' cap' : Nat) (w : World) (h : len ≤ maxLen) (h' : len' ≤ maxLen) :
    Calls Try.prog 17 #[.slice a len cap, .slice a' len' cap'] w fun e w' => e = .returned (.bool (longB len len')) ∧ w = w' := by
  unfold maxLen at h h'
  by_cases h1 : 3000 < len
  · have HE := Lib.hid (show longB len len' = true by simp [longB, h1])
    have g1 : (3000 : Int) < (len : Int) := by omega
    go_enter Try.func17, Try.ntmps17
    go_wp2
    go_ret
    exact ⟨ret_bool (by rw [HE.out]), rfl⟩
  · by_cases h2 : 3000 < len'
    · have HE := Lib.hid (show longB len len' = true by simp [longB, h2])
      have g1 : ¬ (3000 : Int) < (len : Int) := by omega
      have g2 : (3000 : Int) < (len' : Int) := by omega
      go_enter Try.func17, Try.ntmps17
      go_wp2
      go_ret
      exact ⟨ret_bool (by rw [HE.out]), rfl⟩
    · have HE := Lib.hid (show longB len len' = false by simp [longB, h1, h2])
      have g1 : ¬ (3000 : Int) < (len : Int) := by omega
      have g2 : ¬ (3000 : Int) < (len' : Int) := by omega
      go_enter Try.func17, Try.ntmps17
      go_wp2
      go_ret
      exact ⟨ret_bool (by rw [HE.out]), rfl⟩

/-- The same, in whatever world stands above the one in which the bytes were read; the drawn number under a name. -/
theorem a2At_at {a : Option Addr} {len cap : Nat} {zs : List Int} {w : World} (h : IsRow .u8 w a len cap zs) (i n : Int) (h0 : 0 ≤ i) (h1 : i ≤ 1000000) (hn : 1 ≤ n) :
    ∃ c, 0 ≤ c ∧ c < n ∧ Hid (∀ W : World, Below w.heap.size w W → Calls Try.prog 26 #[.slice a len cap, .int .i64 i, .int .i64 n] W fun e w' => e = .returned (.int .i64 c) ∧ W = w') :=
  ⟨atI zs i n, (atI_bd zs i n hn).1, (atI_bd zs i n hn).2, fun W hb => a2At_any a len cap zs i n W (h.below hb) h0 h1⟩
end Go.Proofs.Ytklhaanapembdaa
/- Contract of the laws' a2Same on slices with the same elements; no old memory turns; condition: the slices can be read. -/
namespace Go.Proofs.Ytklhaanapembdaa
set_option linter.unusedVariables false
open Go.RowKit

set_option maxHeartbeats 2000000 in
theorem a2Same_same (a a' : Option Addr) (len cap cap' : Nat) (zs : List Int) (w : World) (h : IsRow .i64 w a len cap zs) (h' : IsRow .i64 w a' len cap' zs) :
    Calls Try.prog 55 #[.slice a len cap, .slice a' len cap'] w fun e w' => e = .returned (.bool true) ∧ Below w.heap.size w w' := by
  have hm : len ≤ maxLen := Nat.le_trans h.2.1 h.2.2.1
  unfold maxLen at hm
  have H := Lib.hid h
  have H' := Lib.hid h'
  clear h h'
  go_enter Try.func55, Try.ntmps55
  go_wp2
  go_loopw [5] (fun i wr => ∃ k : Nat, k ≤ len ∧ i = .int .i64 (k : Int) ∧ Below w.heap.size w wr) (fun i _ => (len - intOf i).toNat)
  case atStart => exact ⟨0, by omega, rfl, Below.refl _ _⟩
  case round =>
    obtain ⟨k, hk, rfl, hB⟩ := hrel
    by_cases hlt : k < len
    · obtain ⟨b, o, rfl, hb, hc⟩ := (H.out.below hB).cell hlt
      obtain ⟨b', o', rfl, hb', hc'⟩ := (H'.out.below hB).cell hlt
      generalize zs.getD k 0 = x at *
      have hlt' : (k : Int) < (len : Int) := by omega
      go_wp2
      go_quiet (fail)
      go_wp2
      go_roundw
      case rel => exact ⟨k + 1, by omega, by go_num, below_drewN hB _⟩
      case measure => simp [intOf]; omega
    · go_wp2
      go_ret
      exact ⟨rfl, hB⟩
theorem IsB.len {a0 a1 a2 : Option Addr} {n0 c0 n1 c1 n2 c2 : Nat} {ls lo hi : List Int} {w : World} (h : IsB a0 a1 a2 n0 c0 n1 c1 n2 c2 ls lo hi w) : ls.length = n0 ∧ lo.length = n1 ∧ hi.length = n2 := ⟨h.1.1, h.2.1.1, h.2.2.1⟩
end Go.Proofs.Ytklhaanapembdaa
/- Contract of the program's bounds.stands : standB of the conditions that decide. -/
namespace Go.Proofs.Ytklhaanapembdaa
open Go.RowKit
set_option maxRecDepth 100000 in
set_option maxHeartbeats 8000000 in
theorem standsI_any (S : Bnds) (w : World) (hS : goodS S) :
    Calls Try.prog 65 #[.agg (bcells S)] w fun e w' => e = .returned (.bool (standB S)) ∧ Below w.heap.size w w' := by
  have HS : Hid (standB S = (!S.hn && (!S.hh || decide (S.high.a < 0)) && !(S.hl && S.hh && lessC S.high.a S.high.b S.low.a S.low.b))) := Lib.hid rfl
  have HG := Lib.hid hS
  clear hS
  go_enter Try.func65, Try.ntmps65
  have hA : AtS w.heap.size S (w.alloc (.cells (bcells S) 87)) := blk_new _ _
  obtain ⟨s0, s1, s2, s3, s4, s5, s6, s7, s8, s9, s10, s11, s12, s13, s14, s15, s16, s17, s18, s19, s20⟩ := hA.cells
  cases hn : S.hn
  · rw [hn] at s20
    cases hh : S.hh
    · rw [hh] at s19
      cases hl : S.hl
      · rw [hl] at s18
        go_wp2
        go_ret
        exact ⟨ret_bool (by rw [HS.out, hn, hh, hl]; rfl), (by repeat (first | exact Below.refl _ _ | assumption | refine Below.drew ?_ | refine below_drewN ?_ _ | refine Below.alloc ?_ (by first | omega | (simp; done) | (simp; omega)) _ | refine Below.setCell ?_ (by first | omega | (simp; done) | (simp; omega)) _))⟩
      · rw [hl] at s18
        go_wp2
        go_ret
        exact ⟨ret_bool (by rw [HS.out, hn, hh, hl]; rfl), (by repeat (first | exact Below.refl _ _ | assumption | refine Below.drew ?_ | refine below_drewN ?_ _ | refine Below.alloc ?_ (by first | omega | (simp; done) | (simp; omega)) _ | refine Below.setCell ?_ (by first | omega | (simp; done) | (simp; omega)) _))⟩
    · rw [hh] at s19
      by_cases ha : S.high.a < 0
      · have y1 : decide (S.high.a < 0) = true := decide_eq_true ha
        cases hl : S.hl
        · rw [hl] at s18
          go_wp2
          go_ret
          exact ⟨ret_bool (by rw [HS.out, hn, hh, hl, y1]; rfl), (by repeat (first | exact Below.refl _ _ | assumption | refine Below.drew ?_ | refine below_drewN ?_ _ | refine Below.alloc ?_ (by first | omega | (simp; done) | (simp; omega)) _ | refine Below.setCell ?_ (by first | omega | (simp; done) | (simp; omega)) _))⟩
        · rw [hl] at s18
          obtain ⟨l0, l1, l2, l3, l4⟩ := HG.out.1 hl
          obtain ⟨k0, k1, k2, k3, k4⟩ := HG.out.2.1 hh
          have HLB := Lib.hid (fun W => lessBound_any S.high.j S.high.k S.high.p S.high.q S.high.a S.high.b S.low.j S.low.k S.low.p S.low.q S.low.a S.low.b W k1 k2 k3 k4 l1 l2 l3 l4 (by omega) (by omega))
          obtain ⟨L, hL⟩ : ∃ L, lessC S.high.a S.high.b S.low.a S.low.b = L := ⟨_, rfl⟩
          rw [hL] at HLB
          clear l0 l1 l2 l3 l4 k0 k1 k2 k3 k4
          go_wp2_with fail
          refine (HLB.out _).mono ?_
          rintro e7 w7 ⟨rfl, hb7⟩
          have hax : Below w.heap.size w w7 := below_callB (by repeat (first | exact Below.refl _ _ | assumption | refine Below.drew ?_ | refine below_drewN ?_ _ | refine Below.alloc ?_ (by first | omega | (simp; done) | (simp; omega)) _ | refine Below.setCell ?_ (by first | omega | (simp; done) | (simp; omega)) _)) (by first | omega | (simp; done) | (simp; omega)) hb7
          cases L <;>
            (go_wp2
             go_ret
             exact ⟨ret_bool (by rw [HS.out, hn, hh, hl, y1, hL]; rfl), hax⟩)
      · have y1 : decide (S.high.a < 0) = false := decide_eq_false ha
        go_wp2
        go_ret
        exact ⟨ret_bool (by rw [HS.out, hn, hh, y1]; rfl), (by repeat (first | exact Below.refl _ _ | assumption | refine Below.drew ?_ | refine below_drewN ?_ _ | refine Below.alloc ?_ (by first | omega | (simp; done) | (simp; omega)) _ | refine Below.setCell ?_ (by first | omega | (simp; done) | (simp; omega)) _))⟩
  · rw [hn] at s20
    go_wp2
    go_ret
    exact ⟨ret_bool (by rw [HS.out, hn]; rfl), (by repeat (first | exact Below.refl _ _ | assumption | refine Below.drew ?_ | refine below_drewN ?_ _ | refine Below.alloc ?_ (by first | omega | (simp; done) | (simp; omega)) _ | refine Below.setCell ?_ (by first | omega | (simp; done) | (simp; omega)) _))⟩
end Go.Proofs.Ytklhaanapembdaa
