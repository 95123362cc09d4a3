/- Contracts of the small functions that draw numbers out of bytes in the laws (a2Long, a2At); no condition beyond the byte slice that is read. -/
import Derived.Test.YtklhaanapembdaaNum
namespace Go.Proofs.Ytklhaanapembdaa
open Go.RowKit

/-- What a2At gives of bytes zs at a place. -/
def atI (zs : List Int) (i n : Int) : Int := if (zs.length : Int) ≤ i ∨ n < 1 then 0 else zs.getD i.toNat 0 % n
theorem atI_bd (zs : List Int) (i n : Int) (hn : 1 ≤ n) : 0 ≤ atI zs i n ∧ atI zs i n < n := by
  unfold atI
  split
  · omega
  · exact ⟨Int.emod_nonneg _ (by omega), Int.emod_lt_of_pos _ (by omega)⟩
set_option maxHeartbeats 1000000 in
theorem a2At_any (a : Option Addr) (len cap : Nat) (zs : List Int) (i n : Int) (w : World) (h : IsRow .u8 w a len cap zs) (h0 : 0 ≤ i) (h1 : i ≤ 1000000) :
    Calls Try.prog 26 #[.slice a len cap, .int .i64 i, .int .i64 n] w fun e w' => e = .returned (.int .i64 (atI zs i n)) ∧ w = w' := by
  obtain ⟨i, rfl⟩ := Int.eq_ofNat_of_zero_le h0
  have hlen := h.1
  have hm := h.2.2.1
  have hcap := h.2.1
  unfold maxLen at hm
  by_cases hi : len ≤ i
  · have HE := Lib.hid (show atI zs (i : Int) n = 0 by unfold atI; rw [if_pos]; omega)
    have h2 : (len : Int) ≤ (i : Int) := by omega
    clear h hlen
    go_enter Try.func26, Try.ntmps26
    go_wp2
    go_ret
    exact ⟨ret_int (by rw [HE.out]), rfl⟩
  · have h2 : ¬ (len : Int) ≤ (i : Int) := by omega
    by_cases hn : n < 1
    · have HE := Lib.hid (show atI zs (i : Int) n = 0 by unfold atI; rw [if_pos]; omega)
      clear h hlen
      go_enter Try.func26, Try.ntmps26
      go_wp2
      go_ret
      exact ⟨ret_int (by rw [HE.out]), rfl⟩
    · have HE := Lib.hid (show atI zs (i : Int) n = zs.getD i 0 % n by unfold atI; rw [if_neg (by omega)]; rfl)
      obtain ⟨b, o, rfl, hb, hc⟩ := h.cell (i := i) (by omega)
      obtain ⟨u1, u2⟩ := h.u8 i
      clear h hlen
      generalize zs.getD i 0 = x at *
      go_enter Try.func26, Try.ntmps26
      go_wp2
      go_ret
      exact ⟨ret_int (by rw [HE.out]), rfl⟩
def longB (m n : Nat) : Bool := decide (3000 < m) || decide (3000 < n)
set_option maxHeartbeats 1000000 in
theorem a2Long_any (a a' : Option Addr) (len cap len' cap' : Nat) (w : World) (h : len ≤ maxLen) (h' : len' ≤ maxLen) :
    Calls Try.prog 17 #[.slice a len cap, .slice a' len' cap'] w fun e w' => e = .returned (.bool (longB len len')) ∧ w = w' := by
  unfold maxLen at h h'
  by_cases h1 : 3000 < len
  · have HE := Lib.hid (show longB len len' = true by simp [longB, h1])
    have g1 : (3000 : Int) < (len : Int) := by omega
    go_enter Try.func17, Try.ntmps17
    go_wp2
    go_ret
    exact ⟨ret_bool (by rw [HE.out]), rfl⟩
  · by_cases h2 : 3000 < len'
    · have HE := Lib.hid (show longB len len' = true by simp [longB, h2])
      have g1 : ¬ (3000 : Int) < (len : Int) := by omega
      have g2 : (3000 : Int) < (len' : Int) := by omega
      go_enter Try.func17, Try.ntmps17
      go_wp2
      go_ret
      exact ⟨ret_bool (by rw [HE.out]), rfl⟩
    · have HE := Lib.hid (show longB len len' = false by simp [longB, h1, h2])
      have g1 : ¬ (3000 : Int) < (len : Int) := by omega
      have g2 : ¬ (3000 : Int) < (len' : Int) := by omega
      go_enter Try.func17, Try.ntmps17
      go_wp2
      go_ret
      exact ⟨ret_bool (by rw [HE.out]), rfl⟩

/-- The same, in whatever world stands above the one in which the bytes were read; the drawn number under a name. -/
theorem a2At_at {a : Option Addr} {len cap : Nat} {zs : List Int} {w : World} (h : IsRow .u8 w a len cap zs) (i n : Int) (h0 : 0 ≤ i) (h1 : i ≤ 1000000) (hn : 1 ≤ n) :
    ∃ c, 0 ≤ c ∧ c < n ∧ Hid (∀ W : World, Below w.heap.size w W → Calls Try.prog 26 #[.slice a len cap, .int .i64 i, .int .i64 n] W fun e w' => e = .returned (.int .i64 c) ∧ W = w') :=
  ⟨atI zs i n, (atI_bd zs i n hn).1, (atI_bd zs i n hn).2, fun W hb => a2At_any a len cap zs i n W (h.below hb) h0 h1⟩
end Go.Proofs.Ytklhaanapembdaa
