/- Contract of the laws' a2Same on slices with the same elements; no old memory turns; condition: the slices can be read. -/
import Derived.Test.YtklhaanapembdaaDrawA
import Derived.Test.YtklhaanapembdaaDrawB
namespace Go.Proofs.Ytklhaanapembdaa
set_option linter.unusedVariables false
open Go.RowKit

set_option maxHeartbeats 2000000 in
theorem a2Same_same (a a' : Option Addr) (len cap cap' : Nat) (zs : List Int) (w : World) (h : IsRow .i64 w a len cap zs) (h' : IsRow .i64 w a' len cap' zs) :
    Calls Try.prog 55 #[.slice a len cap, .slice a' len cap'] w fun e w' => e = .returned (.bool true) ∧ Below w.heap.size w w' := by
  have hm : len ≤ maxLen := Nat.le_trans h.2.1 h.2.2.1
  unfold maxLen at hm
  have H := Lib.hid h
  have H' := Lib.hid h'
  clear h h'
  go_enter Try.func55, Try.ntmps55
  go_wp2
  go_loopw [5] (fun i wr => ∃ k : Nat, k ≤ len ∧ i = .int .i64 (k : Int) ∧ Below w.heap.size w wr) (fun i _ => (len - intOf i).toNat)
  case atStart => exact ⟨0, by omega, rfl, Below.refl _ _⟩
  case round =>
    obtain ⟨k, hk, rfl, hB⟩ := hrel
    by_cases hlt : k < len
    · obtain ⟨b, o, rfl, hb, hc⟩ := (H.out.below hB).cell hlt
      obtain ⟨b', o', rfl, hb', hc'⟩ := (H'.out.below hB).cell hlt
      generalize zs.getD k 0 = x at *
      have hlt' : (k : Int) < (len : Int) := by omega
      go_wp2
      go_quiet (fail)
      go_wp2
      go_roundw
      case rel => exact ⟨k + 1, by omega, by go_num, below_drewN hB _⟩
      case measure => simp [intOf]; omega
    · go_wp2
      go_ret
      exact ⟨rfl, hB⟩
theorem IsB.len {a0 a1 a2 : Option Addr} {n0 c0 n1 c1 n2 c2 : Nat} {ls lo hi : List Int} {w : World} (h : IsB a0 a1 a2 n0 c0 n1 c1 n2 c2 ls lo hi w) : ls.length = n0 ∧ lo.length = n1 ∧ hi.length = n2 := ⟨h.1.1, h.2.1.1, h.2.2.1⟩
end Go.Proofs.Ytklhaanapembdaa
