/- Contracts of the small functions on numbers, ranges and fractions that both the program and the reference use; each says what a call returns, and that it turns no old memory. -/
import Derived.Test.YtlkdkidpbjpkhaaBase
namespace Go.Proofs.Ytlkdkidpbjpkhaa
open Go.RowKit

set_option maxHeartbeats 400000 in
theorem within_any (n lo hi : Int) (w : World) :
    Calls Try.prog 50 #[.int .i64 n, .int .i64 lo, .int .i64 hi] w fun e w' => e = .returned (.bool (inB n lo hi)) ∧ w = w' := by
  by_cases h1 : lo ≤ n <;> by_cases h2 : n ≤ hi <;>
  · go_enter Try.func50, Try.ntmps50
    go_wp2
    go_ret
    exact ⟨by simp [inB, h1, h2], rfl⟩
set_option maxHeartbeats 400000 in
theorem l00In_any (n lo hi : Int) (w : World) :
    Calls Try.prog 58 #[.int .i64 n, .int .i64 lo, .int .i64 hi] w fun e w' => e = .returned (.bool (inB n lo hi)) ∧ w = w' := by
  by_cases h1 : lo ≤ n <;> by_cases h2 : n ≤ hi <;>
  · go_enter Try.func58, Try.ntmps58
    go_wp2
    go_ret
    exact ⟨by simp [inB, h1, h2], rfl⟩
end Go.Proofs.Ytlkdkidpbjpkhaa
