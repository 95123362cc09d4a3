/- Contract of slices.Clone at []int64: a new slice with the same elements; no old memory turns; the source is not nil. -/
import Derived.Test.YtklhaanapembdaaOwn
import Derived.Lib.SliceRun
namespace Go.Proofs.Ytklhaanapembdaa
open Go.RowKit
theorem eql_nil (w : World) (a : Option Addr) (n c n' c' : Nat) : (binOp .eql 24 (.slice a n c) (.slice none n' c')).run Try.prog w = .ok (.bool a.isNone) w := Lib.run_eql_slice_nil w _ _ a n c n' c' Try.underlying24
set_option maxHeartbeats 1000000 in
theorem clone_any (b o : Nat) (len cap : Nat) (zs : List Int) (w : World) (h : IsRow .i64 w (some ⟨b, o, none⟩) len cap zs) (hlen : len ≤ 1048576) :
    Calls Try.prog 70 #[.slice (some ⟨b, o, none⟩) len cap] w (NewL w zs) := by
  have hl := h.1
  obtain ⟨i0, hi, hi0, hi1, hi2⟩ := info_parts info_i64
  have HC := Lib.hid (h.below ((Below.refl _ _).alloc (Nat.le_refl _) (.cells #[] 2))).cellsAt
  have HL := Lib.hid hl
  have q22 := eql_nil
  clear h hl
  go_enter Try.func70, Try.ntmps70
  go_wp2_with (at_builtin; refine wpList_append_own _ rfl _ _ 24 rfl w.heap.size 2 i0 (.int .i64 0) 1 8 Try.underlying24 hi hi0 hi1 hi2 rfl (by decide) _ 0 [] rfl (ownI_empty _ _ (Nat.le_refl _)) ⟨b, o, none⟩ len _ (zs.map (Value.int .i64)) rfl ?c0 ?c1 ?c2 ?c3 ?c4 ?c5 ?_)
  case c0 => rw [List.length_map, HL.out, Nat.mul_one]
  case c1 => exact HC.out
  case c2 => intro u hu; obtain ⟨n, _, rfl⟩ := List.mem_map.1 hu; rfl
  case c3 => unfold maxLen; omega
  case c4 => omega
  case c5 => simp
  intro v' w1 hown1 hgrow1 _
  have hO1 : Hid (OwnI w1 w.heap.size v' zs) := Lib.hid (by
    unfold OwnI
    rw [HL.out]
    simpa using hown1)
  have hB1 : Hid (Below w.heap.size w w1) := Lib.hid (below_append (by repeat (first | exact Below.refl _ _ | assumption | refine Below.drew ?_ | refine below_drewN ?_ _ | refine Below.alloc ?_ (by first | omega | (simp; done) | (simp; omega)) _ | refine Below.setCell ?_ (by first | omega | (simp; done) | (simp; omega)) _)) (ownI_empty _ _ (Nat.le_refl _)) hgrow1)
  clear hown1 hgrow1
  go_wp2
  go_ret
  exact newL_mk hO1.out hB1.out
end Go.Proofs.Ytklhaanapembdaa
