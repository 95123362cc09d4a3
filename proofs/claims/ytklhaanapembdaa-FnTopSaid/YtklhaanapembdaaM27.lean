/- Contract of the reference's copy of a slice of integers (l00Own): a new slice with the same elements; the source may be nil; no old memory turns. -/
import Derived.Lib.SliceRun
import Derived.Test.YtklhaanapembdaaM02

namespace Go.Proofs.Ytklhaanapembdaa
open Go.RowKit

theorem run_append_nothing {P : Program} (w : World) (base : Nat) (t ty e : TypeId) (i : TypeInfo) (size : Nat) (ht : P.underlying t = some (.slice e)) (hi : P.info? e = some i)
    (v : Value) (n : Nat) (xs : List Value) (hown : w.ownsRow base e size v n xs) (c : Nat) : (Builtin.append_ #[t, t] ty #[v, .slice none 0 c]).run P w = .ok v w := by
  rcases hown.2 with ⟨rfl, rfl⟩ | ⟨g, cap, cur, rfl, _, _, hnc, _⟩
  · simp [Builtin.append_, run_underlying ht, sizeOf, typeInfo, hi, Builtin.lenOf, Builtin.firstCells]
  · simp [Builtin.append_, run_underlying ht, sizeOf, typeInfo, hi, Builtin.lenOf, Builtin.firstCells, hnc, storeCells]
theorem wpList_append_nothing {P : Program} (w : World) {ops : Array Oper} {rest : List Oper} {o : Oper} {a : Act} {Q : Exit → Act → World → Prop} (hgd : o.guard = none) (s x : Operand) (t : TypeId)
    (ho : o.op = .call { callee := .builtin .append, args := #[s, x], argTypes := #[t, t] })
    (base : Nat) (e : TypeId) (i : TypeInfo) (size : Nat) (ht : P.underlying t = some (.slice e)) (hi : P.info? e = some i)
    (v : Value) (n : Nat) (xs : List Value) (hs : a.eval s = v) (hown : w.ownsRow base e size v n xs) (c : Nat) (hx : a.eval x = .slice none 0 c)
    (h : wpList P ops Q rest (a.put o.dst v) w) : wpList P ops Q (o :: rest) a w := by
  refine wpList_plain hgd fun K hK => ?_
  have hrun := run_append_nothing (P := P) w base t o.type e i size ht hi v n xs hown c
  unfold Oper.wp execOp
  simp only [ho, resolve, invoke, builtin, Sem.run_bind, Sem.run_pure, Result.andThen_ok, List.map_toArray, List.map_cons, List.map_nil, hs, hx, hrun]
  exact hK _ _ h
theorem IsRow.cellsAt {w : World} {ad : Addr} {len cap : Nat} {zs : List Int} (h : IsRow .i64 w (some ad) len cap zs) : ∀ (j : Nat) u, (zs.map (Value.int .i64))[j]? = some u → w.cell? (ad.add j) = some u := by
  obtain ⟨hl, _, _, _, hc⟩ := h
  intro j u hu
  rw [List.getElem?_map] at hu
  cases e : zs[j]? with
  | none => rw [e] at hu; cases hu
  | some n =>
    rw [e] at hu
    simp at hu
    subst hu
    have hj : j < zs.length := (List.getElem?_eq_some_iff.1 e).1
    obtain ⟨b, o, ha, _, hc2⟩ := hc (by omega)
    injection ha with ha
    subst ha
    have : (⟨b, o, none⟩ : Addr).add j = ⟨b, o + j, none⟩ := by unfold Addr.add; split <;> simp_all
    rw [this]
    exact hc2 j n e
set_option maxHeartbeats 1000000 in
theorem l00Own_any (a : Option Addr) (len cap : Nat) (zs : List Int) (w : World) (h : IsRow .i64 w a len cap zs) (hlen : len ≤ 1048576) :
    Calls Try.prog 102 #[.slice a len cap] w (NewL w zs) := by
  have hl := h.1
  obtain ⟨i0, hi, hi0, hi1, hi2⟩ := info_parts info_i64
  rcases a with _ | ad
  · have h0 : len = 0 := by
      rcases Nat.eq_zero_or_pos len with h0 | h0
      · exact h0
      · obtain ⟨b, o, e, _⟩ := h.2.2.2.2 h0
        cases e
    subst h0
    obtain rfl : zs = [] := List.eq_nil_of_length_eq_zero hl
    clear h hl
    go_enter Try.func102, Try.ntmps102
    go_wp2_with (at_builtin; refine wpList_append_nothing _ rfl _ _ 24 rfl w.heap.size 2 i0 1 Try.underlying24 hi _ 0 [] rfl (ownI_empty _ _ (Nat.le_refl _)) _ rfl ?_)
    go_ret
    exact newL_mk (ownI_empty _ _ (Nat.le_refl _)) (by repeat (first | exact Below.refl _ _ | assumption | refine Below.drew ?_ | refine below_drewN ?_ _ | refine Below.alloc ?_ (by first | omega | (simp; done) | (simp; omega)) _ | refine Below.setCell ?_ (by first | omega | (simp; done) | (simp; omega)) _))
  · have HC := Lib.hid (h.below ((Below.refl _ _).alloc (Nat.le_refl _) (.cells #[] 2))).cellsAt
    have HL := Lib.hid hl
    clear h hl
    go_enter Try.func102, Try.ntmps102
    go_wp2_with (at_builtin; refine wpList_append_own _ rfl _ _ 24 rfl w.heap.size 2 i0 (.int .i64 0) 1 8 Try.underlying24 hi hi0 hi1 hi2 rfl (by decide) _ 0 [] rfl (ownI_empty _ _ (Nat.le_refl _)) ad len _ (zs.map (Value.int .i64)) rfl ?c0 ?c1 ?c2 ?c3 ?c4 ?c5 ?_)
    case c0 => rw [List.length_map, HL.out, Nat.mul_one]
    case c1 => exact HC.out
    case c2 => intro u hu; obtain ⟨n, _, rfl⟩ := List.mem_map.1 hu; rfl
    case c3 => unfold maxLen; omega
    case c4 => omega
    case c5 => simp
    intro v' w1 hown1 hgrow1 _
    have hO1 : Hid (OwnI w1 w.heap.size v' zs) := Lib.hid (by
      unfold OwnI
      rw [HL.out]
      simpa using hown1)
    have hB1 : Hid (Below w.heap.size w w1) := Lib.hid (below_append (by repeat (first | exact Below.refl _ _ | assumption | refine Below.drew ?_ | refine below_drewN ?_ _ | refine Below.alloc ?_ (by first | omega | (simp; done) | (simp; omega)) _ | refine Below.setCell ?_ (by first | omega | (simp; done) | (simp; omega)) _)) (ownI_empty _ _ (Nat.le_refl _)) hgrow1)
    clear hown1 hgrow1
    go_wp2
    go_ret
    exact newL_mk hO1.out hB1.out
end Go.Proofs.Ytklhaanapembdaa
/- Contract of slices.Clone at []int64: a new slice with the same elements; no old memory turns; the source is not nil. -/
namespace Go.Proofs.Ytklhaanapembdaa
open Go.RowKit
theorem eql_nil (w : World) (a : Option Addr) (n c n' c' : Nat) : (binOp .eql 24 (.slice a n c) (.slice none n' c')).run Try.prog w = .ok (.bool a.isNone) w := Lib.run_eql_slice_nil w _ _ a n c n' c' Try.underlying24
set_option maxHeartbeats 1000000 in
theorem clone_any (b o : Nat) (len cap : Nat) (zs : List Int) (w : World) (h : IsRow .i64 w (some ⟨b, o, none⟩) len cap zs) (hlen : len ≤ 1048576) :
    Calls Try.prog 70 #[.slice (some ⟨b, o, none⟩) len cap] w (NewL w zs) := by
  have hl := h.1
  obtain ⟨i0, hi, hi0, hi1, hi2⟩ := info_parts info_i64
  have HC := Lib.hid (h.below ((Below.refl _ _).alloc (Nat.le_refl _) (.cells #[] 2))).cellsAt
  have HL := Lib.hid hl
  have q22 := eql_nil
  clear h hl
  go_enter Try.func70, Try.ntmps70
  go_wp2_with (at_builtin; refine wpList_append_own _ rfl _ _ 24 rfl w.heap.size 2 i0 (.int .i64 0) 1 8 Try.underlying24 hi hi0 hi1 hi2 rfl (by decide) _ 0 [] rfl (ownI_empty _ _ (Nat.le_refl _)) ⟨b, o, none⟩ len _ (zs.map (Value.int .i64)) rfl ?c0 ?c1 ?c2 ?c3 ?c4 ?c5 ?_)
  case c0 => rw [List.length_map, HL.out, Nat.mul_one]
  case c1 => exact HC.out
  case c2 => intro u hu; obtain ⟨n, _, rfl⟩ := List.mem_map.1 hu; rfl
  case c3 => unfold maxLen; omega
  case c4 => omega
  case c5 => simp
  intro v' w1 hown1 hgrow1 _
  have hO1 : Hid (OwnI w1 w.heap.size v' zs) := Lib.hid (by
    unfold OwnI
    rw [HL.out]
    simpa using hown1)
  have hB1 : Hid (Below w.heap.size w w1) := Lib.hid (below_append (by repeat (first | exact Below.refl _ _ | assumption | refine Below.drew ?_ | refine below_drewN ?_ _ | refine Below.alloc ?_ (by first | omega | (simp; done) | (simp; omega)) _ | refine Below.setCell ?_ (by first | omega | (simp; done) | (simp; omega)) _)) (ownI_empty _ _ (Nat.le_refl _)) hgrow1)
  clear hown1 hgrow1
  go_wp2
  go_ret
  exact newL_mk hO1.out hB1.out
end Go.Proofs.Ytklhaanapembdaa
