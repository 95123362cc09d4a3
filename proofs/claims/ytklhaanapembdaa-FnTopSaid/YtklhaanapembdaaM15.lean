/- The plain law of WhyNot: which conditions forbid every line, by the program and by the reference; what a call hands back that has two new slices. -/
import Derived.Test.YtklhaanapembdaaM10
import Derived.Test.YtklhaanapembdaaM14
import Derived.Test.YtklhaanapembdaaM01

namespace Go.Proofs.Ytklhaanapembdaa
open Go.RowKit

/-- The joints of a condition. -/
def jl (c : Cnd) : List Int := [c.j, c.k, c.p, c.q]
theorem jl_len (c : Cnd) : (jl c).length = 4 := rfl
/-- The code, and the two lists. -/
def wnC (ls lo hi : List Int) : Int := if blkB ls lo hi = true then (if standB (bfind ls lo hi) = true then 6 else 0) else 1
def wnL (ls lo hi : List Int) : List Int :=
  if blkB ls lo hi = true ∧ standB (bfind ls lo hi) = false ∧ (bfind ls lo hi).hn = false ∧ (bfind ls lo hi).high.a < 0 then jl (bfind ls lo hi).low else []
def wnH (ls lo hi : List Int) : List Int :=
  if blkB ls lo hi = true ∧ standB (bfind ls lo hi) = false then (if (bfind ls lo hi).hn = true then jl (bfind ls lo hi).never else jl (bfind ls lo hi).high) else []
theorem wnL_len (ls lo hi : List Int) : (wnL ls lo hi).length ≤ 1000000 := by unfold wnL; split <;> simp [jl]
theorem wnH_len (ls lo hi : List Int) : (wnH ls lo hi).length ≤ 1000000 := by unfold wnH; split <;> (try split) <;> simp [jl]
theorem wn_bad {ls lo hi : List Int} (h : blkB ls lo hi = false) : wnC ls lo hi = 1 ∧ wnL ls lo hi = [] ∧ wnH ls lo hi = [] := by simp [wnC, wnL, wnH, h]
theorem wn_stand {ls lo hi : List Int} (h : blkB ls lo hi = true) (h2 : standB (bfind ls lo hi) = true) : wnC ls lo hi = 6 ∧ wnL ls lo hi = [] ∧ wnH ls lo hi = [] := by simp [wnC, wnL, wnH, h, h2]
theorem wn_never {ls lo hi : List Int} (h : blkB ls lo hi = true) (h2 : standB (bfind ls lo hi) = false) (h3 : (bfind ls lo hi).hn = true) : wnC ls lo hi = 0 ∧ wnL ls lo hi = [] ∧ wnH ls lo hi = jl (bfind ls lo hi).never := by simp [wnC, wnL, wnH, h, h2, h3]
theorem wn_high {ls lo hi : List Int} (h : blkB ls lo hi = true) (h2 : standB (bfind ls lo hi) = false) (h3 : (bfind ls lo hi).hn = false) (h4 : ¬ (bfind ls lo hi).high.a < 0) : wnC ls lo hi = 0 ∧ wnL ls lo hi = [] ∧ wnH ls lo hi = jl (bfind ls lo hi).high := by simp [wnC, wnL, wnH, h, h2, h3, h4]
theorem wn_both {ls lo hi : List Int} (h : blkB ls lo hi = true) (h2 : standB (bfind ls lo hi) = false) (h3 : (bfind ls lo hi).hn = false) (h4 : (bfind ls lo hi).high.a < 0) : wnC ls lo hi = 0 ∧ wnL ls lo hi = jl (bfind ls lo hi).low ∧ wnH ls lo hi = jl (bfind ls lo hi).high := by simp [wnC, wnL, wnH, h, h2, h3, h4]
/-- Where an arch falls by two conditions, there is a lower bound, and it is positive. -/
theorem both_low {S : Bnds} (hg : goodS S) (hh : S.hh = true) (h2 : standB S = false) (h3 : S.hn = false) (h4 : S.high.a < 0) : S.hl = true ∧ 0 < S.low.a ∧ 0 < S.low.b := by
  unfold standB at h2
  rw [h3, hh, decide_eq_true h4] at h2
  simp only [Bool.not_false, Bool.or_true, Bool.and_true, Bool.true_and, Bool.not_eq_false', Bool.and_eq_true] at h2
  obtain ⟨hl, hx⟩ := h2
  have hb := (hg.1 hl).1
  refine ⟨hl, ?_, hb⟩
  by_cases k : 0 < S.low.a
  · exact k
  · replace k : S.low.a ≤ 0 := by omega
    rw [less_up' (hg.2.1 hh).1 hb h4 k] at hx; cases hx
/-- A call that hands back two new slices of integers and a code: their arrays lie in two stretches, apart. -/
def New2 (w : World) (z1 z2 : List Int) (code : Int) (e : Ending) (w' : World) : Prop :=
  ∃ a1 c1 a2 c2 b1 t1 b2 t2, e = .returned (.tuple #[.slice a1 z1.length c1, .slice a2 z2.length c2, .int .i64 code]) ∧ OwnT w' b1 t1 (.slice a1 z1.length c1) z1 ∧ OwnT w' b2 t2 (.slice a2 z2.length c2) z2 ∧ w.heap.size ≤ b1 ∧ w.heap.size ≤ b2 ∧ t1 ≤ w'.heap.size ∧ t2 ≤ w'.heap.size ∧ (t1 ≤ b2 ∨ t2 ≤ b1) ∧ Below w.heap.size w w'
theorem new2_mk {w w1 w' : World} {v1 v2 : Value} {z1 z2 : List Int} {code : Int} (h1 : OwnI w1 w.heap.size v1 z1) (h2 : OwnI w' w1.heap.size v2 z2) (hb : Below w.heap.size w w1) (hb1 : Below w1.heap.size w1 w') : New2 w z1 z2 code (.returned (.tuple #[v1, v2, .int .i64 code])) w' := by
  obtain ⟨a1, c1, rfl⟩ := h1.shape
  obtain ⟨a2, c2, rfl⟩ := h2.shape
  exact ⟨a1, c1, a2, c2, w.heap.size, w1.heap.size, w1.heap.size, w'.heap.size, rfl, h1.toT.below hb1, h2.toT, Nat.le_refl _, hb.size, hb1.size, Nat.le_refl _, .inl (Nat.le_refl _), below_call hb hb1⟩
theorem new2_mk' {w w1 w' : World} {v1 v2 : Value} {z1 z2 : List Int} {code : Int} (h2 : OwnI w1 w.heap.size v2 z2) (h1 : OwnI w' w1.heap.size v1 z1) (hb : Below w.heap.size w w1) (hb1 : Below w1.heap.size w1 w') : New2 w z1 z2 code (.returned (.tuple #[v1, v2, .int .i64 code])) w' := by
  obtain ⟨a1, c1, rfl⟩ := h1.shape
  obtain ⟨a2, c2, rfl⟩ := h2.shape
  exact ⟨a1, c1, a2, c2, w1.heap.size, w'.heap.size, w.heap.size, w1.heap.size, rfl, h1.toT, h2.toT.below hb1, hb.size, Nat.le_refl _, Nat.le_refl _, hb1.size, .inr (Nat.le_refl _), below_call hb hb1⟩
theorem New2.toldT {w w' : World} {z1 z2 : List Int} {code : Int} {e : Ending} {n1 n2 : Nat} (h : New2 w z1 z2 code e w') (h1 : z1.length = n1) (h2 : z2.length = n2) :
    ∃ a1 c1 a2 c2 b1 t1 b2 t2, e = .returned (.tuple #[.slice a1 n1 c1, .slice a2 n2 c2, .int .i64 code]) ∧ OwnT w' b1 t1 (.slice a1 n1 c1) z1 ∧ OwnT w' b2 t2 (.slice a2 n2 c2) z2 ∧ w.heap.size ≤ b1 ∧ w.heap.size ≤ b2 ∧ t1 ≤ w'.heap.size ∧ t2 ≤ w'.heap.size ∧ (t1 ≤ b2 ∨ t2 ≤ b1) ∧ Below w.heap.size w w' := by
  subst h1 h2; exact h
/-- Four cells, one after the other, are a slice of four. -/
theorem row4 {w : World} {b o : Nat} {x0 x1 x2 x3 : Int} (hb : b < w.heap.size) (h0 : w.cell? ⟨b, o, none⟩ = some (.int .i64 x0)) (h1 : w.cell? ⟨b, o + 1, none⟩ = some (.int .i64 x1)) (h2 : w.cell? ⟨b, o + 2, none⟩ = some (.int .i64 x2)) (h3 : w.cell? ⟨b, o + 3, none⟩ = some (.int .i64 x3)) :
    IsRow .i64 w (some ⟨b, o, none⟩) 4 4 [x0, x1, x2, x3] := by
  refine ⟨rfl, Nat.le_refl _, by unfold maxLen; omega, (fun h => by cases h), fun _ => ⟨b, o, rfl, hb, fun i n hi => ?_⟩⟩
  match i, hi with
  | 0, hi => injection hi with hi; subst hi; exact h0
  | 1, hi => injection hi with hi; subst hi; exact h1
  | 2, hi => injection hi with hi; subst hi; exact h2
  | 3, hi => injection hi with hi; subst hi; exact h3
  | i + 4, hi => simp at hi
end Go.Proofs.Ytklhaanapembdaa
/- Contracts of the reference's small source of choices (l00From, next, pick and what is built on them): which numbers may come, and that only the source's own block turns; no condition beyond the bytes that are read. -/
namespace Go.Proofs.Ytklhaanapembdaa
open Go.RowKit

/-- A source lies in block b: it reads the bytes zs, which lie in another block; at most N numbers have been drawn. -/
def Src (w : World) (b : Nat) (a : Option Addr) (len cap : Nat) (zs : List Int) (N : Int) : Prop :=
  IsRow .u8 w a len cap zs ∧ (0 < len → ∀ x, a = some x → x.block ≠ b) ∧ ∃ i sd : Int, 0 ≤ i ∧ i ≤ N ∧ w.heap[b]? = some (.cells #[.slice a len cap, .int .i64 i, .int .u64 sd] 130 (0, 0))
/-- The source's two stores. -/
theorem src_store {w : World} {b : Nat} {t : TypeId} {c0 c1 c2 u v : Value} (h : w.heap[b]? = some (.cells #[c0, c1, c2] t (0, 0))) :
    ((w.setCell ⟨b, 1, none⟩ u).setCell ⟨b, 2, none⟩ v).heap[b]? = some (.cells #[c0, u, v] t (0, 0)) := by
  simp [World.setCell, Array.getElem?_modify, h]
theorem grown_store {a w : World} {b : Nat} (h : a.grownBy w (some b)) (o : Nat) (u : Value) : a.grownBy (w.setCell ⟨b, o, none⟩ u) (some b) :=
  ⟨h.os, h.tape, h.output, by simpa [World.setCell] using h.size, fun i hi hne => (Below.heap_setCell w ⟨b, o, none⟩ u i (fun e => hne (by rw [e]))).trans (h.block i hi hne)⟩
theorem grown_drewN {a w : World} {r : Option Nat} (h : a.grownBy w r) (n : Nat) : a.grownBy (w.drewN n) r := ⟨h.os, h.tape, h.output, h.size, h.block⟩
theorem grown_drew {a w : World} {r : Option Nat} (h : a.grownBy w r) : a.grownBy w.drew r := ⟨h.os, h.tape, h.output, h.size, h.block⟩
theorem IsRow.grown {k : IntKind} {w w' : World} {a : Option Addr} {len cap b : Nat} {zs : List Int} (h : IsRow k w a len cap zs) (hne : 0 < len → ∀ x, a = some x → x.block ≠ b) (hg : w.grownBy w' (some b)) : IsRow k w' a len cap zs := by
  obtain ⟨h1, h2, h3, h4, h5⟩ := h
  refine ⟨h1, h2, h3, h4, fun h0 => ?_⟩
  obtain ⟨rb, o, ha, hlt, hc⟩ := h5 h0
  exact ⟨rb, o, ha, Nat.lt_of_lt_of_le hlt hg.size, fun i n hi => hg.cell (hc i n hi) (fun e => hne h0 _ ha (by injection e))⟩
theorem byteOf (X : Int) : 0 ≤ wrap64 (bits BinOp.and IntKind.u64 (IntKind.u64.wrap X / 1099511627776) 255) ∧ wrap64 (bits BinOp.and IntKind.u64 (IntKind.u64.wrap X / 1099511627776) 255) < 256 := by
  have h1 : 0 ≤ IntKind.u64.wrap X := wrap_u64_nonneg X
  have h2 : IntKind.u64.wrap X < 18446744073709551616 := by rw [IntKind.wrap_u64]; omega
  rw [u64_and _ 255 (by omega) (by omega) (by omega) (by omega)]
  have h3 : (IntKind.u64.wrap X / 1099511627776).toNat &&& (255 : Int).toNat ≤ 255 := Nat.and_le_right
  generalize (IntKind.u64.wrap X / 1099511627776).toNat &&& (255 : Int).toNat = n at *
  rw [IntWalk.wrap64_in _ ⟨by omega, by omega⟩]
  omega
/-- What a drawn number's call leaves. -/
def Drew (w : World) (b : Nat) (a : Option Addr) (len cap : Nat) (zs : List Int) (N M : Int) (e : Ending) (w' : World) : Prop :=
  ∃ r : Int, e = .returned (.int .i64 r) ∧ 0 ≤ r ∧ r < M ∧ Src w' b a len cap zs N ∧ w.grownBy w' (some b)
theorem drew_mk {w : World} {b : Nat} {a : Option Addr} {len cap : Nat} {zs : List Int} {N M i sd : Int} {n m : Nat} {u : Value} (hr : IsRow .u8 w a len cap zs) (hne : 0 < len → ∀ x, a = some x → x.block ≠ b) (hb : w.heap[b]? = some (.cells #[.slice a len cap, .int .i64 i, u] 130 (0, 0)))
    {r j : Int} (h0 : 0 ≤ r) (h1 : r < M) (hj0 : 0 ≤ j) (hj1 : j ≤ N) :
    Drew w b a len cap zs N M (.returned (.int .i64 r)) ((((w.drewN n).setCell ⟨b, 1, none⟩ (.int .i64 j)).setCell ⟨b, 2, none⟩ (.int .u64 sd)).drewN m) := by
  have hg : w.grownBy ((((w.drewN n).setCell ⟨b, 1, none⟩ (.int .i64 j)).setCell ⟨b, 2, none⟩ (.int .u64 sd)).drewN m) (some b) := grown_drewN (grown_store (grown_store (grown_drewN (World.grownBy.refl _ _) _) _ _) _ _) _
  exact ⟨r, rfl, h0, h1, ⟨hr.grown hne hg, hne, j, sd, hj0, hj1, src_store (w := w.drewN n) hb⟩, hg⟩
set_option maxHeartbeats 1000000 in
theorem next_any (b : Nat) (a : Option Addr) (len cap : Nat) (zs : List Int) (N : Int) (w : World) (h : Src w b a len cap zs N) (hN : N ≤ 1000000000) :
    Calls Try.prog 114 #[.pointer (some ⟨b, 0, none⟩)] w (Drew w b a len cap zs (N + 1) 256) := by
  obtain ⟨hr, hne, i, sd, hi0, hi1, hb⟩ := h
  have c0 := cellOf hb 0
  have c1 := cellOf hb 1
  have c2 := cellOf hb 2
  have f1 := frozenOf hb 1
  have f2 := frozenOf hb 2
  simp at c0 c1 c2
  have hcap := hr.2.2.1
  unfold maxLen at hcap
  have hlc := hr.2.1
  by_cases hlt : i < len
  · obtain ⟨k, rfl⟩ := Int.eq_ofNat_of_zero_le hi0
    obtain ⟨rb, ro, ha, hrb, hc⟩ := hr.cell (i := k) (by omega)
    obtain ⟨u1, u2⟩ := hr.u8 k
    generalize zs.getD k 0 = x at *
    have HP := fun (n m : Nat) (sd : Int) => Lib.hid (drew_mk (n := n) (m := m) (sd := sd) (N := N + 1) (M := 256) (r := x) (j := (k : Int) + 1) hr hne hb (by omega) (by omega) (by omega) (by omega))
    subst ha
    have hnb := hne (by omega) _ rfl
    simp at hnb
    clear hne hr hb
    go_enter Try.func114, Try.ntmps114
    go_wp2
    go_quiet (fail)
    go_wp2
    go_quiet (fail)
    go_wp2
    go_quiet (fail)
    go_wp2
    go_ret
    exact (HP _ _ _).out
  · have HP := fun (n m : Nat) (r sd : Int) h0 h1 => Lib.hid (drew_mk (n := n) (m := m) (sd := sd) (N := N + 1) (M := 256) (r := r) (j := i + 1) hr hne hb h0 h1 (by omega) (by omega))
    clear hr hb hne
    go_enter Try.func114, Try.ntmps114
    go_wp2
    go_quiet (fail)
    go_wp2
    go_quiet (fail)
    go_wp2
    go_ret
    exact (HP _ _ _ _ (byteOf _).1 (byteOf _).2).out
/-- One draw, then another: what the second leaves, seen from before the first. -/
theorem grown_trans {a w w' : World} {r : Option Nat} (h : a.grownBy w r) (k : w.grownBy w' r) : a.grownBy w' r :=
  ⟨k.os.trans h.os, k.tape.trans h.tape, k.output.trans h.output, Nat.le_trans h.size k.size, fun i hi hne => (k.block i (Nat.lt_of_lt_of_le hi h.size) hne).trans (h.block i hi hne)⟩
set_option maxHeartbeats 1000000 in
theorem pick_any (b : Nat) (a : Option Addr) (len cap : Nat) (zs : List Int) (N n : Int) (w : World) (h : Src w b a len cap zs N) (hN : N ≤ 1000000) (hn : 1 ≤ n) (hn' : n ≤ 1000000000) :
    Calls Try.prog 78 #[.pointer (some ⟨b, 0, none⟩), .int .i64 n] w (Drew w b a len cap zs (N + 2) n) := by
  by_cases h1 : n ≤ 1
  · have HP : Hid (Drew w b a len cap zs (N + 2) n (.returned (.int .i64 0)) w) := by
      obtain ⟨hr, hne, i, sd, hi0, hi1, hb⟩ := h
      exact ⟨0, rfl, by omega, by omega, ⟨hr, hne, i, sd, hi0, by omega, hb⟩, World.grownBy.refl _ _⟩
    clear h
    go_enter Try.func78, Try.ntmps78
    go_wp2
    go_ret
    exact HP.out
  · by_cases h2 : 200 < n
    · have H1 := Lib.hid (next_any b a len cap zs N w h (by omega))
      go_enter Try.func78, Try.ntmps78
      go_wp2_with fail
      refine H1.out.mono ?_
      rintro e1 w1 ⟨r1, rfl, r10, r11, hs1, hg1⟩
      have H2 := Lib.hid (next_any b a len cap zs (N + 1) w1 hs1 (by omega))
      go_wp2_with fail
      refine H2.out.mono ?_
      rintro e2 w2 ⟨r2, rfl, r20, r21, hs2, hg2⟩
      have HP : Hid (∀ x : Int, 0 ≤ x → x < n → Drew w b a len cap zs (N + 2) n (.returned (.int .i64 x)) w2) := fun x h0 h1 =>
        ⟨x, rfl, h0, h1, by rw [show N + 1 + 1 = N + 2 by omega] at hs2; exact hs2, grown_trans hg1 hg2⟩
      go_wp2
      go_ret
      exact HP.out _ (Int.emod_nonneg _ (by omega)) (Int.emod_lt_of_pos _ (by omega))
    · have H1 := Lib.hid (next_any b a len cap zs N w h (by omega))
      go_enter Try.func78, Try.ntmps78
      go_wp2_with fail
      refine H1.out.mono ?_
      rintro e1 w1 ⟨r1, rfl, r10, r11, hs1, hg1⟩
      have HP : Hid (∀ x : Int, 0 ≤ x → x < n → Drew w b a len cap zs (N + 2) n (.returned (.int .i64 x)) w1) := fun x h0 h1 => by
        obtain ⟨hr, hne, i, sd, hi0, hi1, hb⟩ := hs1
        exact ⟨x, rfl, h0, h1, ⟨hr, hne, i, sd, hi0, by omega, hb⟩, hg1⟩
      go_wp2
      go_ret
      exact HP.out _ (Int.emod_nonneg _ (by omega)) (Int.emod_lt_of_pos _ (by omega))

/-- What is new above w, and a change to a block that is itself new, leave w as it was. -/
theorem below_of_grown {a w w' : World} {b : Nat} (h : Below a.heap.size a w) (hg : w.grownBy w' (some b)) (hb : a.heap.size ≤ b) : Below a.heap.size a w' :=
  h.grown hg h.size (fun k e => by injection e with e; omega)

theorem grown_alloc {a w : World} {r : Option Nat} (h : a.grownBy w r) (o : Obj) : a.grownBy (w.alloc o) r := grown_trans h (World.grownBy_alloc _ _ _)
theorem grown_new {a w : World} {r : Option Nat} (h : a.grownBy w r) {p : Addr} (hp : a.heap.size ≤ p.block) (u : Value) : a.grownBy (w.setCell p u) r :=
  ⟨h.os, h.tape, h.output, by simpa [World.setCell] using h.size, fun i hi hne => (Below.heap_setCell w p u i (by omega)).trans (h.block i hi hne)⟩

set_option maxHeartbeats 400000 in
theorem l00From_any (a : Option Addr) (len cap : Nat) (w : World) :
    Calls Try.prog 63 #[.slice a len cap] w fun e w' => e = .returned (.pointer (some ⟨w.heap.size, 0, none⟩)) ∧ w.alloc (.cells #[.slice a len cap, .int .i64 0, .int .u64 0] 130) = w' := by
  go_enter Try.func63, Try.ntmps63
  go_wp2
  go_ret
  exact ⟨rfl, rfl⟩
theorem src_new {a : Option Addr} {len cap : Nat} {zs : List Int} {w : World} (h : IsRow .u8 w a len cap zs) :
    Src (w.alloc (.cells #[.slice a len cap, .int .i64 0, .int .u64 0] 130)) w.heap.size a len cap zs 0 := by
  refine ⟨h.below ((Below.refl _ _).alloc (Nat.le_refl _) _), fun h0 x hx => ?_, 0, 0, by omega, by omega, blk_new _ _⟩
  obtain ⟨b, o, ha, hb, _⟩ := h.2.2.2.2 h0
  rw [ha] at hx
  injection hx with hx
  subst hx
  simp; omega
theorem src_new' {a : Option Addr} {len cap n : Nat} {zs : List Int} {w : World} (h : IsRow .u8 w a len cap zs) (hn : n = w.heap.size) :
    Src (w.alloc (.cells #[.slice a len cap, .int .i64 0, .int .u64 0] 130)) n a len cap zs 0 := hn ▸ src_new h
theorem Src.alloc {w : World} {b : Nat} {a : Option Addr} {len cap : Nat} {zs : List Int} {N : Int} (h : Src w b a len cap zs N) (o : Obj) : Src (w.alloc o) b a len cap zs N := by
  obtain ⟨hr, hne, i, sd, h0, h1, hb⟩ := h
  exact ⟨hr.below ((Below.refl _ _).alloc (Nat.le_refl _) _), hne, i, sd, h0, h1, blk_alloc hb⟩
theorem Src.lt {w : World} {b : Nat} {a : Option Addr} {len cap : Nat} {zs : List Int} {N : Int} (h : Src w b a len cap zs N) : b < w.heap.size := by
  obtain ⟨_, _, i, sd, _, _, hb⟩ := h; exact blk_lt hb
theorem Src.row_ne {w : World} {b : Nat} {a : Option Addr} {len cap : Nat} {zs : List Int} {N : Int} (h : Src w b a len cap zs N) (h0 : 0 < len) : ∀ x, a = some x → x.block ≠ b ∧ x.block < w.heap.size := by
  obtain ⟨hr, hne, _⟩ := h
  intro x hx
  obtain ⟨rb, o, ha, hb, _⟩ := hr.2.2.2.2 h0
  refine ⟨hne h0 x hx, ?_⟩
  rw [ha] at hx
  injection hx with hx
  subst hx
  exact hb
/-- A store into a block that is neither the source's nor the bytes' own. -/
theorem Src.setCell {w : World} {b : Nat} {a : Option Addr} {len cap : Nat} {zs : List Int} {N : Int} (h : Src w b a len cap zs N) {p : Addr} (hp : p.block ≠ b) (hq : 0 < len → ∀ x, a = some x → x.block ≠ p.block) (u : Value) : Src (w.setCell p u) b a len cap zs N := by
  obtain ⟨hr, hne, i, sd, h0, h1, hb⟩ := h
  refine ⟨?_, hne, i, sd, h0, h1, blk_far hb (fun e => hp e.symm) u⟩
  obtain ⟨g1, g2, g3, g4, g5⟩ := hr
  refine ⟨g1, g2, g3, g4, fun hl => ?_⟩
  obtain ⟨rb, o, ha, hlt, hc⟩ := g5 hl
  refine ⟨rb, o, ha, by simpa [World.setCell] using hlt, fun i n hi => ?_⟩
  have := hq hl _ ha
  rw [World.cell?_setCell_other _ _ _ _ (fun e => this (by rw [e]))]
  exact hc i n hi
end Go.Proofs.Ytklhaanapembdaa
