/- Moves of a walk through a drawn region, by hand: an operation is named by its number and taken as it is written out; no function of the program is named. -/
import Derived.Test.YtklhaanapembdaaBase
import Derived.Test.YtklhaanapembdaaM14
import Derived.Test.YtklhaanapembdaaCond

namespace Go.Proofs.Ytklhaanapembdaa
set_option linter.unusedVariables false
set_option linter.unusedSimpArgs false
open Go.RowKit
def nthOp : List Oper → Nat → Option Oper
  | [], _ => none
  | x :: _, 0 => some x
  | _ :: l, n + 1 => nthOp l n
theorem nthOp_eq : ∀ (l : List Oper) (i : Nat), nthOp l i = l[i]?
  | [], _ => by simp [nthOp]
  | _ :: _, 0 => rfl
  | _ :: l, n + 1 => by simp [nthOp, nthOp_eq l n]
theorem nthOp_arr {ops : Array Oper} {i : Nat} {o : Oper} (h : nthOp ops.toList i = some o) : ops[i]? = some o := by
  rw [nthOp_eq] at h
  simpa using h
section
variable {P : Program} {md : Region.Mode} {ops : Array Oper} {Q : Exit → Act → World → Prop} {S : World → Prop}
theorem take1 (i : Nat) {oi : Oper} {v : Value} {fuel : Nat} {listed : Array Bool} {a : Act} {w : World} (hi : nthOp ops.toList i = some oi)
    (hs : Region.noSelect ops = true) (hf : Region.free md ops listed i = true) (hr : (Region.ready md ops listed).contains i = true)
    (hQ : ∀ c a w, Q (.panic c) (a.put oi.dst v) w → Q (.panic c) a w) (hw : Region.wanted oi (yielded ops a.tmps) = true) (hy : ∀ w, S w → (execOp a.eval oi).run P w = .ok (.value v) w) (hS : S w)
    (h : wpAnyH P md ops Q S fuel (listed.setIfInBounds i true) (a.put oi.dst v) w) : wpAnyH P md ops Q S (fuel + 1) listed a w :=
  wpAnyH_take (nthOp_arr hi) hs hf hr hQ (.inl ⟨hw, hy⟩) hS h
theorem skip1 (i : Nat) {oi : Oper} {fuel : Nat} {listed : Array Bool} {a : Act} {w : World} (hi : nthOp ops.toList i = some oi)
    (hs : Region.noSelect ops = true) (hf : Region.free md ops listed i = true) (hr : (Region.ready md ops listed).contains i = true)
    (hQ : ∀ c a w, Q (.panic c) (a.put oi.dst undef) w → Q (.panic c) a w) (hw : Region.wanted oi (yielded ops a.tmps) = false) (hS : S w)
    (h : wpAnyH P md ops Q S fuel (listed.setIfInBounds i true) (a.put oi.dst undef) w) : wpAnyH P md ops Q S (fuel + 1) listed a w :=
  wpAnyH_take (nthOp_arr hi) hs hf hr hQ (.inr ⟨hw, rfl⟩) hS h
theorem comes1 (i : Nat) {o : Oper} {fuel : Nat} {listed : Array Bool} {a : Act} {w : World} (ho : nthOp ops.toList i = some o) (hr : Region.ready md ops listed = [i])
    (h : ∀ K' : Act → World → Prop, Shut (∀ a w, S w → (S w → wpAnyH P md ops Q S fuel (listed.setIfInBounds i true) a w) → K' a w) → if Region.wanted o (yielded ops a.tmps) = true then Oper.wp P o a w K' Q else K' (a.put o.dst undef) w) :
    wpAnyH P md ops Q S (fuel + 1) listed a w :=
  wpAnyH_ready hr (by simp) (AllReadyH.cons (nthOp_arr ho) h AllReadyH.nil)
end
end Go.Proofs.Ytklhaanapembdaa
/- Contracts of areJoints and l13Four: whether a list are four joints of a condition; no old memory turns; condition: the lists can be read. -/
namespace Go.Proofs.Ytklhaanapembdaa
set_option linter.unusedVariables false
set_option linter.unusedSimpArgs false
open Go.RowKit

theorem fourB_len {z : List Int} {n : Int} (h : z.length ≠ 4) : fourB z n = false := by simp [fourB, h]
theorem fourB_ins {z : List Int} {n : Int} (h : insB z 0 n = false) : fourB z n = false := by simp [fourB, h]
theorem fourB_1 {z : List Int} {n : Int} (h : ¬ z.getD 1 0 < z.getD 0 0) : fourB z n = false := by unfold fourB; rw [decide_eq_false h]; simp
theorem fourB_2 {z : List Int} {n : Int} (h : ¬ z.getD 2 0 < z.getD 3 0) : fourB z n = false := by unfold fourB; rw [decide_eq_false h]; simp
theorem fourB_mk {z : List Int} {n : Int} (h1 : z.length = 4) (h2 : insB z 0 n = true) (h3 : z.getD 1 0 < z.getD 0 0) (h4 : z.getD 2 0 < z.getD 3 0) : fourB z n = true := by
  unfold fourB; rw [decide_eq_true h1, h2, decide_eq_true h3, decide_eq_true h4]; rfl
set_option maxRecDepth 100000 in
set_option maxHeartbeats 4000000 in
theorem areJoints_any (a0 a1 a2 : Option Addr) (n0 c0 n1 c1 n2 c2 : Nat) (ls lo hi : List Int) (a3 : Option Addr) (n3 c3 : Nat) (z : List Int) (w : World) (h1 : lo.length = n1) (h2 : n1 ≤ 11) (hz : IsRow .i64 w a3 n3 c3 z) :
    Calls Try.prog 71 #[.agg #[.slice a0 n0 c0, .slice a1 n1 c1, .slice a2 n2 c2], .slice a3 n3 c3] w fun e w' => e = .returned (.bool (fourB z ((n1 : Int) - 1))) ∧ Below w.heap.size w w' := by
  have HZ := Lib.hid hz
  have l3 := hz.1
  have hm3 : n3 ≤ maxLen := Nat.le_trans hz.2.1 hz.2.2.1
  unfold maxLen at hm3
  have HOU := Lib.hid (fun W hW => outside_any a3 n3 c3 z 0 ((n1 : Int) - 1) W hW)
  by_cases hn : n3 = 4
  · obtain ⟨b3, o3, rfl, t3⟩ := hz.addr (by omega)
    have d0 := hz.same (i := 0) (by omega)
    have d1 := hz.same (i := 1) (by omega)
    have d2 := hz.same (i := 2) (by omega)
    have d3 := hz.same (i := 3) (by omega)
    have T1 : decide ((n3 : Int) = 4) = true := decide_eq_true (by omega)
    have T2 : ((n3 : Int) == 4) = true := by simp; omega
    have T3 : (n3 : Int) = 4 ↔ True := by simp; omega
    have T4 : n3 = 4 ↔ True := by simp [hn]
    have T5 : decide (n3 = 4) = true := decide_eq_true hn
    have q1 : (0 : Int) < (n3 : Int) := by omega
    have q2 : (1 : Int) < (n3 : Int) := by omega
    have q3 : (2 : Int) < (n3 : Int) := by omega
    have q4 : (3 : Int) < (n3 : Int) := by omega
    have q5 : 0 < n3 := by omega
    have q6 : 1 < n3 := by omega
    have q7 : 2 < n3 := by omega
    have q8 : 3 < n3 := by omega
    have HL := Lib.hid (show z.length = 4 by omega)
    have hw1 := IntWalk.i64_in ((n1 : Int) - 1) (by omega)
    have HF1 := Lib.hid (@fourB_ins z ((n1 : Int) - 1))
    have HF2 := Lib.hid (@fourB_1 z ((n1 : Int) - 1))
    have HF3 := Lib.hid (@fourB_2 z ((n1 : Int) - 1))
    have HF4 := Lib.hid (@fourB_mk z ((n1 : Int) - 1) HL.out)
    generalize z.getD 0 0 = x0 at *
    generalize z.getD 1 0 = x1 at *
    generalize z.getD 2 0 = x2 at *
    generalize z.getD 3 0 = x3 at *
    rw [Nat.add_zero] at d0
    clear hn hz h1 h2 l3
    have y : insB z 0 ((n1 : Int) - 1) = false ∨ (insB z 0 ((n1 : Int) - 1) = true ∧ decide (x1 < x0) = false) ∨ (insB z 0 ((n1 : Int) - 1) = true ∧ decide (x1 < x0) = true ∧ ∃ B, decide (x2 < x3) = B) := by
      cases insB z 0 ((n1 : Int) - 1)
      · exact .inl rfl
      · cases h : decide (x1 < x0)
        · exact .inr (.inl ⟨rfl, rfl⟩)
        · exact .inr (.inr ⟨rfl, rfl, _, rfl⟩)
    rcases y with y | ⟨y, y1⟩ | ⟨y, y1, B, y2⟩
    · rw [HF1.out y]
      rw [y] at HOU
      simp only [Bool.not_false, Bool.not_true] at HOU
      clear HF1 HF2 HF3 HF4 y
      go_enter Try.func71, Try.ntmps71
      go_wp2_with fail
      obtain ⟨W, hW⟩ : ∃ W, w.alloc (.cells #[.slice a0 n0 c0, .slice a1 n1 c1, .slice a2 n2 c2] 26) = W := ⟨_, rfl⟩
      have s0 : W.cell? ⟨w.heap.size, 1, none⟩ = some (.slice a1 n1 c1) := by rw [← hW]; simp [go_sem]
      replace d0 := keepA (o := .cells #[.slice a0 n0 c0, .slice a1 n1 c1, .slice a2 n2 c2] 26) d0
      replace d1 := keepA (o := .cells #[.slice a0 n0 c0, .slice a1 n1 c1, .slice a2 n2 c2] 26) d1
      replace d2 := keepA (o := .cells #[.slice a0 n0 c0, .slice a1 n1 c1, .slice a2 n2 c2] 26) d2
      replace d3 := keepA (o := .cells #[.slice a0 n0 c0, .slice a1 n1 c1, .slice a2 n2 c2] 26) d3
      have hB : Below w.heap.size w W := by rw [← hW]; exact (by repeat (first | exact Below.refl _ _ | assumption | refine Below.drew ?_ | refine below_drewN ?_ _ | refine Below.alloc ?_ (by first | omega | (simp; done) | (simp; omega)) _ | refine Below.setCell ?_ (by first | omega | (simp; done) | (simp; omega)) _))
      have hWz := hB.size
      rw [hW] at d0 d1 d2 d3 ⊢
      clear hW
      have q9 : W.drew.cell? ⟨w.heap.size, 1, none⟩ = some (Value.slice a1 n1 c1) ∧ W.drew.cell? ⟨b3, o3, none⟩ = some (Value.int .i64 x0) ∧ W.drew.cell? ⟨b3, o3 + 1, none⟩ = some (Value.int .i64 x1) ∧ W.drew.cell? ⟨b3, o3 + 2, none⟩ = some (Value.int .i64 x2) ∧ W.drew.cell? ⟨b3, o3 + 3, none⟩ = some (Value.int .i64 x3) := ⟨s0, d0, d1, d2, d3⟩
      refine wp_region_held_drew (S := (fun w' => w'.cell? ⟨w.heap.size, 1, none⟩ = some (Value.slice a1 n1 c1) ∧ w'.cell? ⟨b3, o3, none⟩ = some (Value.int .i64 x0) ∧ w'.cell? ⟨b3, o3 + 1, none⟩ = some (Value.int .i64 x1) ∧ w'.cell? ⟨b3, o3 + 2, none⟩ = some (Value.int .i64 x2) ∧ w'.cell? ⟨b3, o3 + 3, none⟩ = some (Value.int .i64 x3))) (by kernel_rfl) (by first | assumption | exact hS0) (fun hHeld => ?_)
      refine take1 (v := ?_) 0 rfl (by kernel_rfl) (by kernel_rfl) (by kernel_rfl) (fun _ _ _ h => h) (by rfl) ?_ (by assumption) ?_
      rotate_left 1
      · (intro w hSw; (try dsimp only at hSw); first | (go_simp; done) | (go_simp; with_reducible rfl))
      try simp only [Act.put, List.setIfInBounds_toArray, List.set_cons_zero, List.set_cons_succ]
      refine take1 (v := ?_) 1 rfl (by kernel_rfl) (by kernel_rfl) (by kernel_rfl) (fun _ _ _ h => h) (by rfl) ?_ (by assumption) ?_
      rotate_left 1
      · (intro w hSw; (try dsimp only at hSw); first | (go_simp; done) | (go_simp; with_reducible rfl))
      try simp only [Act.put, List.setIfInBounds_toArray, List.set_cons_zero, List.set_cons_succ]
      refine take1 (v := ?_) 2 rfl (by kernel_rfl) (by kernel_rfl) (by kernel_rfl) (fun _ _ _ h => h) (by rfl) ?_ (by assumption) ?_
      rotate_left 1
      · (intro w hSw; (try dsimp only at hSw); first | (go_simp; done) | (go_simp; with_reducible rfl))
      try simp only [Act.put, List.setIfInBounds_toArray, List.set_cons_zero, List.set_cons_succ]
      refine take1 (v := ?_) 3 rfl (by kernel_rfl) (by kernel_rfl) (by kernel_rfl) (fun _ _ _ h => h) (by rfl) ?_ (by assumption) ?_
      rotate_left 1
      · (intro w hSw; (try dsimp only at hSw); first | (go_simp; done) | (go_simp; with_reducible rfl))
      try simp only [Act.put, List.setIfInBounds_toArray, List.set_cons_zero, List.set_cons_succ]
      refine take1 (v := ?_) 4 rfl (by kernel_rfl) (by kernel_rfl) (by kernel_rfl) (fun _ _ _ h => h) (by rfl) ?_ (by assumption) ?_
      rotate_left 1
      · (intro w hSw; (try dsimp only at hSw); first | (go_simp; done) | (go_simp; with_reducible rfl))
      try simp only [Act.put, List.setIfInBounds_toArray, List.set_cons_zero, List.set_cons_succ]
      refine take1 (v := ?_) 5 rfl (by kernel_rfl) (by kernel_rfl) (by kernel_rfl) (fun _ _ _ h => h) (by rfl) ?_ (by assumption) ?_
      rotate_left 1
      · (intro w hSw; (try dsimp only at hSw); first | (go_simp; done) | (go_simp; with_reducible rfl))
      try simp only [Act.put, List.setIfInBounds_toArray, List.set_cons_zero, List.set_cons_succ]
      refine take1 (v := ?_) 6 rfl (by kernel_rfl) (by kernel_rfl) (by kernel_rfl) (fun _ _ _ h => h) (by rfl) ?_ (by assumption) ?_
      rotate_left 1
      · (intro w hSw; (try dsimp only at hSw); first | (go_simp; done) | (go_simp; with_reducible rfl))
      try simp only [Act.put, List.setIfInBounds_toArray, List.set_cons_zero, List.set_cons_succ]
      refine take1 (v := ?_) 7 rfl (by kernel_rfl) (by kernel_rfl) (by kernel_rfl) (fun _ _ _ h => h) (by rfl) ?_ (by assumption) ?_
      rotate_left 1
      · (intro w hSw; (try dsimp only at hSw); first | (go_simp; done) | (go_simp; with_reducible rfl))
      try simp only [Act.put, List.setIfInBounds_toArray, List.set_cons_zero, List.set_cons_succ]
      refine take1 (v := ?_) 8 rfl (by kernel_rfl) (by kernel_rfl) (by kernel_rfl) (fun _ _ _ h => h) (by rfl) ?_ (by assumption) ?_
      rotate_left 1
      · (intro w hSw; (try dsimp only at hSw); first | (go_simp; done) | (go_simp; with_reducible rfl))
      try simp only [Act.put, List.setIfInBounds_toArray, List.set_cons_zero, List.set_cons_succ]
      refine comes1 9 rfl (by kernel_rfl) (fun K hK => ?_)
      go_simp
      (go_at_call 74; (with_reducible refine (HOU.out _ (HZ.out.below (by repeat (first | exact Below.refl _ _ | assumption | refine Below.drew ?_ | refine below_drewN ?_ _ | refine Below.alloc ?_ (by first | omega | (simp; done) | (simp; omega)) _ | refine Below.setCell ?_ (by first | omega | (simp; done) | (simp; omega)) _)))).mono ?_); rintro e wx ⟨rfl, hbx⟩; have hS : wx.cell? ⟨w.heap.size, 1, none⟩ = some (Value.slice a1 n1 c1) ∧ wx.cell? ⟨b3, o3, none⟩ = some (Value.int .i64 x0) ∧ wx.cell? ⟨b3, o3 + 1, none⟩ = some (Value.int .i64 x1) ∧ wx.cell? ⟨b3, o3 + 2, none⟩ = some (Value.int .i64 x2) ∧ wx.cell? ⟨b3, o3 + 3, none⟩ = some (Value.int .i64 x3) := ⟨keep1 hbx s0, keep1 hbx d0, keep1 hbx d1, keep1 hbx d2, keep1 hbx d3⟩; have hBx : Below w.heap.size w wx := below_callB (by repeat (first | exact Below.refl _ _ | assumption | refine Below.drew ?_ | refine below_drewN ?_ _ | refine Below.alloc ?_ (by first | omega | (simp; done) | (simp; omega)) _ | refine Below.setCell ?_ (by first | omega | (simp; done) | (simp; omega)) _)) (by first | omega | (simp; done) | (simp; omega)) hbx)
      (try go_simp)
      refine hK.out _ _ (by assumption) (fun hHeld => ?_)
      clear hK K
      try simp only [Act.put, List.setIfInBounds_toArray, List.set_cons_zero, List.set_cons_succ]
      refine take1 (v := ?_) 10 rfl (by kernel_rfl) (by kernel_rfl) (by kernel_rfl) (fun _ _ _ h => h) (by rfl) ?_ (by assumption) ?_
      rotate_left 1
      · (intro w hSw; (try dsimp only at hSw); first | (go_simp; done) | (go_simp; with_reducible rfl))
      try simp only [Act.put, List.setIfInBounds_toArray, List.set_cons_zero, List.set_cons_succ]
      refine take1 (v := ?_) 11 rfl (by kernel_rfl) (by kernel_rfl) (by kernel_rfl) (fun _ _ _ h => h) (by rfl) ?_ (by assumption) ?_
      rotate_left 1
      · (intro w hSw; (try dsimp only at hSw); first | (go_simp; done) | (go_simp; with_reducible rfl))
      try simp only [Act.put, List.setIfInBounds_toArray, List.set_cons_zero, List.set_cons_succ]
      refine take1 (v := ?_) 12 rfl (by kernel_rfl) (by kernel_rfl) (by kernel_rfl) (fun _ _ _ h => h) (by rfl) ?_ (by assumption) ?_
      rotate_left 1
      · (intro w hSw; (try dsimp only at hSw); first | (go_simp; done) | (go_simp; with_reducible rfl))
      try simp only [Act.put, List.setIfInBounds_toArray, List.set_cons_zero, List.set_cons_succ]
      refine skip1 13 rfl (by kernel_rfl) (by kernel_rfl) (by kernel_rfl) (fun _ _ _ h => h) (by rfl) (by assumption) ?_
      try simp only [Act.put, List.setIfInBounds_toArray, List.set_cons_zero, List.set_cons_succ]
      refine skip1 14 rfl (by kernel_rfl) (by kernel_rfl) (by kernel_rfl) (fun _ _ _ h => h) (by rfl) (by assumption) ?_
      try simp only [Act.put, List.setIfInBounds_toArray, List.set_cons_zero, List.set_cons_succ]
      refine skip1 15 rfl (by kernel_rfl) (by kernel_rfl) (by kernel_rfl) (fun _ _ _ h => h) (by rfl) (by assumption) ?_
      try simp only [Act.put, List.setIfInBounds_toArray, List.set_cons_zero, List.set_cons_succ]
      refine skip1 16 rfl (by kernel_rfl) (by kernel_rfl) (by kernel_rfl) (fun _ _ _ h => h) (by rfl) (by assumption) ?_
      try simp only [Act.put, List.setIfInBounds_toArray, List.set_cons_zero, List.set_cons_succ]
      refine skip1 17 rfl (by kernel_rfl) (by kernel_rfl) (by kernel_rfl) (fun _ _ _ h => h) (by rfl) (by assumption) ?_
      try simp only [Act.put, List.setIfInBounds_toArray, List.set_cons_zero, List.set_cons_succ]
      refine skip1 18 rfl (by kernel_rfl) (by kernel_rfl) (by kernel_rfl) (fun _ _ _ h => h) (by rfl) (by assumption) ?_
      try simp only [Act.put, List.setIfInBounds_toArray, List.set_cons_zero, List.set_cons_succ]
      refine skip1 19 rfl (by kernel_rfl) (by kernel_rfl) (by kernel_rfl) (fun _ _ _ h => h) (by rfl) (by assumption) ?_
      try simp only [Act.put, List.setIfInBounds_toArray, List.set_cons_zero, List.set_cons_succ]
      refine take1 (v := ?_) 20 rfl (by kernel_rfl) (by kernel_rfl) (by kernel_rfl) (fun _ _ _ h => h) (by rfl) ?_ (by assumption) ?_
      rotate_left 1
      · (intro w hSw; (try dsimp only at hSw); first | (go_simp; done) | (go_simp; with_reducible rfl))
      try simp only [Act.put, List.setIfInBounds_toArray, List.set_cons_zero, List.set_cons_succ]
      refine take1 (v := ?_) 21 rfl (by kernel_rfl) (by kernel_rfl) (by kernel_rfl) (fun _ _ _ h => h) (by rfl) ?_ (by assumption) ?_
      rotate_left 1
      · (intro w hSw; (try dsimp only at hSw); first | (go_simp; done) | (go_simp; with_reducible rfl))
      try simp only [Act.put, List.setIfInBounds_toArray, List.set_cons_zero, List.set_cons_succ]
      refine skip1 22 rfl (by kernel_rfl) (by kernel_rfl) (by kernel_rfl) (fun _ _ _ h => h) (by rfl) (by assumption) ?_
      try simp only [Act.put, List.setIfInBounds_toArray, List.set_cons_zero, List.set_cons_succ]
      refine skip1 23 rfl (by kernel_rfl) (by kernel_rfl) (by kernel_rfl) (fun _ _ _ h => h) (by rfl) (by assumption) ?_
      try simp only [Act.put, List.setIfInBounds_toArray, List.set_cons_zero, List.set_cons_succ]
      refine skip1 24 rfl (by kernel_rfl) (by kernel_rfl) (by kernel_rfl) (fun _ _ _ h => h) (by rfl) (by assumption) ?_
      try simp only [Act.put, List.setIfInBounds_toArray, List.set_cons_zero, List.set_cons_succ]
      refine skip1 25 rfl (by kernel_rfl) (by kernel_rfl) (by kernel_rfl) (fun _ _ _ h => h) (by rfl) (by assumption) ?_
      try simp only [Act.put, List.setIfInBounds_toArray, List.set_cons_zero, List.set_cons_succ]
      refine skip1 26 rfl (by kernel_rfl) (by kernel_rfl) (by kernel_rfl) (fun _ _ _ h => h) (by rfl) (by assumption) ?_
      try simp only [Act.put, List.setIfInBounds_toArray, List.set_cons_zero, List.set_cons_succ]
      refine skip1 27 rfl (by kernel_rfl) (by kernel_rfl) (by kernel_rfl) (fun _ _ _ h => h) (by rfl) (by assumption) ?_
      try simp only [Act.put, List.setIfInBounds_toArray, List.set_cons_zero, List.set_cons_succ]
      refine skip1 28 rfl (by kernel_rfl) (by kernel_rfl) (by kernel_rfl) (fun _ _ _ h => h) (by rfl) (by assumption) ?_
      try simp only [Act.put, List.setIfInBounds_toArray, List.set_cons_zero, List.set_cons_succ]
      refine take1 (v := ?_) 29 rfl (by kernel_rfl) (by kernel_rfl) (by kernel_rfl) (fun _ _ _ h => h) (by rfl) ?_ (by assumption) ?_
      rotate_left 1
      · (intro w hSw; (try dsimp only at hSw); first | (go_simp; done) | (go_simp; with_reducible rfl))
      try simp only [Act.put, List.setIfInBounds_toArray, List.set_cons_zero, List.set_cons_succ]
      refine take1 (v := ?_) 30 rfl (by kernel_rfl) (by kernel_rfl) (by kernel_rfl) (fun _ _ _ h => h) (by rfl) ?_ (by assumption) ?_
      rotate_left 1
      · (intro w hSw; (try dsimp only at hSw); first | (go_simp; done) | (go_simp; with_reducible rfl))
      try simp only [Act.put, List.setIfInBounds_toArray, List.set_cons_zero, List.set_cons_succ]
      refine wpAnyH_done (by kernel_rfl) ?_ _
      all_goals
        go_wp2
        go_ret
        exact ⟨rfl, (by repeat (first | exact Below.refl _ _ | assumption | refine Below.drew ?_ | refine below_drewN ?_ _ | refine Below.alloc ?_ (by first | omega | (simp; done) | (simp; omega)) _ | refine Below.setCell ?_ (by first | omega | (simp; done) | (simp; omega)) _))⟩
    · rw [HF2.out (of_decide_eq_false y1)]
      rw [y] at HOU
      simp only [Bool.not_false, Bool.not_true] at HOU
      clear HF1 HF2 HF3 HF4 y
      go_enter Try.func71, Try.ntmps71
      go_wp2_with fail
      obtain ⟨W, hW⟩ : ∃ W, w.alloc (.cells #[.slice a0 n0 c0, .slice a1 n1 c1, .slice a2 n2 c2] 26) = W := ⟨_, rfl⟩
      have s0 : W.cell? ⟨w.heap.size, 1, none⟩ = some (.slice a1 n1 c1) := by rw [← hW]; simp [go_sem]
      replace d0 := keepA (o := .cells #[.slice a0 n0 c0, .slice a1 n1 c1, .slice a2 n2 c2] 26) d0
      replace d1 := keepA (o := .cells #[.slice a0 n0 c0, .slice a1 n1 c1, .slice a2 n2 c2] 26) d1
      replace d2 := keepA (o := .cells #[.slice a0 n0 c0, .slice a1 n1 c1, .slice a2 n2 c2] 26) d2
      replace d3 := keepA (o := .cells #[.slice a0 n0 c0, .slice a1 n1 c1, .slice a2 n2 c2] 26) d3
      have hB : Below w.heap.size w W := by rw [← hW]; exact (by repeat (first | exact Below.refl _ _ | assumption | refine Below.drew ?_ | refine below_drewN ?_ _ | refine Below.alloc ?_ (by first | omega | (simp; done) | (simp; omega)) _ | refine Below.setCell ?_ (by first | omega | (simp; done) | (simp; omega)) _))
      have hWz := hB.size
      rw [hW] at d0 d1 d2 d3 ⊢
      clear hW
      have q9 : W.drew.cell? ⟨w.heap.size, 1, none⟩ = some (Value.slice a1 n1 c1) ∧ W.drew.cell? ⟨b3, o3, none⟩ = some (Value.int .i64 x0) ∧ W.drew.cell? ⟨b3, o3 + 1, none⟩ = some (Value.int .i64 x1) ∧ W.drew.cell? ⟨b3, o3 + 2, none⟩ = some (Value.int .i64 x2) ∧ W.drew.cell? ⟨b3, o3 + 3, none⟩ = some (Value.int .i64 x3) := ⟨s0, d0, d1, d2, d3⟩
      refine wp_region_held_drew (S := (fun w' => w'.cell? ⟨w.heap.size, 1, none⟩ = some (Value.slice a1 n1 c1) ∧ w'.cell? ⟨b3, o3, none⟩ = some (Value.int .i64 x0) ∧ w'.cell? ⟨b3, o3 + 1, none⟩ = some (Value.int .i64 x1) ∧ w'.cell? ⟨b3, o3 + 2, none⟩ = some (Value.int .i64 x2) ∧ w'.cell? ⟨b3, o3 + 3, none⟩ = some (Value.int .i64 x3))) (by kernel_rfl) (by first | assumption | exact hS0) (fun hHeld => ?_)
      refine take1 (v := ?_) 0 rfl (by kernel_rfl) (by kernel_rfl) (by kernel_rfl) (fun _ _ _ h => h) (by rfl) ?_ (by assumption) ?_
      rotate_left 1
      · (intro w hSw; (try dsimp only at hSw); first | (go_simp; done) | (go_simp; with_reducible rfl))
      try simp only [Act.put, List.setIfInBounds_toArray, List.set_cons_zero, List.set_cons_succ]
      refine take1 (v := ?_) 1 rfl (by kernel_rfl) (by kernel_rfl) (by kernel_rfl) (fun _ _ _ h => h) (by rfl) ?_ (by assumption) ?_
      rotate_left 1
      · (intro w hSw; (try dsimp only at hSw); first | (go_simp; done) | (go_simp; with_reducible rfl))
      try simp only [Act.put, List.setIfInBounds_toArray, List.set_cons_zero, List.set_cons_succ]
      refine take1 (v := ?_) 2 rfl (by kernel_rfl) (by kernel_rfl) (by kernel_rfl) (fun _ _ _ h => h) (by rfl) ?_ (by assumption) ?_
      rotate_left 1
      · (intro w hSw; (try dsimp only at hSw); first | (go_simp; done) | (go_simp; with_reducible rfl))
      try simp only [Act.put, List.setIfInBounds_toArray, List.set_cons_zero, List.set_cons_succ]
      refine take1 (v := ?_) 3 rfl (by kernel_rfl) (by kernel_rfl) (by kernel_rfl) (fun _ _ _ h => h) (by rfl) ?_ (by assumption) ?_
      rotate_left 1
      · (intro w hSw; (try dsimp only at hSw); first | (go_simp; done) | (go_simp; with_reducible rfl))
      try simp only [Act.put, List.setIfInBounds_toArray, List.set_cons_zero, List.set_cons_succ]
      refine take1 (v := ?_) 4 rfl (by kernel_rfl) (by kernel_rfl) (by kernel_rfl) (fun _ _ _ h => h) (by rfl) ?_ (by assumption) ?_
      rotate_left 1
      · (intro w hSw; (try dsimp only at hSw); first | (go_simp; done) | (go_simp; with_reducible rfl))
      try simp only [Act.put, List.setIfInBounds_toArray, List.set_cons_zero, List.set_cons_succ]
      refine take1 (v := ?_) 5 rfl (by kernel_rfl) (by kernel_rfl) (by kernel_rfl) (fun _ _ _ h => h) (by rfl) ?_ (by assumption) ?_
      rotate_left 1
      · (intro w hSw; (try dsimp only at hSw); first | (go_simp; done) | (go_simp; with_reducible rfl))
      try simp only [Act.put, List.setIfInBounds_toArray, List.set_cons_zero, List.set_cons_succ]
      refine take1 (v := ?_) 6 rfl (by kernel_rfl) (by kernel_rfl) (by kernel_rfl) (fun _ _ _ h => h) (by rfl) ?_ (by assumption) ?_
      rotate_left 1
      · (intro w hSw; (try dsimp only at hSw); first | (go_simp; done) | (go_simp; with_reducible rfl))
      try simp only [Act.put, List.setIfInBounds_toArray, List.set_cons_zero, List.set_cons_succ]
      refine take1 (v := ?_) 7 rfl (by kernel_rfl) (by kernel_rfl) (by kernel_rfl) (fun _ _ _ h => h) (by rfl) ?_ (by assumption) ?_
      rotate_left 1
      · (intro w hSw; (try dsimp only at hSw); first | (go_simp; done) | (go_simp; with_reducible rfl))
      try simp only [Act.put, List.setIfInBounds_toArray, List.set_cons_zero, List.set_cons_succ]
      refine take1 (v := ?_) 8 rfl (by kernel_rfl) (by kernel_rfl) (by kernel_rfl) (fun _ _ _ h => h) (by rfl) ?_ (by assumption) ?_
      rotate_left 1
      · (intro w hSw; (try dsimp only at hSw); first | (go_simp; done) | (go_simp; with_reducible rfl))
      try simp only [Act.put, List.setIfInBounds_toArray, List.set_cons_zero, List.set_cons_succ]
      refine comes1 9 rfl (by kernel_rfl) (fun K hK => ?_)
      go_simp
      (go_at_call 74; (with_reducible refine (HOU.out _ (HZ.out.below (by repeat (first | exact Below.refl _ _ | assumption | refine Below.drew ?_ | refine below_drewN ?_ _ | refine Below.alloc ?_ (by first | omega | (simp; done) | (simp; omega)) _ | refine Below.setCell ?_ (by first | omega | (simp; done) | (simp; omega)) _)))).mono ?_); rintro e wx ⟨rfl, hbx⟩; have hS : wx.cell? ⟨w.heap.size, 1, none⟩ = some (Value.slice a1 n1 c1) ∧ wx.cell? ⟨b3, o3, none⟩ = some (Value.int .i64 x0) ∧ wx.cell? ⟨b3, o3 + 1, none⟩ = some (Value.int .i64 x1) ∧ wx.cell? ⟨b3, o3 + 2, none⟩ = some (Value.int .i64 x2) ∧ wx.cell? ⟨b3, o3 + 3, none⟩ = some (Value.int .i64 x3) := ⟨keep1 hbx s0, keep1 hbx d0, keep1 hbx d1, keep1 hbx d2, keep1 hbx d3⟩; have hBx : Below w.heap.size w wx := below_callB (by repeat (first | exact Below.refl _ _ | assumption | refine Below.drew ?_ | refine below_drewN ?_ _ | refine Below.alloc ?_ (by first | omega | (simp; done) | (simp; omega)) _ | refine Below.setCell ?_ (by first | omega | (simp; done) | (simp; omega)) _)) (by first | omega | (simp; done) | (simp; omega)) hbx)
      (try go_simp)
      refine hK.out _ _ (by assumption) (fun hHeld => ?_)
      clear hK K
      try simp only [Act.put, List.setIfInBounds_toArray, List.set_cons_zero, List.set_cons_succ]
      refine take1 (v := ?_) 10 rfl (by kernel_rfl) (by kernel_rfl) (by kernel_rfl) (fun _ _ _ h => h) (by rfl) ?_ (by assumption) ?_
      rotate_left 1
      · (intro w hSw; (try dsimp only at hSw); first | (go_simp; done) | (go_simp; with_reducible rfl))
      try simp only [Act.put, List.setIfInBounds_toArray, List.set_cons_zero, List.set_cons_succ]
      refine take1 (v := ?_) 11 rfl (by kernel_rfl) (by kernel_rfl) (by kernel_rfl) (fun _ _ _ h => h) (by rfl) ?_ (by assumption) ?_
      rotate_left 1
      · (intro w hSw; (try dsimp only at hSw); first | (go_simp; done) | (go_simp; with_reducible rfl))
      try simp only [Act.put, List.setIfInBounds_toArray, List.set_cons_zero, List.set_cons_succ]
      refine take1 (v := ?_) 12 rfl (by kernel_rfl) (by kernel_rfl) (by kernel_rfl) (fun _ _ _ h => h) (by rfl) ?_ (by assumption) ?_
      rotate_left 1
      · (intro w hSw; (try dsimp only at hSw); first | (go_simp; done) | (go_simp; with_reducible rfl))
      try simp only [Act.put, List.setIfInBounds_toArray, List.set_cons_zero, List.set_cons_succ]
      refine take1 (v := ?_) 13 rfl (by kernel_rfl) (by kernel_rfl) (by kernel_rfl) (fun _ _ _ h => h) (by rfl) ?_ (by assumption) ?_
      rotate_left 1
      · (intro w hSw; (try dsimp only at hSw); first | (go_simp; done) | (go_simp; with_reducible rfl))
      try simp only [Act.put, List.setIfInBounds_toArray, List.set_cons_zero, List.set_cons_succ]
      refine take1 (v := ?_) 14 rfl (by kernel_rfl) (by kernel_rfl) (by kernel_rfl) (fun _ _ _ h => h) (by rfl) ?_ (by assumption) ?_
      rotate_left 1
      · (intro w hSw; (try dsimp only at hSw); first | (go_simp; done) | (go_simp; with_reducible rfl))
      try simp only [Act.put, List.setIfInBounds_toArray, List.set_cons_zero, List.set_cons_succ]
      refine take1 (v := ?_) 15 rfl (by kernel_rfl) (by kernel_rfl) (by kernel_rfl) (fun _ _ _ h => h) (by rfl) ?_ (by assumption) ?_
      rotate_left 1
      · (intro w hSw; (try dsimp only at hSw); first | (go_simp; done) | (go_simp; with_reducible rfl))
      try simp only [Act.put, List.setIfInBounds_toArray, List.set_cons_zero, List.set_cons_succ]
      refine take1 (v := ?_) 16 rfl (by kernel_rfl) (by kernel_rfl) (by kernel_rfl) (fun _ _ _ h => h) (by rfl) ?_ (by assumption) ?_
      rotate_left 1
      · (intro w hSw; (try dsimp only at hSw); first | (go_simp; done) | (go_simp; with_reducible rfl))
      try simp only [Act.put, List.setIfInBounds_toArray, List.set_cons_zero, List.set_cons_succ]
      refine take1 (v := ?_) 17 rfl (by kernel_rfl) (by kernel_rfl) (by kernel_rfl) (fun _ _ _ h => h) (by rfl) ?_ (by assumption) ?_
      rotate_left 1
      · (intro w hSw; (try dsimp only at hSw); first | (go_simp; done) | (go_simp; with_reducible rfl))
      try simp only [Act.put, List.setIfInBounds_toArray, List.set_cons_zero, List.set_cons_succ]
      refine take1 (v := ?_) 18 rfl (by kernel_rfl) (by kernel_rfl) (by kernel_rfl) (fun _ _ _ h => h) (by rfl) ?_ (by assumption) ?_
      rotate_left 1
      · (intro w hSw; (try dsimp only at hSw); first | (go_simp; done) | (go_simp; with_reducible rfl))
      try simp only [Act.put, List.setIfInBounds_toArray, List.set_cons_zero, List.set_cons_succ]
      refine take1 (v := ?_) 19 rfl (by kernel_rfl) (by kernel_rfl) (by kernel_rfl) (fun _ _ _ h => h) (by rfl) ?_ (by assumption) ?_
      rotate_left 1
      · (intro w hSw; (try dsimp only at hSw); first | (go_simp; done) | (go_simp; with_reducible rfl))
      try simp only [Act.put, List.setIfInBounds_toArray, List.set_cons_zero, List.set_cons_succ]
      refine take1 (v := ?_) 20 rfl (by kernel_rfl) (by kernel_rfl) (by kernel_rfl) (fun _ _ _ h => h) (by rfl) ?_ (by assumption) ?_
      rotate_left 1
      · (intro w hSw; (try dsimp only at hSw); first | (go_simp; done) | (go_simp; with_reducible rfl))
      try simp only [Act.put, List.setIfInBounds_toArray, List.set_cons_zero, List.set_cons_succ]
      refine take1 (v := ?_) 21 rfl (by kernel_rfl) (by kernel_rfl) (by kernel_rfl) (fun _ _ _ h => h) (by rfl) ?_ (by assumption) ?_
      rotate_left 1
      · (intro w hSw; (try dsimp only at hSw); first | (go_simp; done) | (go_simp; with_reducible rfl))
      try simp only [Act.put, List.setIfInBounds_toArray, List.set_cons_zero, List.set_cons_succ]
      refine skip1 22 rfl (by kernel_rfl) (by kernel_rfl) (by kernel_rfl) (fun _ _ _ h => h) (by rfl) (by assumption) ?_
      try simp only [Act.put, List.setIfInBounds_toArray, List.set_cons_zero, List.set_cons_succ]
      refine skip1 23 rfl (by kernel_rfl) (by kernel_rfl) (by kernel_rfl) (fun _ _ _ h => h) (by rfl) (by assumption) ?_
      try simp only [Act.put, List.setIfInBounds_toArray, List.set_cons_zero, List.set_cons_succ]
      refine skip1 24 rfl (by kernel_rfl) (by kernel_rfl) (by kernel_rfl) (fun _ _ _ h => h) (by rfl) (by assumption) ?_
      try simp only [Act.put, List.setIfInBounds_toArray, List.set_cons_zero, List.set_cons_succ]
      refine skip1 25 rfl (by kernel_rfl) (by kernel_rfl) (by kernel_rfl) (fun _ _ _ h => h) (by rfl) (by assumption) ?_
      try simp only [Act.put, List.setIfInBounds_toArray, List.set_cons_zero, List.set_cons_succ]
      refine skip1 26 rfl (by kernel_rfl) (by kernel_rfl) (by kernel_rfl) (fun _ _ _ h => h) (by rfl) (by assumption) ?_
      try simp only [Act.put, List.setIfInBounds_toArray, List.set_cons_zero, List.set_cons_succ]
      refine skip1 27 rfl (by kernel_rfl) (by kernel_rfl) (by kernel_rfl) (fun _ _ _ h => h) (by rfl) (by assumption) ?_
      try simp only [Act.put, List.setIfInBounds_toArray, List.set_cons_zero, List.set_cons_succ]
      refine skip1 28 rfl (by kernel_rfl) (by kernel_rfl) (by kernel_rfl) (fun _ _ _ h => h) (by rfl) (by assumption) ?_
      try simp only [Act.put, List.setIfInBounds_toArray, List.set_cons_zero, List.set_cons_succ]
      refine take1 (v := ?_) 29 rfl (by kernel_rfl) (by kernel_rfl) (by kernel_rfl) (fun _ _ _ h => h) (by rfl) ?_ (by assumption) ?_
      rotate_left 1
      · (intro w hSw; (try dsimp only at hSw); first | (go_simp; done) | (go_simp; with_reducible rfl))
      try simp only [Act.put, List.setIfInBounds_toArray, List.set_cons_zero, List.set_cons_succ]
      refine take1 (v := ?_) 30 rfl (by kernel_rfl) (by kernel_rfl) (by kernel_rfl) (fun _ _ _ h => h) (by rfl) ?_ (by assumption) ?_
      rotate_left 1
      · (intro w hSw; (try dsimp only at hSw); first | (go_simp; done) | (go_simp; with_reducible rfl))
      try simp only [Act.put, List.setIfInBounds_toArray, List.set_cons_zero, List.set_cons_succ]
      refine wpAnyH_done (by kernel_rfl) ?_ _
      all_goals
        go_wp2
        go_ret
        exact ⟨rfl, (by repeat (first | exact Below.refl _ _ | assumption | refine Below.drew ?_ | refine below_drewN ?_ _ | refine Below.alloc ?_ (by first | omega | (simp; done) | (simp; omega)) _ | refine Below.setCell ?_ (by first | omega | (simp; done) | (simp; omega)) _))⟩
    · have y3 : fourB z ((n1 : Int) - 1) = B := by
        cases B
        · exact HF3.out (of_decide_eq_false y2)
        · exact HF4.out y (of_decide_eq_true y1) (of_decide_eq_true y2)
      rw [y3]
      rw [y] at HOU
      simp only [Bool.not_false, Bool.not_true] at HOU
      clear HF1 HF2 HF3 HF4 y y3
      go_enter Try.func71, Try.ntmps71
      go_wp2_with fail
      obtain ⟨W, hW⟩ : ∃ W, w.alloc (.cells #[.slice a0 n0 c0, .slice a1 n1 c1, .slice a2 n2 c2] 26) = W := ⟨_, rfl⟩
      have s0 : W.cell? ⟨w.heap.size, 1, none⟩ = some (.slice a1 n1 c1) := by rw [← hW]; simp [go_sem]
      replace d0 := keepA (o := .cells #[.slice a0 n0 c0, .slice a1 n1 c1, .slice a2 n2 c2] 26) d0
      replace d1 := keepA (o := .cells #[.slice a0 n0 c0, .slice a1 n1 c1, .slice a2 n2 c2] 26) d1
      replace d2 := keepA (o := .cells #[.slice a0 n0 c0, .slice a1 n1 c1, .slice a2 n2 c2] 26) d2
      replace d3 := keepA (o := .cells #[.slice a0 n0 c0, .slice a1 n1 c1, .slice a2 n2 c2] 26) d3
      have hB : Below w.heap.size w W := by rw [← hW]; exact (by repeat (first | exact Below.refl _ _ | assumption | refine Below.drew ?_ | refine below_drewN ?_ _ | refine Below.alloc ?_ (by first | omega | (simp; done) | (simp; omega)) _ | refine Below.setCell ?_ (by first | omega | (simp; done) | (simp; omega)) _))
      have hWz := hB.size
      rw [hW] at d0 d1 d2 d3 ⊢
      clear hW
      have q9 : W.drew.cell? ⟨w.heap.size, 1, none⟩ = some (Value.slice a1 n1 c1) ∧ W.drew.cell? ⟨b3, o3, none⟩ = some (Value.int .i64 x0) ∧ W.drew.cell? ⟨b3, o3 + 1, none⟩ = some (Value.int .i64 x1) ∧ W.drew.cell? ⟨b3, o3 + 2, none⟩ = some (Value.int .i64 x2) ∧ W.drew.cell? ⟨b3, o3 + 3, none⟩ = some (Value.int .i64 x3) := ⟨s0, d0, d1, d2, d3⟩
      go_region_held3 (fun w' => w'.cell? ⟨w.heap.size, 1, none⟩ = some (Value.slice a1 n1 c1) ∧ w'.cell? ⟨b3, o3, none⟩ = some (Value.int .i64 x0) ∧ w'.cell? ⟨b3, o3 + 1, none⟩ = some (Value.int .i64 x1) ∧ w'.cell? ⟨b3, o3 + 2, none⟩ = some (Value.int .i64 x2) ∧ w'.cell? ⟨b3, o3 + 3, none⟩ = some (Value.int .i64 x3)) (first | (with_reducible assumption) | exact q9)
        (first | (go_at_call 74; (with_reducible refine (HOU.out _ (HZ.out.below (by repeat (first | exact Below.refl _ _ | assumption | refine Below.drew ?_ | refine below_drewN ?_ _ | refine Below.alloc ?_ (by first | omega | (simp; done) | (simp; omega)) _ | refine Below.setCell ?_ (by first | omega | (simp; done) | (simp; omega)) _)))).mono ?_); rintro e wx ⟨rfl, hbx⟩; have hS : wx.cell? ⟨w.heap.size, 1, none⟩ = some (Value.slice a1 n1 c1) ∧ wx.cell? ⟨b3, o3, none⟩ = some (Value.int .i64 x0) ∧ wx.cell? ⟨b3, o3 + 1, none⟩ = some (Value.int .i64 x1) ∧ wx.cell? ⟨b3, o3 + 2, none⟩ = some (Value.int .i64 x2) ∧ wx.cell? ⟨b3, o3 + 3, none⟩ = some (Value.int .i64 x3) := ⟨keep1 hbx s0, keep1 hbx d0, keep1 hbx d1, keep1 hbx d2, keep1 hbx d3⟩; have hBx : Below w.heap.size w wx := below_callB (by repeat (first | exact Below.refl _ _ | assumption | refine Below.drew ?_ | refine below_drewN ?_ _ | refine Below.alloc ?_ (by first | omega | (simp; done) | (simp; omega)) _ | refine Below.setCell ?_ (by first | omega | (simp; done) | (simp; omega)) _)) (by first | omega | (simp; done) | (simp; omega)) hbx))
      all_goals
        go_wp2
        go_ret
        exact ⟨ret_bool (by first | exact y2 | rfl | simp [y2]), (by repeat (first | exact Below.refl _ _ | assumption | refine Below.drew ?_ | refine below_drewN ?_ _ | refine Below.alloc ?_ (by first | omega | (simp; done) | (simp; omega)) _ | refine Below.setCell ?_ (by first | omega | (simp; done) | (simp; omega)) _))⟩
  · rw [fourB_len (by omega)]
    have T1 : decide ((n3 : Int) = 4) = false := decide_eq_false (by omega)
    have T2 : ((n3 : Int) == 4) = false := by simp; omega
    have T3 : ¬ (n3 : Int) = 4 := by omega
    have T4 : ¬ n3 = 4 := by omega
    have T5 : decide (n3 = 4) = false := decide_eq_false (by omega)
    clear hz
    go_enter Try.func71, Try.ntmps71
    go_wp2_with fail
    go_quiet (fail)
    go_wp2
    go_ret
    exact ⟨rfl, (by repeat (first | exact Below.refl _ _ | assumption | refine Below.drew ?_ | refine below_drewN ?_ _ | refine Below.alloc ?_ (by first | omega | (simp; done) | (simp; omega)) _ | refine Below.setCell ?_ (by first | omega | (simp; done) | (simp; omega)) _))⟩
set_option maxHeartbeats 1000000 in
theorem l13Four_any (a3 : Option Addr) (n3 c3 : Nat) (z : List Int) (n : Int) (w : World) (hz : IsRow .i64 w a3 n3 c3 z) :
    Calls Try.prog 93 #[.slice a3 n3 c3, .int .i64 n] w fun e w' => e = .returned (.bool (fourB z n)) ∧ ∃ m, w' = w.drewN m := by
  have l3 := hz.1
  have hm3 : n3 ≤ maxLen := Nat.le_trans hz.2.1 hz.2.2.1
  unfold maxLen at hm3
  by_cases hn : n3 = 4
  · obtain ⟨b3, o3, rfl, t3⟩ := hz.addr (by omega)
    have d0 := hz.same (i := 0) (by omega)
    have d1 := hz.same (i := 1) (by omega)
    have d2 := hz.same (i := 2) (by omega)
    have d3 := hz.same (i := 3) (by omega)
    rw [Nat.add_zero] at d0
    have HI := Lib.hid (fun W => l00In_any (z.getD 0 0) 0 n W)
    have hT : ((n3 : Int) != 4) = false := by simp; omega
    have q1 : (0 : Int) < (n3 : Int) := by omega
    have q2 : (1 : Int) < (n3 : Int) := by omega
    have q3 : (2 : Int) < (n3 : Int) := by omega
    have q4 : (3 : Int) < (n3 : Int) := by omega
    have HL := Lib.hid (show z.length = 4 by omega)
    have HCELL := Lib.hid (fun i hi => hz.same (i := i) hi)
    have HF1 := Lib.hid (@fourB_ins z n)
    have HF2 := Lib.hid (@fourB_1 z n)
    have HF3 := Lib.hid (@fourB_2 z n)
    have HF4 := Lib.hid (@fourB_mk z n HL.out)
    have HN := Lib.hid hn
    clear hz hn l3
    go_enter Try.func93, Try.ntmps93
    go_wp2_with fail
    go_loop [4, 5] (fun _ i => ∃ k : Nat, k ≤ 4 ∧ i = .int .i64 (k : Int) ∧ (∀ m, m < k → inB (z.getD m 0) 0 n = true)) (fun _ i => (4 - intOf i).toNat)
    case atStart => exact ⟨0, by omega, rfl, fun m hm => by omega⟩
    case round =>
      obtain ⟨k, hk, rfl, hI⟩ := hrel
      have HI := Lib.hid hI
      clear hI
      by_cases hlt : k < 4
      · have hlt1 : (k : Int) < 4 := by omega
        have hlt2 : (k : Int) < (n3 : Int) := by omega
        have dk := HCELL.out k (by have := HN.out; omega)
        obtain ⟨B, hB⟩ : ∃ B, inB (z.getD k 0) 0 n = B := ⟨_, rfl⟩
        have HIN := Lib.hid (fun W => l00In_any (z.getD k 0) 0 n W)
        rw [hB] at HIN
        cases B
        · have HR := Lib.hid (HF1.out (insB_no (by have := HL.out; omega) hB))
          clear hB
          go_wp2_with fail
          refine (HIN.out _).mono ?_
          rintro e w1 ⟨rfl, rfl⟩
          go_wp2
          go_ret
          exact ⟨ret_bool HR.out.symm, 0, rfl⟩
        · have HR : Hid (∀ m, m < k + 1 → inB (z.getD m 0) 0 n = true) := Lib.hid (fun m hm => by
            by_cases e : m = k
            · rw [e]; exact hB
            · exact HI.out m (by omega))
          clear hB
          go_wp2_with fail
          refine (HIN.out _).mono ?_
          rintro e w1 ⟨rfl, rfl⟩
          go_wp2
          go_round
          case rel => exact ⟨k + 1, by omega, by go_num, HR.out⟩
          case measure => simp [intOf]; omega
      · obtain rfl : k = 4 := by omega
        have hins : insB z 0 n = true := insB_mk fun i hi => inB_t (HI.out i (by have := HL.out; omega))
        have y : decide (z.getD 1 0 < z.getD 0 0) = false ∨ (decide (z.getD 1 0 < z.getD 0 0) = true ∧ ∃ B, decide (z.getD 2 0 < z.getD 3 0) = B) := by
          cases h : decide (z.getD 1 0 < z.getD 0 0)
          · exact .inl rfl
          · exact .inr ⟨rfl, _, rfl⟩
        rcases y with y1 | ⟨y1, B, y2⟩
        · have HR := Lib.hid (HF2.out (by have := of_decide_eq_false y1; omega))
          clear HCELL HI hins
          generalize z.getD 0 0 = x0 at *
          generalize z.getD 1 0 = x1 at *
          generalize z.getD 2 0 = x2 at *
          generalize z.getD 3 0 = x3 at *
          go_wp2_with fail
          go_quiet (fail)
          go_wp2
          go_ret
          exact ⟨ret_bool HR.out.symm, _, rfl⟩
        · have HR : Hid (fourB z n = B) := Lib.hid (by
            cases B
            · exact HF3.out (by have := of_decide_eq_false y2; omega)
            · exact HF4.out hins (of_decide_eq_true y1) (of_decide_eq_true y2))
          clear HCELL HI hins HF1 HF2 HF3 HF4
          generalize z.getD 0 0 = x0 at *
          generalize z.getD 1 0 = x1 at *
          generalize z.getD 2 0 = x2 at *
          generalize z.getD 3 0 = x3 at *
          go_wp2_with fail
          go_quiet (fail)
          go_wp2
          go_ret
          exact ⟨ret_bool (by rw [HR.out]; try exact y2), _, rfl⟩
  · rw [fourB_len (by omega)]
    have hT : ((n3 : Int) != 4) = true := by simp; omega
    clear hz
    go_enter Try.func93, Try.ntmps93
    go_wp2
    go_ret
    exact ⟨rfl, 0, rfl⟩
end Go.Proofs.Ytklhaanapembdaa
