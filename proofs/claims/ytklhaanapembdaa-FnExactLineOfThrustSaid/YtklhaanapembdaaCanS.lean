/- Contract of the reference's CanStand: whether an arch can stand, and the code; no old memory turns; condition: the slices can be read. -/
import Derived.Test.YtklhaanapembdaaStandS
import Derived.Test.YtklhaanapembdaaFind
import Derived.Test.YtklhaanapembdaaCanP
namespace Go.Proofs.Ytklhaanapembdaa
open Go.RowKit

/-- What the reference's record says of the arch: where its indexes point, by the program's conditions. -/
structure FoundS (base : Nat) (W : World) (b : Nat) (v : Value) (l : List Cnd) (gs : List Nat) (F : Fnd) (S : Bnds) : Prop where
  at' : FindAt base W b v l gs F
  good : ∀ i : Int, 0 ≤ i → i < l.length → goodC (at0 l i)
  never : (S.hn = false ∧ F.never = -1) ∨ (S.hn = true ∧ 0 ≤ F.never ∧ F.never < l.length ∧ at0 l F.never = S.never)
  high0 : 0 ≤ F.high
  high1 : F.high < l.length
  high : at0 l F.high = S.high
  highb : S.high.b < 0
  low : (F.low = -1 ∧ (S.hl = false ∨ (S.hl = true ∧ 0 < S.low.b ∧ S.low.a ≤ 0))) ∨ (S.hl = true ∧ 0 ≤ F.low ∧ F.low < l.length ∧ at0 l F.low = S.low ∧ 0 < S.low.b ∧ 0 < S.low.a)
  same : standF l F = standB S
  hh : S.hh = true
theorem FoundS.call {base b : Nat} {W w' : World} {v : Value} {l : List Cnd} {gs : List Nat} {F : Fnd} {S : Bnds} (h : FoundS base W b v l gs F S) (hb : Below W.heap.size W w') : FoundS base w' b v l gs F S :=
  { h with at' := h.at'.call hb }
theorem FoundS.low1 {base b : Nat} {W : World} {v : Value} {l : List Cnd} {gs : List Nat} {F : Fnd} {S : Bnds} (h : FoundS base W b v l gs F S) : F.low < l.length := by
  have h1 := h.high0
  have h2 := h.high1
  rcases h.low with k | k
  · have := k.1; omega
  · exact k.2.2.1
theorem found_any (g : Nat) (a0 a1 a2 : Option Addr) (n0 c0 n1 c1 n2 c2 : Nat) (ls lo hi : List Int) (w : World) (hg : AtB g a0 a1 a2 n0 c0 n1 c1 n2 c2 w) (h : IsB a0 a1 a2 n0 c0 n1 c1 n2 c2 ls lo hi w) (hv : blkB ls lo hi = true) :
    Calls Try.prog 99 #[.pointer (some ⟨g, 0, none⟩)] w fun e w' => ∃ b v l gs F, e = .returned (.pointer (some ⟨b, 0, none⟩)) ∧ FoundS w.heap.size w' b v l gs F (bfind ls lo hi) ∧ Below w.heap.size w w' := by
  have hn : lo.length = n1 := h.2.1.1
  have hn1 : n1 = ls.length + 1 := by have := (blkB_t hv).2.2.2.1; omega
  have ha := alike_find ls lo hi
  have hs := stand_same hv
  have hh := bfind_hh hv
  unfold ffind at ha hs
  rw [hn] at ha hs
  refine (l13Find_any g a0 a1 a2 n0 c0 n1 c1 n2 c2 ls lo hi w hg h hv).mono ?_
  rintro e w' ⟨b, v, gs, rfl, hF, hb⟩
  obtain ⟨h1, h2, h3⟩ := ha
  rcases h2 with ⟨x, _⟩ | ⟨_, x1, x2, x3, x4⟩
  · rw [hh] at x; cases x
  · exact ⟨b, v, _, gs, _, rfl, ⟨hF, (fun i a c => qAll_good hv (by rw [← hn1]; exact at0_mem a c)), h1, x1, x2, x3, x4, h3, hs, hh⟩, hb⟩
theorem foundStands_any (base b : Nat) (v : Value) (l : List Cnd) (gs : List Nat) (F : Fnd) (S : Bnds) (w : World) (h : FoundS base w b v l gs F S) :
    Calls Try.prog 100 #[.pointer (some ⟨b, 0, none⟩)] w fun e w' => e = .returned (.bool (standB S)) ∧ Below w.heap.size w w' := by
  refine (standsS_any base b v l gs F w h.at' h.good h.high0 h.high1 h.low1).mono ?_
  rintro e w' ⟨rfl, hb⟩
  exact ⟨ret_bool h.same, hb⟩
set_option maxRecDepth 100000 in
set_option maxHeartbeats 4000000 in
theorem specCanStand_any (a0 a1 a2 : Option Addr) (n0 c0 n1 c1 n2 c2 : Nat) (ls lo hi : List Int) (w : World) (h : IsB a0 a1 a2 n0 c0 n1 c1 n2 c2 ls lo hi w) :
    Calls Try.prog 56 #[.agg #[.slice a0 n0 c0, .slice a1 n1 c1, .slice a2 n2 c2]] w fun e w' => e = .returned (.tuple #[.bool (canV ls lo hi), .int .i64 (momC ls lo hi)]) ∧ Below w.heap.size w w' := by
  have H := Lib.hid h
  cases g : blkB ls lo hi
  · have e1 : canV ls lo hi = false := by simp [canV, g]
    have e2 : momC ls lo hi = 1 := by simp [momC, g]
    rw [e1, e2]
    have G := Lib.hid g
    clear h g e1 e2
    go_enter Try.func56, Try.ntmps56
    go_wp2_with fail
    refine (l13Ok_any _ _ _ _ _ _ _ _ _ _ _ _ _ _ (blk_new w _) (H.out.below (by repeat (first | exact Below.refl _ _ | assumption | refine Below.drew ?_ | refine below_drewN ?_ _ | refine Below.alloc ?_ (by first | omega | (simp; done) | (simp; omega)) _ | refine Below.setCell ?_ (by first | omega | (simp; done) | (simp; omega)) _)))).mono ?_
    rintro e1 w1 ⟨rfl, hb1⟩
    obtain ⟨hc1, hf1⟩ := bcell hb1
    have hz1 := hb1.size
    try simp at hz1
    have ha1 : Below w.heap.size w w1 := below_call (by repeat (first | exact Below.refl _ _ | assumption | refine Below.drew ?_ | refine below_drewN ?_ _ | refine Below.alloc ?_ (by first | omega | (simp; done) | (simp; omega)) _ | refine Below.setCell ?_ (by first | omega | (simp; done) | (simp; omega)) _)) hb1
    rw [G.out]
    go_wp2
    go_ret2
    exact ⟨rfl, (by repeat (first | exact Below.refl _ _ | assumption | refine Below.drew ?_ | refine below_drewN ?_ _ | refine Below.alloc ?_ (by first | omega | (simp; done) | (simp; omega)) _ | refine Below.setCell ?_ (by first | omega | (simp; done) | (simp; omega)) _))⟩
  · have e1 : canV ls lo hi = standB (bfind ls lo hi) := by simp [canV, g]
    have e2 : momC ls lo hi = 0 := by simp [momC, g]
    rw [e1, e2]
    have G := Lib.hid g
    have HFI := Lib.hid (fun W x hx hW => found_any x a0 a1 a2 n0 c0 n1 c1 n2 c2 ls lo hi W hx hW G.out)
    clear h g e1 e2
    generalize bfind ls lo hi = S at *
    go_enter Try.func56, Try.ntmps56
    go_wp2_with fail
    refine (l13Ok_any _ _ _ _ _ _ _ _ _ _ _ _ _ _ (blk_new w _) (H.out.below (by repeat (first | exact Below.refl _ _ | assumption | refine Below.drew ?_ | refine below_drewN ?_ _ | refine Below.alloc ?_ (by first | omega | (simp; done) | (simp; omega)) _ | refine Below.setCell ?_ (by first | omega | (simp; done) | (simp; omega)) _)))).mono ?_
    rintro e1 w1 ⟨rfl, hb1⟩
    obtain ⟨hc1, hf1⟩ := bcell hb1
    have hz1 := hb1.size
    try simp at hz1
    have ha1 : Below w.heap.size w w1 := below_call (by repeat (first | exact Below.refl _ _ | assumption | refine Below.drew ?_ | refine below_drewN ?_ _ | refine Below.alloc ?_ (by first | omega | (simp; done) | (simp; omega)) _ | refine Below.setCell ?_ (by first | omega | (simp; done) | (simp; omega)) _)) hb1
    have F : Hid (w1.heap[w.heap.size]? = some _) := blk_call (by first | (refine blk_new' _ _ ?_; simp; done) | (refine blk_alloc (blk_new' _ _ ?_); simp; done) | (refine blk_alloc (blk_alloc (blk_new' _ _ ?_)); simp; done)) hb1
    have F_0 := cellOf F.out 0
    simp at F_0
    have F_1 := cellOf F.out 1
    simp at F_1
    have F_2 := cellOf F.out 2
    simp at F_2
    have F_lt := blk_lt F.out
    have F_le := Nat.le_of_lt F_lt
    have F_l1 := Nat.le_succ_of_le F_le
    rw [G.out]
    go_wp2_with fail
    refine (HFI.out _ _ F.out (H.out.below (by repeat (first | exact Below.refl _ _ | assumption | refine Below.drew ?_ | refine below_drewN ?_ _ | refine Below.alloc ?_ (by first | omega | (simp; done) | (simp; omega)) _ | refine Below.setCell ?_ (by first | omega | (simp; done) | (simp; omega)) _)))).mono ?_
    rintro e w2 ⟨b, v, l, gs, F', rfl, hF, hb2⟩
    have ha2 : Below w.heap.size w w2 := below_call (by repeat (first | exact Below.refl _ _ | assumption | refine Below.drew ?_ | refine below_drewN ?_ _ | refine Below.alloc ?_ (by first | omega | (simp; done) | (simp; omega)) _ | refine Below.setCell ?_ (by first | omega | (simp; done) | (simp; omega)) _)) hb2
    have HF := Lib.hid hF
    clear hF
    go_wp2_with fail
    refine (foundStands_any _ _ _ _ _ _ _ _ HF.out).mono ?_
    rintro e w3 ⟨rfl, hb3⟩
    have ha3 : Below w.heap.size w w3 := below_call (by repeat (first | exact Below.refl _ _ | assumption | refine Below.drew ?_ | refine below_drewN ?_ _ | refine Below.alloc ?_ (by first | omega | (simp; done) | (simp; omega)) _ | refine Below.setCell ?_ (by first | omega | (simp; done) | (simp; omega)) _)) hb3
    go_wp2
    go_ret2
    exact ⟨rfl, (by repeat (first | exact Below.refl _ _ | assumption | refine Below.drew ?_ | refine below_drewN ?_ _ | refine Below.alloc ?_ (by first | omega | (simp; done) | (simp; omega)) _ | refine Below.setCell ?_ (by first | omega | (simp; done) | (simp; omega)) _))⟩
end Go.Proofs.Ytklhaanapembdaa
