/- Contract of the program's CanStand: whether an arch can stand, and the code; no old memory turns; condition: the slices can be read. -/
import Derived.Test.YtklhaanapembdaaM20
import Derived.Test.YtklhaanapembdaaM10

namespace Go.Proofs.Ytklhaanapembdaa
open Go.RowKit

set_option maxRecDepth 100000 in
set_option maxHeartbeats 4000000 in
theorem canStand_any (a0 a1 a2 : Option Addr) (n0 c0 n1 c1 n2 c2 : Nat) (ls lo hi : List Int) (w : World) (h : IsB a0 a1 a2 n0 c0 n1 c1 n2 c2 ls lo hi w) :
    Calls Try.prog 19 #[.agg #[.slice a0 n0 c0, .slice a1 n1 c1, .slice a2 n2 c2]] w fun e w' => e = .returned (.tuple #[.bool (canV ls lo hi), .int .i64 (momC ls lo hi)]) ∧ Below w.heap.size w w' := by
  have H := Lib.hid h
  cases g : blkB ls lo hi
  · have e1 : canV ls lo hi = false := by simp [canV, g]
    have e2 : momC ls lo hi = 1 := by simp [momC, g]
    rw [e1, e2]
    have G := Lib.hid g
    clear h g e1 e2
    go_enter Try.func19, Try.ntmps19
    go_wp2_with fail
    refine (validBlocks_any _ _ _ _ _ _ _ _ _ _ _ _ _ (H.out.below (by repeat (first | exact Below.refl _ _ | assumption | refine Below.drew ?_ | refine below_drewN ?_ _ | refine Below.alloc ?_ (by first | omega | (simp; done) | (simp; omega)) _ | refine Below.setCell ?_ (by first | omega | (simp; done) | (simp; omega)) _)))).mono ?_
    rintro e1 w1 ⟨rfl, hb1⟩
    obtain ⟨hc1, hf1⟩ := bcell hb1
    have hz1 := hb1.size
    try simp at hz1
    have ha1 : Below w.heap.size w w1 := below_call (by repeat (first | exact Below.refl _ _ | assumption | refine Below.drew ?_ | refine below_drewN ?_ _ | refine Below.alloc ?_ (by first | omega | (simp; done) | (simp; omega)) _ | refine Below.setCell ?_ (by first | omega | (simp; done) | (simp; omega)) _)) hb1
    rw [G.out]
    go_wp2
    go_ret2
    exact ⟨rfl, (by repeat (first | exact Below.refl _ _ | assumption | refine Below.drew ?_ | refine below_drewN ?_ _ | refine Below.alloc ?_ (by first | omega | (simp; done) | (simp; omega)) _ | refine Below.setCell ?_ (by first | omega | (simp; done) | (simp; omega)) _))⟩
  · have e1 : canV ls lo hi = standB (bfind ls lo hi) := by simp [canV, g]
    have e2 : momC ls lo hi = 0 := by simp [momC, g]
    rw [e1, e2]
    have G := Lib.hid g
    clear h g e1 e2
    have HGD := Lib.hid (bfind_good G.out)
    have HBO := Lib.hid (fun W hW => boundsOf_any a0 a1 a2 n0 c0 n1 c1 n2 c2 ls lo hi W hW G.out)
    generalize bfind ls lo hi = S at *
    have HST := Lib.hid (fun W => standsI_any S W HGD.out)
    clear HGD
    go_enter Try.func19, Try.ntmps19
    go_wp2_with fail
    refine (validBlocks_any _ _ _ _ _ _ _ _ _ _ _ _ _ (H.out.below (by repeat (first | exact Below.refl _ _ | assumption | refine Below.drew ?_ | refine below_drewN ?_ _ | refine Below.alloc ?_ (by first | omega | (simp; done) | (simp; omega)) _ | refine Below.setCell ?_ (by first | omega | (simp; done) | (simp; omega)) _)))).mono ?_
    rintro e1 w1 ⟨rfl, hb1⟩
    obtain ⟨hc1, hf1⟩ := bcell hb1
    have hz1 := hb1.size
    try simp at hz1
    have ha1 : Below w.heap.size w w1 := below_call (by repeat (first | exact Below.refl _ _ | assumption | refine Below.drew ?_ | refine below_drewN ?_ _ | refine Below.alloc ?_ (by first | omega | (simp; done) | (simp; omega)) _ | refine Below.setCell ?_ (by first | omega | (simp; done) | (simp; omega)) _)) hb1
    have F : Hid (w1.heap[w.heap.size]? = some _) := blk_call (by first | (refine blk_new' _ _ ?_; simp; done) | (refine blk_alloc (blk_new' _ _ ?_); simp; done) | (refine blk_alloc (blk_alloc (blk_new' _ _ ?_)); simp; done)) hb1
    have F_0 := cellOf F.out 0
    simp at F_0
    have F_1 := cellOf F.out 1
    simp at F_1
    have F_2 := cellOf F.out 2
    simp at F_2
    have F_lt := blk_lt F.out
    have F_le := Nat.le_of_lt F_lt
    have F_l1 := Nat.le_succ_of_le F_le
    rw [G.out]
    go_wp2_with fail
    refine (HBO.out _ (H.out.below (by repeat (first | exact Below.refl _ _ | assumption | refine Below.drew ?_ | refine below_drewN ?_ _ | refine Below.alloc ?_ (by first | omega | (simp; done) | (simp; omega)) _ | refine Below.setCell ?_ (by first | omega | (simp; done) | (simp; omega)) _)))).mono ?_
    rintro e w2 ⟨rfl, hb2⟩
    have hz2 := hb2.size
    try simp at hz2
    have ha2 : Below w.heap.size w w2 := below_call (by repeat (first | exact Below.refl _ _ | assumption | refine Below.drew ?_ | refine below_drewN ?_ _ | refine Below.alloc ?_ (by first | omega | (simp; done) | (simp; omega)) _ | refine Below.setCell ?_ (by first | omega | (simp; done) | (simp; omega)) _)) hb2
    go_wp2_with fail
    refine (HST.out _).mono ?_
    rintro e w3 ⟨rfl, hb3⟩
    have ha3 : Below w.heap.size w w3 := below_call (by repeat (first | exact Below.refl _ _ | assumption | refine Below.drew ?_ | refine below_drewN ?_ _ | refine Below.alloc ?_ (by first | omega | (simp; done) | (simp; omega)) _ | refine Below.setCell ?_ (by first | omega | (simp; done) | (simp; omega)) _)) hb3
    go_wp2
    go_ret2
    exact ⟨rfl, (by repeat (first | exact Below.refl _ _ | assumption | refine Below.drew ?_ | refine below_drewN ?_ _ | refine Below.alloc ?_ (by first | omega | (simp; done) | (simp; omega)) _ | refine Below.setCell ?_ (by first | omega | (simp; done) | (simp; omega)) _))⟩
end Go.Proofs.Ytklhaanapembdaa
