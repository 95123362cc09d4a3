/- Contract of the program's WhyNot: the joints of conditions that forbid every line of thrust; no old memory turns; condition: the slices can be read. -/
import Derived.OwnWalk
import Derived.Test.YtklhaanapembdaaM15
import Derived.Test.YtklhaanapembdaaCurvI
import Derived.Test.YtklhaanapembdaaM27

namespace Go.Proofs.Ytklhaanapembdaa
open Go.RowKit

theorem AtS.rows {g : Nat} {S : Bnds} {w : World} (h : AtS g S w) : IsRow .i64 w (some ⟨g, 0, none⟩) 4 4 (jl S.low) ∧ IsRow .i64 w (some ⟨g, 6, none⟩) 4 4 (jl S.high) ∧ IsRow .i64 w (some ⟨g, 12, none⟩) 4 4 (jl S.never) := by
  obtain ⟨s0, s1, s2, s3, s4, s5, s6, s7, s8, s9, s10, s11, s12, s13, s14, s15, s16, s17, s18, s19, s20⟩ := h.cells
  have hb := blk_lt h
  exact ⟨row4 hb s0 s1 s2 s3, row4 hb s6 s7 s8 s9, row4 hb s12 s13 s14 s15⟩
set_option maxRecDepth 100000 in
set_option maxHeartbeats 4000000 in
theorem whyNot_any (a0 a1 a2 : Option Addr) (n0 c0 n1 c1 n2 c2 : Nat) (ls lo hi : List Int) (w : World) (h : IsB a0 a1 a2 n0 c0 n1 c1 n2 c2 ls lo hi w) :
    Calls Try.prog 23 #[.agg #[.slice a0 n0 c0, .slice a1 n1 c1, .slice a2 n2 c2]] w (New2 w (wnL ls lo hi) (wnH ls lo hi) (wnC ls lo hi)) := by
  have H := Lib.hid h
  cases g : blkB ls lo hi
  · obtain ⟨e1, e2, e3⟩ := wn_bad g
    rw [e1, e2, e3]
    have G := Lib.hid g
    clear h g e1 e2 e3
    go_enter Try.func23, Try.ntmps23
    go_wp2_with fail
    refine (validBlocks_any _ _ _ _ _ _ _ _ _ _ _ _ _ (H.out.below (by repeat (first | exact Below.refl _ _ | assumption | refine Below.drew ?_ | refine below_drewN ?_ _ | refine Below.alloc ?_ (by first | omega | (simp; done) | (simp; omega)) _ | refine Below.setCell ?_ (by first | omega | (simp; done) | (simp; omega)) _)))).mono ?_
    rintro e1 w1 ⟨rfl, hb1⟩
    obtain ⟨hc1, hf1⟩ := bcell hb1
    have hz1 := hb1.size
    try simp at hz1
    have ha1 : Below w.heap.size w w1 := below_call (by repeat (first | exact Below.refl _ _ | assumption | refine Below.drew ?_ | refine below_drewN ?_ _ | refine Below.alloc ?_ (by first | omega | (simp; done) | (simp; omega)) _ | refine Below.setCell ?_ (by first | omega | (simp; done) | (simp; omega)) _)) hb1
    rw [G.out]
    go_wp2
    go_ret3
    exact new2_mk (w1 := w1) (ownI_nil _ _) (ownI_nil _ _) (by repeat (first | exact Below.refl _ _ | assumption | refine Below.drew ?_ | refine below_drewN ?_ _ | refine Below.alloc ?_ (by first | omega | (simp; done) | (simp; omega)) _ | refine Below.setCell ?_ (by first | omega | (simp; done) | (simp; omega)) _)) (Below.refl _ _)
  · have HVB := Lib.hid (fun W hW => validBlocks_any a0 a1 a2 n0 c0 n1 c1 n2 c2 ls lo hi W hW)
    rw [g] at HVB
    have HGD := Lib.hid (bfind_good g)
    have HHH := Lib.hid (bfind_hh g)
    have HBO := Lib.hid (fun W hW => boundsOf_any a0 a1 a2 n0 c0 n1 c1 n2 c2 ls lo hi W hW g)
    have HW1 := Lib.hid (@wn_stand ls lo hi g)
    have HW2 := Lib.hid (@wn_never ls lo hi g)
    have HW3 := Lib.hid (@wn_high ls lo hi g)
    have HW4 := Lib.hid (@wn_both ls lo hi g)
    clear h g
    generalize bfind ls lo hi = S at *
    generalize wnC ls lo hi = C at *
    generalize wnL ls lo hi = L at *
    generalize wnH ls lo hi = Z at *
    have HST := Lib.hid (fun W => standsI_any S W HGD.out)
    obtain ⟨B, hB⟩ : ∃ B, standB S = B := ⟨_, rfl⟩
    rw [hB] at HST HW1 HW2 HW3 HW4
    have HSB := Lib.hid hB
    clear hB
    go_enter Try.func23, Try.ntmps23
    go_wp2_with fail
    refine (HVB.out _ (H.out.below (by repeat (first | exact Below.refl _ _ | assumption | refine Below.drew ?_ | refine below_drewN ?_ _ | refine Below.alloc ?_ (by first | omega | (simp; done) | (simp; omega)) _ | refine Below.setCell ?_ (by first | omega | (simp; done) | (simp; omega)) _)))).mono ?_
    rintro e1 w1 ⟨rfl, hb1⟩
    obtain ⟨hc1, hf1⟩ := bcell hb1
    have hz1 := hb1.size
    try simp at hz1
    have ha1 : Below w.heap.size w w1 := below_call (by repeat (first | exact Below.refl _ _ | assumption | refine Below.drew ?_ | refine below_drewN ?_ _ | refine Below.alloc ?_ (by first | omega | (simp; done) | (simp; omega)) _ | refine Below.setCell ?_ (by first | omega | (simp; done) | (simp; omega)) _)) hb1
    have F : Hid (w1.heap[w.heap.size]? = some _) := blk_call (by first | (refine blk_new' _ _ ?_; simp; done) | (refine blk_alloc (blk_new' _ _ ?_); simp; done) | (refine blk_alloc (blk_alloc (blk_new' _ _ ?_)); simp; done)) hb1
    have F_0 := cellOf F.out 0
    simp at F_0
    have F_1 := cellOf F.out 1
    simp at F_1
    have F_2 := cellOf F.out 2
    simp at F_2
    have F_lt := blk_lt F.out
    have F_le := Nat.le_of_lt F_lt
    have F_l1 := Nat.le_succ_of_le F_le
    go_wp2_with fail
    refine (HBO.out _ (H.out.below (by repeat (first | exact Below.refl _ _ | assumption | refine Below.drew ?_ | refine below_drewN ?_ _ | refine Below.alloc ?_ (by first | omega | (simp; done) | (simp; omega)) _ | refine Below.setCell ?_ (by first | omega | (simp; done) | (simp; omega)) _)))).mono ?_
    rintro e w2 ⟨rfl, hb2⟩
    have hz2 := hb2.size
    have ha2 : Below w.heap.size w w2 := below_call (by repeat (first | exact Below.refl _ _ | assumption | refine Below.drew ?_ | refine below_drewN ?_ _ | refine Below.alloc ?_ (by first | omega | (simp; done) | (simp; omega)) _ | refine Below.setCell ?_ (by first | omega | (simp; done) | (simp; omega)) _)) hb2
    clear hc1 hf1 F_0 F_1 F_2 F_lt F_le F_l1 F
    have hAa : AtS w2.heap.size bnds0 (w2.alloc (.cells (bcells bnds0) 87)) := blk_new _ _
    have hba : Below w.heap.size w (w2.alloc (.cells (bcells bnds0) 87)) := ha2.alloc ha2.size _
    go_wp2_with (first | (refine wpList_loadS (by rfl) _ (by rfl) w2.heap.size S (by rfl) hA3 ?_) | (refine wpList_storeN (by rfl) _ _ (by rfl) w2.heap.size S bnds0 (by rfl) (by rfl) hAa ?_; intro w3 hA3 hb3 hf3 hs3; (have ha3 := hb3 _ _ hba (by omega)); (simp at hs3); clear hb3 hf3 hba hAa))
    refine (HST.out _).mono ?_
    rintro e w4 ⟨rfl, hb4⟩
    have hz4 := hb4.size
    have ha4 : Below w.heap.size w w4 := below_call ha3 hb4
    have hA4 : AtS w2.heap.size S w4 := blk_call hA3 hb4
    clear hA3 hb4
    cases B
    · obtain ⟨s0, s1, s2, s3, s4, s5, s6, s7, s8, s9, s10, s11, s12, s13, s14, s15, s16, s17, s18, s19, s20⟩ := hA4.cells
      obtain ⟨R1, R2, R3⟩ := hA4.rows
      have HR1 := Lib.hid R1
      have HR2 := Lib.hid R2
      have HR3 := Lib.hid R3
      clear R1 R2 R3 hA4
      cases hn : S.hn
      · by_cases ha : S.high.a < 0
        · obtain ⟨k1, k2, k3⟩ := both_low HGD.out HHH.out HSB.out hn ha
          obtain ⟨e1, e2, e3⟩ := HW4.out rfl hn ha
          subst e1 e2 e3
          rw [hn] at s20
          rw [k1] at s18
          have y1 : decide (S.low.a ≤ 0) = false := decide_eq_false (by omega)
          have y2 : decide (0 ≤ S.high.a) = false := decide_eq_false (by omega)
          have hD1 := HR1.out.below (w' := w4.drew) (by repeat (first | exact Below.refl _ _ | assumption | refine Below.drew ?_ | refine below_drewN ?_ _ | refine Below.alloc ?_ (by first | omega | (simp; done) | (simp; omega)) _ | refine Below.setCell ?_ (by first | omega | (simp; done) | (simp; omega)) _))
          have hD2 := HR2.out.below (w' := w4.drew) (by repeat (first | exact Below.refl _ _ | assumption | refine Below.drew ?_ | refine below_drewN ?_ _ | refine Below.alloc ?_ (by first | omega | (simp; done) | (simp; omega)) _ | refine Below.setCell ?_ (by first | omega | (simp; done) | (simp; omega)) _))
          have hD : IsRow .i64 w4.drew (some ⟨w2.heap.size, 0, none⟩) 4 4 (jl S.low) ∧ IsRow .i64 w4.drew (some ⟨w2.heap.size, 6, none⟩) 4 4 (jl S.high) := ⟨hD1, hD2⟩
          go_wp2_with fail
          go_region_held3 (fun w' => IsRow .i64 w' (some ⟨w2.heap.size, 0, none⟩) 4 4 (jl S.low) ∧ IsRow .i64 w' (some ⟨w2.heap.size, 6, none⟩) 4 4 (jl S.high)) (first | (with_reducible assumption) | (with_reducible exact hD))
            (first | (go_at_call 70; (with_reducible refine (clone_any w2.heap.size 0 4 4 (jl S.low) _ hD1 (by omega)).mono ?_); rintro e wx ⟨ax, cx, rfl, hOx, hbx⟩; have hx2 := hD2.below hbx; have hS := And.intro (hD1.below hbx) hx2; have HOx := Lib.hid hOx; clear hOx) | (go_at_call 70; (with_reducible refine (clone_any w2.heap.size 6 4 4 (jl S.high) _ hx2 (by omega)).mono ?_); rintro e wy ⟨ay, cy, rfl, hOy, hby⟩; have hS := And.intro (hS.1.below hby) (hx2.below hby); have HOy := Lib.hid hOy; clear hOy))
          all_goals
            go_wp2
            go_ret3
            exact new2_mk (HOx.out.base (by simpa using ha4.size)) HOy.out (below_call (below_drewN ha4 1) hbx) hby
        · obtain ⟨e1, e2, e3⟩ := HW3.out rfl hn (by omega)
          subst e1 e2 e3
          rw [hn] at s20
          have y2 : decide (0 ≤ S.high.a) = true := decide_eq_true (by omega)
          have y : S.hl = false ∨ (S.hl = true ∧ ∃ B, decide (S.low.a ≤ 0) = B) := by
            cases S.hl
            · exact .inl rfl
            · exact .inr ⟨rfl, _, rfl⟩
          rcases y with y | ⟨y, B, y1⟩
          · rw [y] at s18
            go_wp2_with fail
            refine (clone_any _ _ _ _ _ _ HR2.out (by omega)).mono ?_
            rintro e w5 ⟨a5, c5, rfl, hO5, hb5⟩
            have HO := Lib.hid hO5
            clear hO5
            go_wp2
            go_ret3
            exact new2_mk (ownI_nil _ _) HO.out ha4 hb5
          · rw [y] at s18
            cases B <;>
            · go_wp2_with fail
              refine (clone_any _ _ _ _ _ _ HR2.out (by omega)).mono ?_
              rintro e w5 ⟨a5, c5, rfl, hO5, hb5⟩
              have HO := Lib.hid hO5
              clear hO5
              go_wp2
              go_ret3
              exact new2_mk (ownI_nil _ _) HO.out ha4 hb5
      · obtain ⟨e1, e2, e3⟩ := HW2.out rfl hn
        subst e1 e2 e3
        rw [hn] at s20
        go_wp2_with fail
        refine (clone_any _ _ _ _ _ _ HR3.out (by omega)).mono ?_
        rintro e w5 ⟨a5, c5, rfl, hO5, hb5⟩
        have HO := Lib.hid hO5
        clear hO5
        go_wp2
        go_ret3
        exact new2_mk (ownI_nil _ _) HO.out ha4 hb5
    · obtain ⟨e1, e2, e3⟩ := HW1.out rfl
      subst e1 e2 e3
      go_wp2
      go_ret3
      exact new2_mk (w1 := w4) (ownI_nil _ _) (ownI_nil _ _) ha4 (Below.refl _ _)
end Go.Proofs.Ytklhaanapembdaa
