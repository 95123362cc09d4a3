/- Contract of the reference's WhyNot; no old memory turns; condition: the slices can be read. -/
import Derived.Test.YtklhaanapembdaaWhyP
import Derived.Test.YtklhaanapembdaaCanS
import Derived.Test.YtklhaanapembdaaOwn
import Derived.OwnWalk
namespace Go.Proofs.Ytklhaanapembdaa
open Go.RowKit

theorem FindAt.joints {base b : Nat} {W : World} {v : Value} {l : List Cnd} {gs : List Nat} {F : Fnd} (h : FindAt base W b v l gs F) {i : Nat} (hi : i < l.length) : IsRow .i64 W (some ⟨gs.getD i 0, 0, none⟩) 4 4 (jl (at0 l (i : Int))) := by
  have hg : gs[i]? = some (gs.getD i 0) := by
    have : i < gs.length := by rw [h.2.1.1]; exact hi
    rw [List.getD_eq_getElem?_getD, List.getElem?_eq_getElem this]; rfl
  obtain ⟨_, _, h3⟩ := h.2.1.2.2 i _ hg
  have hb := blk_lt h3
  exact row4 hb (by rw [cellOf h3]; rfl) (by rw [cellOf h3]; rfl) (by rw [cellOf h3]; rfl) (by rw [cellOf h3]; rfl)
set_option maxRecDepth 100000 in
set_option maxHeartbeats 8000000 in
theorem specWhyNot_any (a0 a1 a2 : Option Addr) (n0 c0 n1 c1 n2 c2 : Nat) (ls lo hi : List Int) (w : World) (h : IsB a0 a1 a2 n0 c0 n1 c1 n2 c2 ls lo hi w) :
    Calls Try.prog 59 #[.agg #[.slice a0 n0 c0, .slice a1 n1 c1, .slice a2 n2 c2]] w (New2 w (wnL ls lo hi) (wnH ls lo hi) (wnC ls lo hi)) := by
  have H := Lib.hid h
  cases g : blkB ls lo hi
  · obtain ⟨e1, e2, e3⟩ := wn_bad g
    rw [e1, e2, e3]
    have G := Lib.hid g
    clear h g e1 e2 e3
    go_enter Try.func59, Try.ntmps59
    go_wp2_with fail
    refine (l13Ok_any _ _ _ _ _ _ _ _ _ _ _ _ _ _ (blk_new w _) (H.out.below (by repeat (first | exact Below.refl _ _ | assumption | refine Below.drew ?_ | refine below_drewN ?_ _ | refine Below.alloc ?_ (by first | omega | (simp; done) | (simp; omega)) _ | refine Below.setCell ?_ (by first | omega | (simp; done) | (simp; omega)) _)))).mono ?_
    rintro e1 w1 ⟨rfl, hb1⟩
    obtain ⟨hc1, hf1⟩ := bcell hb1
    have hz1 := hb1.size
    try simp at hz1
    have ha1 : Below w.heap.size w w1 := below_call (by repeat (first | exact Below.refl _ _ | assumption | refine Below.drew ?_ | refine below_drewN ?_ _ | refine Below.alloc ?_ (by first | omega | (simp; done) | (simp; omega)) _ | refine Below.setCell ?_ (by first | omega | (simp; done) | (simp; omega)) _)) hb1
    rw [G.out]
    go_wp2
    go_ret3
    exact new2_mk (w1 := w1) (ownI_nil _ _) (ownI_nil _ _) (by repeat (first | exact Below.refl _ _ | assumption | refine Below.drew ?_ | refine below_drewN ?_ _ | refine Below.alloc ?_ (by first | omega | (simp; done) | (simp; omega)) _ | refine Below.setCell ?_ (by first | omega | (simp; done) | (simp; omega)) _)) (Below.refl _ _)
  · have HOK := Lib.hid (fun W hF hW => l13Ok_any w.heap.size a0 a1 a2 n0 c0 n1 c1 n2 c2 ls lo hi W hF hW)
    rw [g] at HOK
    have HFI := Lib.hid (fun W x hx hW => found_any x a0 a1 a2 n0 c0 n1 c1 n2 c2 ls lo hi W hx hW g)
    have HGD := Lib.hid (bfind_good g)
    have HW1 := Lib.hid (@wn_stand ls lo hi g)
    have HW2 := Lib.hid (@wn_never ls lo hi g)
    have HW3 := Lib.hid (@wn_high ls lo hi g)
    have HW4 := Lib.hid (@wn_both ls lo hi g)
    clear h g
    generalize bfind ls lo hi = S at *
    generalize wnC ls lo hi = C at *
    generalize wnL ls lo hi = L at *
    generalize wnH ls lo hi = Z at *
    obtain ⟨B, hB⟩ : ∃ B, standB S = B := ⟨_, rfl⟩
    rw [hB] at HW1 HW2 HW3 HW4
    have HSB := Lib.hid hB
    clear hB
    go_enter Try.func59, Try.ntmps59
    go_wp2_with fail
    refine (HOK.out _ (blk_new w _) (H.out.below (by repeat (first | exact Below.refl _ _ | assumption | refine Below.drew ?_ | refine below_drewN ?_ _ | refine Below.alloc ?_ (by first | omega | (simp; done) | (simp; omega)) _ | refine Below.setCell ?_ (by first | omega | (simp; done) | (simp; omega)) _)))).mono ?_
    rintro e1 w1 ⟨rfl, hb1⟩
    obtain ⟨hc1, hf1⟩ := bcell hb1
    have hz1 := hb1.size
    try simp at hz1
    have ha1 : Below w.heap.size w w1 := below_call (by repeat (first | exact Below.refl _ _ | assumption | refine Below.drew ?_ | refine below_drewN ?_ _ | refine Below.alloc ?_ (by first | omega | (simp; done) | (simp; omega)) _ | refine Below.setCell ?_ (by first | omega | (simp; done) | (simp; omega)) _)) hb1
    have F : Hid (w1.heap[w.heap.size]? = some _) := blk_call (by first | (refine blk_new' _ _ ?_; simp; done) | (refine blk_alloc (blk_new' _ _ ?_); simp; done) | (refine blk_alloc (blk_alloc (blk_new' _ _ ?_)); simp; done)) hb1
    have F_0 := cellOf F.out 0
    simp at F_0
    have F_1 := cellOf F.out 1
    simp at F_1
    have F_2 := cellOf F.out 2
    simp at F_2
    have F_lt := blk_lt F.out
    have F_le := Nat.le_of_lt F_lt
    have F_l1 := Nat.le_succ_of_le F_le
    go_wp2_with fail
    refine (HFI.out _ _ F.out (H.out.below (by repeat (first | exact Below.refl _ _ | assumption | refine Below.drew ?_ | refine below_drewN ?_ _ | refine Below.alloc ?_ (by first | omega | (simp; done) | (simp; omega)) _ | refine Below.setCell ?_ (by first | omega | (simp; done) | (simp; omega)) _)))).mono ?_
    rintro e w2 ⟨b, v, l, gs, F', rfl, hFS, hb2⟩
    have hz2 := hb2.size
    have ha2 : Below w.heap.size w w2 := below_call (by repeat (first | exact Below.refl _ _ | assumption | refine Below.drew ?_ | refine below_drewN ?_ _ | refine Below.alloc ?_ (by first | omega | (simp; done) | (simp; omega)) _ | refine Below.setCell ?_ (by first | omega | (simp; done) | (simp; omega)) _)) hb2
    have HF := Lib.hid hFS
    clear hFS hb2 hc1 hf1 F_0 F_1 F_2 F_lt F_le F_l1 F
    go_wp2_with fail
    refine (foundStands_any _ _ _ _ _ _ _ _ HF.out).mono ?_
    rintro e w4 ⟨rfl, hb4⟩
    have hz4 := hb4.size
    have ha4 : Below w.heap.size w w4 := below_call ha2 hb4
    have HF4 := Lib.hid (HF.out.call hb4)
    clear HF hb4 HFI
    rw [HSB.out]
    cases B
    · obtain ⟨gv, cap, rfl, hv1, hv2⟩ := HF4.out.at'.2.1.shape (by have h0 := HF4.out.high0; have h1 := HF4.out.high1; omega)
      obtain ⟨s0, s1, s2, s3⟩ := HF4.out.at'.cells
      obtain ⟨nv, lw, hg⟩ := F'
      simp only at s0 s1 s2 s3
      have hh0 := HF4.out.high0
      have hh1 := HF4.out.high1
      simp only at hh0 hh1
      obtain ⟨m, rfl⟩ : ∃ m : Nat, hg = (m : Int) := ⟨hg.toNat, by omega⟩
      have hmi : m < l.length := by omega
      have z1 : (m : Int) < (l.length : Int) := by omega
      have z3 : (0 : Int) ≤ (m : Int) := by omega
      obtain ⟨d0, d1, d2⟩ := HF4.out.at'.2.1.get hmi
      have RH := HF4.out.at'.joints hmi
      have hhi := HF4.out.high
      simp only at hhi
      rw [hhi] at d0 d1 RH
      obtain ⟨gm, hgm⟩ : ∃ gm, gs.getD m 0 = gm := ⟨_, rfl⟩
      rw [hgm] at d2 RH
      clear hgm hhi hh0 hh1 d1
      have hnev := HF4.out.never
      simp only at hnev
      rcases hnev with ⟨hn, rfl⟩ | ⟨hn, hn0, hn1, hn2⟩
      · by_cases ha : S.high.a < 0
        · obtain ⟨k1, k2, k3⟩ := both_low HGD.out HF4.out.hh HSB.out hn ha
          obtain ⟨e1, e2, e3⟩ := HW4.out rfl hn ha
          subst e1 e2 e3
          have y2 : decide (0 ≤ S.high.a) = false := decide_eq_false (by omega)
          have hlow := HF4.out.low
          simp only at hlow
          have hlow2 : 0 ≤ lw ∧ lw < l.length ∧ at0 l lw = S.low := by
            rcases hlow with ⟨_, hx⟩ | ⟨_, hx0, hx1, hx2, _, _⟩
            · rcases hx with hx | ⟨_, _, hx⟩
              · rw [k1] at hx; cases hx
              · omega
            · exact ⟨hx0, hx1, hx2⟩
          obtain ⟨hx0, hx1, hx2⟩ := hlow2
          obtain ⟨k, rfl⟩ : ∃ k : Nat, lw = (k : Int) := ⟨lw.toNat, by omega⟩
          have hki : k < l.length := by omega
          have z5 : (k : Int) < (l.length : Int) := by omega
          have z6 : (0 : Int) ≤ (k : Int) := by omega
          obtain ⟨e0, e1, eK⟩ := HF4.out.at'.2.1.get hki
          have RL := HF4.out.at'.joints hki
          rw [hx2] at RL
          obtain ⟨gk, hgk⟩ : ∃ gk, gs.getD k 0 = gk := ⟨_, rfl⟩
          rw [hgk] at eK RL
          clear hgk e0 e1 hx0 hx1 hx2 hlow k1 k2 k3
          go_wp2_with fail
          go_quiet (fail)
          go_wp2_with fail
          generalize hW : w4.drewN _ = W
          have hBW : Below w4.heap.size w4 W := by rw [← hW]; exact (by repeat (first | exact Below.refl _ _ | assumption | refine Below.drew ?_ | refine below_drewN ?_ _ | refine Below.alloc ?_ (by first | omega | (simp; done) | (simp; omega)) _ | refine Below.setCell ?_ (by first | omega | (simp; done) | (simp; omega)) _))
          have haW : Below w.heap.size w W := below_call ha4 hBW
          clear hW
          have t0 := keep1 hBW s0
          have t2 := keep1 hBW s2
          have t3 := keep1 hBW s3
          have tk := keep1 hBW eK
          have tm := keep1 hBW d2
          have hD1 := (RL.below hBW).below (w' := W.drew) (by repeat (first | exact Below.refl _ _ | assumption | refine Below.drew ?_ | refine below_drewN ?_ _ | refine Below.alloc ?_ (by first | omega | (simp; done) | (simp; omega)) _ | refine Below.setCell ?_ (by first | omega | (simp; done) | (simp; omega)) _))
          have hD2 := (RH.below hBW).below (w' := W.drew) (by repeat (first | exact Below.refl _ _ | assumption | refine Below.drew ?_ | refine below_drewN ?_ _ | refine Below.alloc ?_ (by first | omega | (simp; done) | (simp; omega)) _ | refine Below.setCell ?_ (by first | omega | (simp; done) | (simp; omega)) _))
          have hD : W.drew.cell? ⟨b, 0, none⟩ = some (.slice (some ⟨gv, 0, none⟩) l.length cap) ∧ W.drew.cell? ⟨b, 2, none⟩ = some (.int .i64 (k : Int)) ∧ W.drew.cell? ⟨b, 3, none⟩ = some (.int .i64 (m : Int)) ∧ W.drew.cell? ⟨gv, k * 3 + 2, none⟩ = some (.slice (some ⟨gk, 0, none⟩) 4 4) ∧ W.drew.cell? ⟨gv, m * 3 + 2, none⟩ = some (.slice (some ⟨gm, 0, none⟩) 4 4) ∧ IsRow .i64 W.drew (some ⟨gk, 0, none⟩) 4 4 (jl S.low) ∧ IsRow .i64 W.drew (some ⟨gm, 0, none⟩) 4 4 (jl S.high) := ⟨t0, t2, t3, tk, tm, hD1, hD2⟩
          clear s0 s1 s2 s3 eK d2 RL RH
          go_region_held3 (fun w' => w'.cell? ⟨b, 0, none⟩ = some (.slice (some ⟨gv, 0, none⟩) l.length cap) ∧ w'.cell? ⟨b, 2, none⟩ = some (.int .i64 (k : Int)) ∧ w'.cell? ⟨b, 3, none⟩ = some (.int .i64 (m : Int)) ∧ w'.cell? ⟨gv, k * 3 + 2, none⟩ = some (.slice (some ⟨gk, 0, none⟩) 4 4) ∧ w'.cell? ⟨gv, m * 3 + 2, none⟩ = some (.slice (some ⟨gm, 0, none⟩) 4 4) ∧ IsRow .i64 w' (some ⟨gk, 0, none⟩) 4 4 (jl S.low) ∧ IsRow .i64 w' (some ⟨gm, 0, none⟩) 4 4 (jl S.high)) (first | (with_reducible assumption) | (with_reducible exact hD))
            (first | (go_at_call 102; (with_reducible refine (l00Own_any (some ⟨gk, 0, none⟩) 4 4 (jl S.low) _ hD1 (by omega)).mono ?_); rintro e wx ⟨ax, cx, rfl, hOx, hbx⟩; have hx2 := hD2.below hbx; have hS : wx.cell? ⟨b, 0, none⟩ = some (.slice (some ⟨gv, 0, none⟩) l.length cap) ∧ wx.cell? ⟨b, 2, none⟩ = some (.int .i64 (k : Int)) ∧ wx.cell? ⟨b, 3, none⟩ = some (.int .i64 (m : Int)) ∧ wx.cell? ⟨gv, k * 3 + 2, none⟩ = some (.slice (some ⟨gk, 0, none⟩) 4 4) ∧ wx.cell? ⟨gv, m * 3 + 2, none⟩ = some (.slice (some ⟨gm, 0, none⟩) 4 4) ∧ IsRow .i64 wx (some ⟨gk, 0, none⟩) 4 4 (jl S.low) ∧ IsRow .i64 wx (some ⟨gm, 0, none⟩) 4 4 (jl S.high) := ⟨keep1 hbx hD.1, keep1 hbx hD.2.1, keep1 hbx hD.2.2.1, keep1 hbx hD.2.2.2.1, keep1 hbx hD.2.2.2.2.1, hD1.below hbx, hx2⟩; have HOx := Lib.hid hOx; clear hOx) | (go_at_call 102; (with_reducible refine (l00Own_any (some ⟨gm, 0, none⟩) 4 4 (jl S.high) _ hx2 (by omega)).mono ?_); rintro e wy ⟨ay, cy, rfl, hOy, hby⟩; have hS : wy.cell? ⟨b, 0, none⟩ = some (.slice (some ⟨gv, 0, none⟩) l.length cap) ∧ wy.cell? ⟨b, 2, none⟩ = some (.int .i64 (k : Int)) ∧ wy.cell? ⟨b, 3, none⟩ = some (.int .i64 (m : Int)) ∧ wy.cell? ⟨gv, k * 3 + 2, none⟩ = some (.slice (some ⟨gk, 0, none⟩) 4 4) ∧ wy.cell? ⟨gv, m * 3 + 2, none⟩ = some (.slice (some ⟨gm, 0, none⟩) 4 4) ∧ IsRow .i64 wy (some ⟨gk, 0, none⟩) 4 4 (jl S.low) ∧ IsRow .i64 wy (some ⟨gm, 0, none⟩) 4 4 (jl S.high) := ⟨keep1 hby hS.1, keep1 hby hS.2.1, keep1 hby hS.2.2.1, keep1 hby hS.2.2.2.1, keep1 hby hS.2.2.2.2.1, hS.2.2.2.2.2.1.below hby, hx2.below hby⟩; have HOy := Lib.hid hOy; clear hOy))
          all_goals
            go_wp2
            go_ret3
            exact new2_mk (HOx.out.base (by simpa using haW.size)) HOy.out (below_call (below_drewN haW 1) hbx) hby
        · obtain ⟨e1, e2, e3⟩ := HW3.out rfl hn (by omega)
          subst e1 e2 e3
          have y2 : decide (0 ≤ S.high.a) = true := decide_eq_true (by omega)
          go_wp2_with fail
          go_quiet (fail)
          go_wp2_with fail
          generalize hW : w4.drewN _ = W
          have hBW : Below w4.heap.size w4 W := by rw [← hW]; exact (by repeat (first | exact Below.refl _ _ | assumption | refine Below.drew ?_ | refine below_drewN ?_ _ | refine Below.alloc ?_ (by first | omega | (simp; done) | (simp; omega)) _ | refine Below.setCell ?_ (by first | omega | (simp; done) | (simp; omega)) _))
          have haW : Below w.heap.size w W := below_call ha4 hBW
          clear hW
          replace s0 := keep1 hBW s0
          have sI := keep1 hBW s3
          have eI := keep1 hBW d2
          have RJ := RH.below hBW
          clear s1 s2 s3 d2 RH d0 ha4
          obtain ⟨gq, rfl⟩ : ∃ gq, gq = gm := ⟨_, rfl⟩
          have hD : W.drew.cell? ⟨b, 0, none⟩ = some (.slice (some ⟨gv, 0, none⟩) l.length cap) ∧ W.drew.cell? ⟨b, 3, none⟩ = some (.int .i64 (m : Int)) ∧ W.drew.cell? ⟨gv, m * 3 + 2, none⟩ = some (.slice (some ⟨gq, 0, none⟩) 4 4) ∧ IsRow .i64 W.drew (some ⟨gq, 0, none⟩) 4 4 (jl S.high) := ⟨s0, sI, eI, RJ.below (by repeat (first | exact Below.refl _ _ | assumption | refine Below.drew ?_ | refine below_drewN ?_ _ | refine Below.alloc ?_ (by first | omega | (simp; done) | (simp; omega)) _ | refine Below.setCell ?_ (by first | omega | (simp; done) | (simp; omega)) _))⟩
          have hDA : ∀ o, (W.alloc o).drew.cell? ⟨b, 0, none⟩ = some (.slice (some ⟨gv, 0, none⟩) l.length cap) ∧ (W.alloc o).drew.cell? ⟨b, 3, none⟩ = some (.int .i64 (m : Int)) ∧ (W.alloc o).drew.cell? ⟨gv, m * 3 + 2, none⟩ = some (.slice (some ⟨gq, 0, none⟩) 4 4) ∧ IsRow .i64 (W.alloc o).drew (some ⟨gq, 0, none⟩) 4 4 (jl S.high) := fun o => ⟨keepA s0, keepA sI, keepA eI, RJ.below (by repeat (first | exact Below.refl _ _ | assumption | refine Below.drew ?_ | refine below_drewN ?_ _ | refine Below.alloc ?_ (by first | omega | (simp; done) | (simp; omega)) _ | refine Below.setCell ?_ (by first | omega | (simp; done) | (simp; omega)) _))⟩
          go_wp2_with fail
          go_region_held3 (fun w' => w'.cell? ⟨b, 0, none⟩ = some (.slice (some ⟨gv, 0, none⟩) l.length cap) ∧ w'.cell? ⟨b, 3, none⟩ = some (.int .i64 (m : Int)) ∧ w'.cell? ⟨gv, m * 3 + 2, none⟩ = some (.slice (some ⟨gq, 0, none⟩) 4 4) ∧ IsRow .i64 w' (some ⟨gq, 0, none⟩) 4 4 (jl S.high)) (first | (with_reducible assumption) | (with_reducible exact hD) | (with_reducible exact hDA _) | (refine ⟨keepA hS.1, keepA hS.2.1, keepA hS.2.2.1, IsRow.below hS.2.2.2 (by repeat (first | exact Below.refl _ _ | assumption | refine Below.drew ?_ | refine below_drewN ?_ _ | refine Below.alloc ?_ (by first | omega | (simp; done) | (simp; omega)) _ | refine Below.setCell ?_ (by first | omega | (simp; done) | (simp; omega)) _))⟩))
            ((go_at_call 102; (with_reducible refine (l00Own_any (some ⟨gq, 0, none⟩) 4 4 (jl S.high) _ (by first | exact hD.2.2.2 | exact (hDA _).2.2.2) (by omega)).mono ?_); rintro e wx ⟨ax, cx, rfl, hOx, hbx⟩; have hS : wx.cell? ⟨b, 0, none⟩ = some (.slice (some ⟨gv, 0, none⟩) l.length cap) ∧ wx.cell? ⟨b, 3, none⟩ = some (.int .i64 (m : Int)) ∧ wx.cell? ⟨gv, m * 3 + 2, none⟩ = some (.slice (some ⟨gq, 0, none⟩) 4 4) ∧ IsRow .i64 wx (some ⟨gq, 0, none⟩) 4 4 (jl S.high) := (by first | exact ⟨keep1 hbx hD.1, keep1 hbx hD.2.1, keep1 hbx hD.2.2.1, hD.2.2.2.below hbx⟩ | exact ⟨keep1 hbx (hDA _).1, keep1 hbx (hDA _).2.1, keep1 hbx (hDA _).2.2.1, (hDA _).2.2.2.below hbx⟩); have HOx := Lib.hid hOx; clear hOx))
          all_goals
            go_wp2
            go_ret3
            first
            | exact new2_mk' (w1 := wx) (HOx.out.base (by simpa using haW.size)) (ownI_empty _ _ (Nat.le_refl _)) (below_call (below_drewN haW 1) hbx) ((Below.refl _ _).alloc (Nat.le_refl _) _)
            | exact new2_mk (w1 := (W.alloc (.cells #[] 2)).drew) (OwnI.below (ownI_empty W _ haW.size) (below_drewN (Below.refl _ _) 1)) HOx.out (below_drewN (haW.alloc haW.size _) 1) hbx
      · obtain ⟨e1, e2, e3⟩ := HW2.out rfl hn
        subst e1 e2 e3
        obtain ⟨k, rfl⟩ : ∃ k : Nat, nv = (k : Int) := ⟨nv.toNat, by omega⟩
        have hki : k < l.length := by omega
        have z5 : (k : Int) < (l.length : Int) := by omega
        have z6 : (0 : Int) ≤ (k : Int) := by omega
        have y2 : decide ((0 : Int) ≤ (k : Int)) = true := decide_eq_true z6
        obtain ⟨e0, e1, eK⟩ := HF4.out.at'.2.1.get hki
        have RL := HF4.out.at'.joints hki
        rw [hn2] at RL
        obtain ⟨gq, hgq⟩ : ∃ gq, gs.getD k 0 = gq := ⟨_, rfl⟩
        rw [hgq] at eK RL
        clear hgq e0 e1 hn0 hn1 hn2 d0 d2 RH s2 s3
        go_wp2_with fail
        obtain ⟨W, hWe⟩ : ∃ W, W = w4 := ⟨_, rfl⟩
        have haW : Below w.heap.size w W := by rw [hWe]; exact ha4
        rw [← hWe] at s0 s1 eK RL ⊢
        have sI := s1
        have eI := eK
        have RJ := RL
        clear hWe s1 eK RL ha4
        have hD : W.drew.cell? ⟨b, 0, none⟩ = some (.slice (some ⟨gv, 0, none⟩) l.length cap) ∧ W.drew.cell? ⟨b, 1, none⟩ = some (.int .i64 (k : Int)) ∧ W.drew.cell? ⟨gv, k * 3 + 2, none⟩ = some (.slice (some ⟨gq, 0, none⟩) 4 4) ∧ IsRow .i64 W.drew (some ⟨gq, 0, none⟩) 4 4 (jl S.never) := ⟨s0, sI, eI, RJ.below (by repeat (first | exact Below.refl _ _ | assumption | refine Below.drew ?_ | refine below_drewN ?_ _ | refine Below.alloc ?_ (by first | omega | (simp; done) | (simp; omega)) _ | refine Below.setCell ?_ (by first | omega | (simp; done) | (simp; omega)) _))⟩
        have hDA : ∀ o, (W.alloc o).drew.cell? ⟨b, 0, none⟩ = some (.slice (some ⟨gv, 0, none⟩) l.length cap) ∧ (W.alloc o).drew.cell? ⟨b, 1, none⟩ = some (.int .i64 (k : Int)) ∧ (W.alloc o).drew.cell? ⟨gv, k * 3 + 2, none⟩ = some (.slice (some ⟨gq, 0, none⟩) 4 4) ∧ IsRow .i64 (W.alloc o).drew (some ⟨gq, 0, none⟩) 4 4 (jl S.never) := fun o => ⟨keepA s0, keepA sI, keepA eI, RJ.below (by repeat (first | exact Below.refl _ _ | assumption | refine Below.drew ?_ | refine below_drewN ?_ _ | refine Below.alloc ?_ (by first | omega | (simp; done) | (simp; omega)) _ | refine Below.setCell ?_ (by first | omega | (simp; done) | (simp; omega)) _))⟩
        go_wp2_with fail
        go_region_held3 (fun w' => w'.cell? ⟨b, 0, none⟩ = some (.slice (some ⟨gv, 0, none⟩) l.length cap) ∧ w'.cell? ⟨b, 1, none⟩ = some (.int .i64 (k : Int)) ∧ w'.cell? ⟨gv, k * 3 + 2, none⟩ = some (.slice (some ⟨gq, 0, none⟩) 4 4) ∧ IsRow .i64 w' (some ⟨gq, 0, none⟩) 4 4 (jl S.never)) (first | (with_reducible assumption) | (with_reducible exact hD) | (with_reducible exact hDA _) | (refine ⟨keepA hS.1, keepA hS.2.1, keepA hS.2.2.1, IsRow.below hS.2.2.2 (by repeat (first | exact Below.refl _ _ | assumption | refine Below.drew ?_ | refine below_drewN ?_ _ | refine Below.alloc ?_ (by first | omega | (simp; done) | (simp; omega)) _ | refine Below.setCell ?_ (by first | omega | (simp; done) | (simp; omega)) _))⟩))
          ((go_at_call 102; (with_reducible refine (l00Own_any (some ⟨gq, 0, none⟩) 4 4 (jl S.never) _ (by first | exact hD.2.2.2 | exact (hDA _).2.2.2) (by omega)).mono ?_); rintro e wx ⟨ax, cx, rfl, hOx, hbx⟩; have hS : wx.cell? ⟨b, 0, none⟩ = some (.slice (some ⟨gv, 0, none⟩) l.length cap) ∧ wx.cell? ⟨b, 1, none⟩ = some (.int .i64 (k : Int)) ∧ wx.cell? ⟨gv, k * 3 + 2, none⟩ = some (.slice (some ⟨gq, 0, none⟩) 4 4) ∧ IsRow .i64 wx (some ⟨gq, 0, none⟩) 4 4 (jl S.never) := (by first | exact ⟨keep1 hbx hD.1, keep1 hbx hD.2.1, keep1 hbx hD.2.2.1, hD.2.2.2.below hbx⟩ | exact ⟨keep1 hbx (hDA _).1, keep1 hbx (hDA _).2.1, keep1 hbx (hDA _).2.2.1, (hDA _).2.2.2.below hbx⟩); have HOx := Lib.hid hOx; clear hOx))
        all_goals
          go_wp2
          go_ret3
          first
          | exact new2_mk' (w1 := wx) (HOx.out.base (by simpa using haW.size)) (ownI_empty _ _ (Nat.le_refl _)) (below_call (below_drewN haW 1) hbx) ((Below.refl _ _).alloc (Nat.le_refl _) _)
          | exact new2_mk (w1 := (W.alloc (.cells #[] 2)).drew) (OwnI.below (ownI_empty W _ haW.size) (below_drewN (Below.refl _ _) 1)) HOx.out (below_drewN (haW.alloc haW.size _) 1) hbx
    · obtain ⟨e1, e2, e3⟩ := HW1.out rfl
      subst e1 e2 e3
      go_wp2
      go_ret3
      exact new2_mk (w1 := w4) (ownI_nil _ _) (ownI_nil _ _) ha4 (Below.refl _ _)
end Go.Proofs.Ytklhaanapembdaa
