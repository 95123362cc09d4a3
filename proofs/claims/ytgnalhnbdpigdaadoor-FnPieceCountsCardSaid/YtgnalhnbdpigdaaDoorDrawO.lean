/- Contracts of the reference's drawing for the counts of bricks (l11Bent, DrawBricksOf, DrawBricksOfAll, DrawShareBricks, DrawWithWaste, DrawBricksForMetre, DrawMortarFor, DrawPieceText, DrawValidPieces): some numbers come, in slices that can be read; no old memory turns; condition: the bytes can be read. -/
import Derived.Test.YtgnalhnbdpigdaaDoorDrawN
import Derived.Deep.RegionLaw
import Derived.Deep.AppendLies
namespace Go.Proofs.YtgnalhnbdpigdaaDoor
set_option linter.unusedVariables false
open Go.RowKit

set_option maxRecDepth 100000 in
set_option maxHeartbeats 8000000 in
theorem l11Bent_any (b : Nat) (a : Option Addr) (len cap : Nat) (zs : List Int) (N : Int) (w : World) (h : Src w b a len cap zs N) (hN : N ≤ 90000) :
    Calls Tryd.prog 44 #[.pointer (some ⟨b, 0, none⟩)] w (DrewW w b a len cap zs (N + 160)) := by
  obtain ⟨i0, hi, hi0, hi1, hi2⟩ := info_parts info_p
  have hbl := h.lt
  have hrow := Lib.hid (src_row h)
  have H0 := Lib.hid h
  clear h
  go_enter Tryd.func44, Tryd.ntmps44
  go_wp2_with fail
  refine (pick_any b a len cap zs N 6 _ (H0.out.alloc _) (by omega) (by omega) (by omega)).mono ?_
  rintro e1 w1 ⟨r1, rfl, p1, p2, hs1, hg1⟩
  have o1 : w1.ownsRow w.heap.size 25 3 (.slice (some ⟨w.heap.size, 0, none⟩) 0 0) 0 [] := own_src (World.ownsRow_made w #[] 0 (Nat.le_refl _) (Nat.zero_le _) rfl) hg1 hbl
  have hgw1 := grown_trans (grown_alloc (World.grownBy.refl w (some b)) _) hg1
  clear hg1 H0
  go_wp2_with fail
  refine (one_any b a len cap zs _ 24 _ hs1 (by omega) (by omega) (by omega)).mono ?_
  rintro e2 w2 ⟨r2, rfl, hs2, hg2⟩
  have o2 := own_src o1 hg2 hbl
  have hgw2 := grown_trans hgw1 hg2
  clear hg2 hs1 o1 hgw1
  obtain ⟨m1, rfl⟩ := Int.eq_ofNat_of_zero_le p1
  cases r2
  · have hm : m1 ≤ 21 := by omega
    have hsx := hs2.mono (M := N + 8) (by omega)
    have ox := o2
    have hgx := hgw2
    clear hs2 o2 hgw2
    go_wp2_with fail
    go_loopw [3, 5] (fun v i wr => ∃ (k n : Nat) (xs : List Value), n + k = m1 ∧ i = .int .i64 (k : Int) ∧ wr.ownsRow w.heap.size 25 3 v n xs ∧ AllI xs ∧ Src wr b a len cap zs (N + 8 + 6 * (n : Int)) ∧ w.grownBy wr (some b)) (fun _ i _ => (intOf i).toNat)
    case atStart => exact ⟨m1, 0, [], by omega, rfl, ox, (fun _ hx => by cases hx), hsx.mono (by omega), hgx⟩
    case round =>
      obtain ⟨k, n, xs, hnk, rfl, ho, hx, hs, hg⟩ := hrel
      have HX := Lib.hid hx
      clear hx
      cases k with
      | succ k =>
        have hkp : (0 : Int) < ((k + 1 : Nat) : Int) := by omega
        go_wp2_with fail
        refine (l11New_any b a len cap zs _ _ hs (by omega)).mono ?_
        rintro e5 w5 ⟨x, y, z, rfl, hs5, hg5⟩
        have o5 := own_src ho hg5 hbl
        have HS5 := Lib.hid hs5
        have hgw5 := grown_trans hg hg5
        have hz5 := hgw5.size
        have HG5 := Lib.hid hgw5
        clear hg5 hs ho hg hs5 hgw5
        go_wp2_with (at_builtin; go_loud (refine wpList_append_new _ rfl _ _ 36 rfl _ 25 i0 (.agg #[.int .i64 0, .int .i64 0, .int .i64 0]) 3 24 Tryd.underlying36 hi hi0 hi1 hi2 rfl (by decide) _ _ _ rfl (World.ownsRow.alloc o5 _) ⟨w5.heap.size, 0, none⟩ 1 1 [.int .i64 x, .int .i64 y, .int .i64 z] rfl rfl (fun j u hu => World.news_of_block (blk_new w5 _) j u hu) (by simp [Value.oneCell']) (by unfold maxLen; omega) (by omega) (by first | omega | (simp; done) | (simp; omega)) (by decide) ?_); intro v' w1' hown1 hgrow1 hnew1)
        have hvb : ∀ g, u3.ownBlock = some g → w.heap.size ≤ g := fun g e => (World.ownsRow.lt o5 g e).1
        have HO1 := Lib.hid hown1
        have HS1 := Lib.hid ((HS5.out.alloc (.cells #[.int .i64 x, .int .i64 y, .int .i64 z] 25)).own hgrow1 hvb hbl hrow.out)
        have HG1 := Lib.hid (grown_own (grown_alloc HG5.out (.cells #[.int .i64 x, .int .i64 y, .int .i64 z] 25)) hgrow1 hvb)
        clear hown1 hgrow1 hnew1 hvb HS5 HG5 o5
        go_wp2
        go_roundw
        case rel => exact ⟨k, n + 1, xs ++ [.int .i64 x, .int .i64 y, .int .i64 z], by omega, by go_num, HO1.out, HX.out.snoc x y z, HS1.out.mono (by omega), HG1.out⟩
        case measure => first | (simp [intOf]; done) | (simp [intOf]; omega)
      | zero =>
        have hlt0 : ¬ (0 : Int) < ((0 : Nat) : Int) := by omega
        obtain rfl : m1 = n := by omega
        by_cases h0 : m1 = 0
        · have hd : decide ((0 : Int) < (m1 : Int)) = false := decide_eq_false (by omega)
          have HD : Hid (DrewW w b a len cap zs (N + 160) (.returned u3) wr) := Lib.hid ⟨_, _, _, rfl, ho, HX.out, hs.mono (by omega), hg⟩
          clear ho hs hg
          go_wp2
          go_ret
          exact HD.out
        · have hd : decide ((0 : Int) < (m1 : Int)) = true := decide_eq_true (by omega)
          go_wp2_with fail
          refine (one_any b a len cap zs _ 10 _ hs (by omega) (by omega) (by omega)).mono ?_
          rintro e5 w5 ⟨r5, rfl, hs5, hg5⟩
          have o5 := own_src ho hg5 hbl
          have hgw5 := grown_trans hg hg5
          clear hs ho hg hg5
          cases r5
          · have HD : Hid (DrewW w b a len cap zs (N + 160) (.returned u3) w5) := Lib.hid ⟨_, _, _, rfl, o5, HX.out, hs5.mono (by omega), hgw5⟩
            clear o5 hs5 hgw5
            go_wp2
            go_ret
            exact HD.out
          · go_wp2_with fail
            refine (pick_any b a len cap zs _ (m1 : Int) _ hs5 (by omega) (by omega) (by omega)).mono ?_
            rintro e6 w6 ⟨r6, rfl, p5, p6, hs6, hg6⟩
            obtain ⟨q, rfl⟩ := Int.eq_ofNat_of_zero_le p5
            have o6 := own_src o5 hg6 hbl
            have hgw6 := grown_trans hgw5 hg6
            obtain ⟨g, c, hv⟩ : ∃ g c, u3 = .slice (some ⟨g, 0, none⟩) m1 c := by
              rcases o6.2 with ⟨_, hz⟩ | ⟨g, c, _, hv, _⟩
              · omega
              · exact ⟨g, c, hv⟩
            subst hv
            have hgb := (World.ownsRow.lt o6 g rfl).1
            have hq : (q : Int) < (m1 : Int) := by omega
            have hqn : q < m1 := by omega
            have hxl := o6.1
            have HCL : Hid (∀ k, k < 3 → ∃ v, w6.cell? ⟨g, q * 3 + k, none⟩ = some v ∧ w6.frozen? ⟨g, q * 3 + k, none⟩ = false) := Lib.hid fun k hk => ⟨xs[q * 3 + k]'(by omega), by rw [o6.cellAt _ (by omega), List.getElem?_eq_getElem], o6.frozenAt _⟩
            have HS6 := Lib.hid hs6
            have HO6 := Lib.hid o6
            have HG6 := Lib.hid hgw6
            clear hs5 hg6 o5 hgw5 hs6 o6 hgw6 hxl
            go_wp2_with fail
            refine (l11Spoil_any b a len cap zs _ g (q * 3) _ HS6.out (by omega) (by omega) HCL.out).mono ?_
            rintro e7 w7 ⟨W, k, t, hk, rfl, hsW, hgW, rfl⟩
            have HD : Hid (DrewW w b a len cap zs (N + 160) (.returned (.slice (some ⟨g, 0, none⟩) m1 c)) (W.setCell ⟨g, q * 3 + k, none⟩ (.int .i64 t))) := Lib.hid
              ⟨_, m1, xs.set (q * 3 + k) (.int .i64 t), rfl, ((own_src HO6.out hgW hbl).stored (q * 3 + k) (.int .i64 t)).1, HX.out.set _ _,
                (hsW.setCell (p := ⟨g, q * 3 + k, none⟩) (by simp; omega) (fun h0 x hx => by have := hrow.out h0 x hx; simp; omega) (.int .i64 t)).mono (by omega), grown_new (grown_trans HG6.out hgW) (p := ⟨g, q * 3 + k, none⟩) hgb (.int .i64 t)⟩
            clear hsW hgW HO6 HG6 HS6 HCL
            go_wp2
            go_ret
            exact HD.out
  · go_wp2_with fail
    refine (pick_any b a len cap zs _ 2 _ hs2 (by omega) (by omega) (by omega)).mono ?_
    rintro e3 w3 ⟨r3, rfl, p3, p4, hs3, hg3⟩
    obtain ⟨m3, rfl⟩ := Int.eq_ofNat_of_zero_le p3
    have hm : 20 + m3 ≤ 21 := by omega
    have hsx := hs3.mono (M := N + 8) (by omega)
    have ox := own_src o2 hg3 hbl
    have hgx := grown_trans hgw2 hg3
    clear hs2 o2 hgw2 hg3 hs3
    have e20 : (20 : Int) + (m3 : Int) = ((20 + m3 : Nat) : Int) := by omega
    obtain ⟨mm, hmm⟩ : ∃ mm : Nat, 20 + m3 = mm := ⟨_, rfl⟩
    rw [hmm] at hm e20
    have i20 : IntKind.i64.wrap ((20 : Int) + (m3 : Int)) = (mm : Int) := by rw [e20]; exact IntWalk.i64_in _ (by omega)
    clear hmm e20 p3 p4
    go_wp2_with fail
    go_loopw [3, 5] (fun v i wr => ∃ (k n : Nat) (xs : List Value), n + k = mm ∧ i = .int .i64 (k : Int) ∧ wr.ownsRow w.heap.size 25 3 v n xs ∧ AllI xs ∧ Src wr b a len cap zs (N + 8 + 6 * (n : Int)) ∧ w.grownBy wr (some b)) (fun _ i _ => (intOf i).toNat)
    case atStart => exact ⟨mm, 0, [], by omega, rfl, ox, (fun _ hx => by cases hx), hsx.mono (by omega), hgx⟩
    case round =>
      obtain ⟨k, n, xs, hnk, rfl, ho, hx, hs, hg⟩ := hrel
      have HX := Lib.hid hx
      clear hx
      cases k with
      | succ k =>
        have hkp : (0 : Int) < ((k + 1 : Nat) : Int) := by omega
        go_wp2_with fail
        refine (l11New_any b a len cap zs _ _ hs (by omega)).mono ?_
        rintro e5 w5 ⟨x, y, z, rfl, hs5, hg5⟩
        have o5 := own_src ho hg5 hbl
        have HS5 := Lib.hid hs5
        have hgw5 := grown_trans hg hg5
        have hz5 := hgw5.size
        have HG5 := Lib.hid hgw5
        clear hg5 hs ho hg hs5 hgw5
        go_wp2_with (at_builtin; go_loud (refine wpList_append_new _ rfl _ _ 36 rfl _ 25 i0 (.agg #[.int .i64 0, .int .i64 0, .int .i64 0]) 3 24 Tryd.underlying36 hi hi0 hi1 hi2 rfl (by decide) _ _ _ rfl (World.ownsRow.alloc o5 _) ⟨w5.heap.size, 0, none⟩ 1 1 [.int .i64 x, .int .i64 y, .int .i64 z] rfl rfl (fun j u hu => World.news_of_block (blk_new w5 _) j u hu) (by simp [Value.oneCell']) (by unfold maxLen; omega) (by omega) (by first | omega | (simp; done) | (simp; omega)) (by decide) ?_); intro v' w1' hown1 hgrow1 hnew1)
        have hvb : ∀ g, u3.ownBlock = some g → w.heap.size ≤ g := fun g e => (World.ownsRow.lt o5 g e).1
        have HO1 := Lib.hid hown1
        have HS1 := Lib.hid ((HS5.out.alloc (.cells #[.int .i64 x, .int .i64 y, .int .i64 z] 25)).own hgrow1 hvb hbl hrow.out)
        have HG1 := Lib.hid (grown_own (grown_alloc HG5.out (.cells #[.int .i64 x, .int .i64 y, .int .i64 z] 25)) hgrow1 hvb)
        clear hown1 hgrow1 hnew1 hvb HS5 HG5 o5
        go_wp2
        go_roundw
        case rel => exact ⟨k, n + 1, xs ++ [.int .i64 x, .int .i64 y, .int .i64 z], by omega, by go_num, HO1.out, HX.out.snoc x y z, HS1.out.mono (by omega), HG1.out⟩
        case measure => first | (simp [intOf]; done) | (simp [intOf]; omega)
      | zero =>
        have hlt0 : ¬ (0 : Int) < ((0 : Nat) : Int) := by omega
        obtain rfl : mm = n := by omega
        by_cases h0 : mm = 0
        · have hd : decide ((0 : Int) < (mm : Int)) = false := decide_eq_false (by omega)
          have HD : Hid (DrewW w b a len cap zs (N + 160) (.returned u3) wr) := Lib.hid ⟨_, _, _, rfl, ho, HX.out, hs.mono (by omega), hg⟩
          clear ho hs hg
          go_wp2
          go_ret
          exact HD.out
        · have hd : decide ((0 : Int) < (mm : Int)) = true := decide_eq_true (by omega)
          go_wp2_with fail
          refine (one_any b a len cap zs _ 10 _ hs (by omega) (by omega) (by omega)).mono ?_
          rintro e5 w5 ⟨r5, rfl, hs5, hg5⟩
          have o5 := own_src ho hg5 hbl
          have hgw5 := grown_trans hg hg5
          clear hs ho hg hg5
          cases r5
          · have HD : Hid (DrewW w b a len cap zs (N + 160) (.returned u3) w5) := Lib.hid ⟨_, _, _, rfl, o5, HX.out, hs5.mono (by omega), hgw5⟩
            clear o5 hs5 hgw5
            go_wp2
            go_ret
            exact HD.out
          · go_wp2_with fail
            refine (pick_any b a len cap zs _ (mm : Int) _ hs5 (by omega) (by omega) (by omega)).mono ?_
            rintro e6 w6 ⟨r6, rfl, p5, p6, hs6, hg6⟩
            obtain ⟨q, rfl⟩ := Int.eq_ofNat_of_zero_le p5
            have o6 := own_src o5 hg6 hbl
            have hgw6 := grown_trans hgw5 hg6
            obtain ⟨g, c, hv⟩ : ∃ g c, u3 = .slice (some ⟨g, 0, none⟩) mm c := by
              rcases o6.2 with ⟨_, hz⟩ | ⟨g, c, _, hv, _⟩
              · omega
              · exact ⟨g, c, hv⟩
            subst hv
            have hgb := (World.ownsRow.lt o6 g rfl).1
            have hq : (q : Int) < (mm : Int) := by omega
            have hqn : q < mm := by omega
            have hxl := o6.1
            have HCL : Hid (∀ k, k < 3 → ∃ v, w6.cell? ⟨g, q * 3 + k, none⟩ = some v ∧ w6.frozen? ⟨g, q * 3 + k, none⟩ = false) := Lib.hid fun k hk => ⟨xs[q * 3 + k]'(by omega), by rw [o6.cellAt _ (by omega), List.getElem?_eq_getElem], o6.frozenAt _⟩
            have HS6 := Lib.hid hs6
            have HO6 := Lib.hid o6
            have HG6 := Lib.hid hgw6
            clear hs5 hg6 o5 hgw5 hs6 o6 hgw6 hxl
            go_wp2_with fail
            refine (l11Spoil_any b a len cap zs _ g (q * 3) _ HS6.out (by omega) (by omega) HCL.out).mono ?_
            rintro e7 w7 ⟨W, k, t, hk, rfl, hsW, hgW, rfl⟩
            have HD : Hid (DrewW w b a len cap zs (N + 160) (.returned (.slice (some ⟨g, 0, none⟩) mm c)) (W.setCell ⟨g, q * 3 + k, none⟩ (.int .i64 t))) := Lib.hid
              ⟨_, mm, xs.set (q * 3 + k) (.int .i64 t), rfl, ((own_src HO6.out hgW hbl).stored (q * 3 + k) (.int .i64 t)).1, HX.out.set _ _,
                (hsW.setCell (p := ⟨g, q * 3 + k, none⟩) (by simp; omega) (fun h0 x hx => by have := hrow.out h0 x hx; simp; omega) (.int .i64 t)).mono (by omega), grown_new (grown_trans HG6.out hgW) (p := ⟨g, q * 3 + k, none⟩) hgb (.int .i64 t)⟩
            clear hsW hgW HO6 HG6 HS6 HCL
            go_wp2
            go_ret
            exact HD.out
end Go.Proofs.YtgnalhnbdpigdaaDoor
