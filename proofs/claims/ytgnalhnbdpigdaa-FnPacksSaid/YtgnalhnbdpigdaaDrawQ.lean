/- Contract of the reference's drawing of sizes, prices and a number of bricks (DrawCheapestPacks): some numbers come, in slices that can be read; no old memory turns; condition: the bytes can be read. -/
import Derived.Test.YtgnalhnbdpigdaaDrawG
namespace Go.Proofs.Ytgnalhnbdpigdaa
set_option linter.unusedVariables false
open Go.RowKit

/-- Two slices and a number come. -/
def NewSP (w : World) (e : Ending) (w' : World) : Prop :=
  ∃ a1 n1 c1 S a2 n2 c2 P, ∃ B : Int, e = .returned (.tuple #[.slice a1 n1 c1, .slice a2 n2 c2, .int .i64 B]) ∧ IsRow .i64 w' a1 n1 c1 S ∧ IsRow .i64 w' a2 n2 c2 P ∧ Below w.heap.size w w'
theorem newSP_mk {w w' : World} {b : Nat} {v1 v2 : Value} {B : Int} (h1 : RowF w' b v1) (h2 : RowF w' b v2) (hb : Below w.heap.size w w') : NewSP w (.returned (.tuple #[v1, v2, .int .i64 B])) w' := by
  obtain ⟨a1, n1, c1, S, rfl, hS, _⟩ := h1
  obtain ⟨a2, n2, c2, P, rfl, hP, _⟩ := h2
  exact ⟨_, _, _, S, _, _, _, P, B, rfl, hS, hP, hb⟩
set_option maxRecDepth 100000 in
set_option maxHeartbeats 8000000 in
theorem drawCheapestPacks_any (a : Option Addr) (len cap : Nat) (zs : List Int) (w : World) (h : IsRow .u8 w a len cap zs) :
    Calls Try.prog 47 #[.slice a len cap] w (NewSP w) := by
  have H := Lib.hid (from_any a len cap zs w h)
  obtain ⟨i0, hi, hi0, hi1, hi2⟩ := info_parts info_i64
  have hrow : Hid (0 < len → ∀ x, a = some x → x.block < w.heap.size + 1) := Lib.hid fun h0 x hx => by
    obtain ⟨b, o, ha, hb, _⟩ := h.2.2.2.2 h0
    rw [ha] at hx; injection hx with hx; subst hx; simp; omega
  clear h
  go_enter Try.func47, Try.ntmps47
  go_wp2_with fail
  refine H.out.mono ?_
  rintro e1 w1 ⟨rfl, hs1, hb1, hz1⟩
  go_wp2_with fail
  refine (pick_any w.heap.size a len cap zs 0 4 _ ((hs1.alloc _).alloc _) (by omega) (by omega) (by omega)).mono ?_
  rintro e2 w2 ⟨r2, rfl, p1, p2, hs2, hg2⟩
  have o1 := ((ownI_empty w1 (w.heap.size + 1) (by omega)).alloc (.cells #[] 2)).src hg2 (by omega)
  have o2 := (ownI_empty (w1.alloc (.cells #[] 2)) (w.heap.size + 1) (by simp; omega)).src hg2 (by omega)
  have hap : Apart (.slice (some ⟨w1.heap.size, 0, none⟩) 0 0) (.slice (some ⟨(w1.alloc (.cells #[] 2)).heap.size, 0, none⟩) 0 0) := apart_new (ownI_empty w1 (w.heap.size + 1) (by omega)) (ownI_empty (w1.alloc (.cells #[] 2)) w1.heap.size.succ (by simp)) (by simp)
  have ha2 : Below w.heap.size w w2 := below_of_grown ((hb1.alloc (by omega) _).alloc (by simp; omega) _) hg2 (Nat.le_refl _)
  obtain ⟨m, rfl⟩ := Int.eq_ofNat_of_zero_le p1
  have hz2 := hg2.size
  simp at hz2 o2 hap
  rw [hz1] at o1 o2 hap
  clear hg2 hs1 hb1 H
  go_wp2_with fail
  go_loopw [6, 7, 8, 9] (fun v1 v2 t i wr => ∃ (k : Nat) (S P : List Int) (u : Int), k ≤ 4 ∧ i = .int .i64 (k : Int) ∧ t = .int .i64 u ∧ 0 ≤ u ∧ u ≤ 64 * (4 - (k : Int)) ∧ S.length ≤ 4 - k ∧ P.length = S.length ∧ OwnI wr (w.heap.size + 1) v1 S ∧ OwnI wr (w.heap.size + 1) v2 P ∧ Apart v1 v2 ∧ Src wr w.heap.size a len cap zs (26 - 6 * (k : Int)) ∧ Below w.heap.size w wr) (fun _ _ _ i _ => (intOf i).toNat)
  case atStart =>
    refine ⟨m + 1, [], [], 0, by omega, by go_num, rfl, by omega, by omega, by simp, rfl, o1, o2, hap, hs2.mono (by omega), ha2⟩
  case round =>
    obtain ⟨k, S, P, u, hk, rfl, rfl, hu0, hu1, hS, hP, o1, o2, hap, hs, ha⟩ := hrel
    cases k with
    | succ k =>
      obtain ⟨n, hn⟩ : ∃ n, S.length = n := ⟨_, rfl⟩
      have hkp : (0 : Int) < ((k + 1 : Nat) : Int) := by omega
      go_wp2_with fail
      refine (pick_any w.heap.size a len cap zs _ 60 _ hs (by omega) (by omega) (by omega)).mono ?_
      rintro e3 w3 ⟨r3, rfl, p3, p4, hs3, hg3⟩
      have o13 := o1.src hg3 (by omega)
      have o23 := o2.src hg3 (by omega)
      have ha3 := below_of_grown ha hg3 (Nat.le_refl _)
      have hz3 := ha3.size
      have hl3 := hs3.lt
      clear hg3 hs o1 o2 ha
      have hOl := o13
      unfold OwnI at hOl
      rw [hn] at hOl
      obtain ⟨t, ht⟩ : ∃ t, u + (5 + r3) = t := ⟨_, rfl⟩
      have i1 : IntKind.i64.wrap (u + (5 + r3)) = t := by rw [ht]; exact IntWalk.i64_in _ (by omega)
      have hn4 : n ≤ 4 := by omega
      have HAP := Lib.hid hap
      have HO2 := Lib.hid o23
      have HS3 := Lib.hid hs3
      have HA3 := Lib.hid ha3
      have HN := Lib.hid hn
      have HP := Lib.hid hP
      clear hap o23 hs3 ha3 hn hP
      have hk64 : 0 ≤ t ∧ t ≤ 64 * (4 - (k : Int)) := by omega
      clear o13
      go_wp2_with (at_builtin; refine wpList_append_new _ rfl _ _ 58 rfl _ 2 i0 (.int .i64 0) 1 8 Try.underlying58 hi hi0 hi1 hi2 rfl (by decide) _ _ _ rfl (hOl.alloc _) ⟨w3.heap.size, 0, none⟩ 1 1 [.int .i64 t] rfl rfl (cell_one_new _ _ _) (by simp [Value.oneCell']) (by unfold maxLen; omega) (by omega) (by first | omega | (simp; done) | (simp; omega)) (by decide) ?_; intro v' w1' hown1 hgrow1 hnew1)
      have o14 := Lib.hid (OwnI.snoc hown1 (by rw [HN.out]))
      have hvb : ∀ g, u6.ownBlock = some g → w.heap.size + 1 ≤ g := fun g e => (World.ownsRow.lt hOl g e).1
      have o24 := Lib.hid (OwnI.keptM (HO2.out.alloc (.cells #[.int .i64 t] 2)) hgrow1 HAP.out.symm.ne)
      have hap4 := Lib.hid (HAP.out.next (HO2.out.alloc (.cells #[.int .i64 t] 2)) hnew1 (Nat.le_refl _))
      have hs4 := (HS3.out.alloc (.cells #[.int .i64 t] 2)).own hgrow1 hvb (by omega) hrow.out
      have ha4 := below_mark (base := w.heap.size + 1) (HA3.out.alloc hz3 (.cells #[.int .i64 t] 2)) (by omega) (OwnI.alloc (zs := S) (by unfold OwnI; rw [HN.out]; exact hOl) _) hgrow1
      clear hown1 hgrow1 hnew1 hOl hvb HO2 HAP HS3 HA3 i1
      go_wp2_with fail
      refine (pick_any w.heap.size a len cap zs _ 3 _ hs4 (by omega) (by omega) (by omega)).mono ?_
      rintro e5 w5 ⟨r5, rfl, p5, p6, hs5, hg5⟩
      have o15 := o14.out.src hg5 (by omega)
      have o25 := o24.out.src hg5 (by omega)
      have ha5 := below_of_grown ha4 hg5 (Nat.le_refl _)
      clear hg5 hs4 o14 o24 ha4
      have mb := mul_bd (a := t) (b := 4 + r5) (A := 256) (B := 6) (by omega) (by omega) (by omega) (by omega)
      go_wp2_with fail
      refine (pick_any w.heap.size a len cap zs _ 9 _ hs5 (by omega) (by omega) (by omega)).mono ?_
      rintro e6 w6 ⟨r6, rfl, p7, p8, hs6, hg6⟩
      have o16 := o15.src hg6 (by omega)
      have o26 := o25.src hg6 (by omega)
      have ha6 := below_of_grown ha5 hg6 (Nat.le_refl _)
      have hz6 := ha6.size
      clear hg6 hs5 o15 o25 ha5
      have hOl := o26
      unfold OwnI at hOl
      rw [HP.out, HN.out] at hOl
      obtain ⟨q, hq⟩ : ∃ q, t * (4 + r5) + r6 = q := ⟨_, rfl⟩
      have i1 : IntKind.i64.wrap (t * (4 + r5) + r6) = q := by rw [hq]; exact IntWalk.i64_in _ (by omega)
      have O1 := Lib.hid o16
      have HS3 := Lib.hid hs6
      have HA3 := Lib.hid ha6
      clear o16 hs6 ha6 o26
      go_wp2_with (at_builtin; refine wpList_append_new _ rfl _ _ 58 rfl _ 2 i0 (.int .i64 0) 1 8 Try.underlying58 hi hi0 hi1 hi2 rfl (by decide) _ _ _ rfl (hOl.alloc _) ⟨w6.heap.size, 0, none⟩ 1 1 [.int .i64 q] rfl rfl (cell_one_new _ _ _) (by simp [Value.oneCell']) (by unfold maxLen; omega) (by omega) (by first | omega | (simp; done) | (simp; omega)) (by decide) ?_; intro v2' w2' hown1 hgrow1 hnew1)
      have o17 := Lib.hid (OwnI.snoc (zs := P) hown1 (by rw [HP.out, HN.out]))
      have hvb : ∀ g, u7.ownBlock = some g → w.heap.size + 1 ≤ g := fun g e => (World.ownsRow.lt hOl g e).1
      have o27 := Lib.hid (OwnI.keptM (O1.out.alloc (.cells #[.int .i64 q] 2)) hgrow1 hap4.out.ne)
      have hap7 := Lib.hid (hap4.out.symm.next (O1.out.alloc (.cells #[.int .i64 q] 2)) hnew1 (Nat.le_refl _)).symm
      have hs7 := Lib.hid ((HS3.out.alloc (.cells #[.int .i64 q] 2)).own hgrow1 hvb (by omega) hrow.out)
      have ha7 := Lib.hid (below_mark (base := w.heap.size + 1) (HA3.out.alloc hz6 (.cells #[.int .i64 q] 2)) (by omega) (OwnI.alloc (zs := P) (by unfold OwnI; rw [HP.out, HN.out]; exact hOl) _) hgrow1)
      clear hown1 hgrow1 hnew1 hOl hvb O1 hap4 HS3 HA3 i1
      go_wp2
      go_roundw
      case rel => exact ⟨k, S ++ [t], P ++ [q], t, by omega, by go_num, rfl, by omega, by omega, by simp; omega, by simp; exact HP.out, o27.out, o17.out, hap7.out, hs7.out.mono (by omega), ha7.out⟩
      case measure => first | (simp [intOf]; done) | (simp [intOf]; omega)
    | zero =>
      obtain ⟨n, hn⟩ : ∃ n, S.length = n := ⟨_, rfl⟩
      have hn4 : n ≤ 4 := by omega
      have hlt0 : ¬ (0 : Int) < ((0 : Nat) : Int) := by omega
      go_wp2_with fail
      refine (pick_any w.heap.size a len cap zs _ 16 _ hs (by omega) (by omega) (by omega)).mono ?_
      rintro e3 w3 ⟨r3, rfl, p3, p4, hs3, hg3⟩
      have o13 := o1.src hg3 (by omega)
      have o23 := o2.src hg3 (by omega)
      have ha3 := below_of_grown ha hg3 (Nat.le_refl _)
      have hz3 := ha3.size
      have hl3 := hs3.lt
      clear hg3 hs o1 o2 ha hlt0
      have HN := Lib.hid hn
      have HP := Lib.hid hP
      have HAP := Lib.hid hap
      clear hn hP hap
      by_cases g0 : r3 = 0
      · subst g0
        go_wp2_with fail
        refine (among_lit w.heap.size a len cap zs _ [0, u, 1000, 1001] 4 _ hs3 (by omega) rfl (by omega) (by omega)).mono ?_
        rintro e4 w4 ⟨t, rfl, hs4, hg4⟩
        have o14 := o13.src hg4 (by omega)
        have HO2 := Lib.hid (o23.src hg4 (by omega))
        have HA3 := Lib.hid (below_of_grown ha3 hg4 (Nat.le_refl _))
        have HS3 := Lib.hid hs4
        have hz4 := hg4.size
        have hOl := o14
        unfold OwnI at hOl
        rw [HN.out] at hOl
        clear hg4 hs3 o13 o23 ha3 o14 hs4
        go_wp2_with (at_builtin; refine wpList_append_new _ rfl _ _ 58 rfl _ 2 i0 (.int .i64 0) 1 8 Try.underlying58 hi hi0 hi1 hi2 rfl (by decide) _ _ _ rfl (hOl.alloc _) ⟨w4.heap.size, 0, none⟩ 1 1 [.int .i64 t] rfl rfl (cell_one_new _ _ _) (by simp [Value.oneCell']) (by unfold maxLen; omega) (by omega) (by first | omega | (simp; done) | (simp; omega)) (by decide) ?_; intro v' w1' hown1 hgrow1 hnew1)
        have f14 := Lib.hid (OwnI.snoc hown1 (by rw [HN.out]))
        have hap4 := Lib.hid (HAP.out.next (HO2.out.alloc (.cells #[.int .i64 t] 2)) hnew1 (Nat.le_refl _))
        have hvb : ∀ g, u6.ownBlock = some g → w.heap.size + 1 ≤ g := fun g e => (World.ownsRow.lt hOl g e).1
        have o24 := Lib.hid (OwnI.keptM (HO2.out.alloc (.cells #[.int .i64 t] 2)) hgrow1 HAP.out.symm.ne)
        have hs4 := (HS3.out.alloc (.cells #[.int .i64 t] 2)).own hgrow1 hvb (by omega) hrow.out
        have ha4 := below_mark (base := w.heap.size + 1) (HA3.out.alloc (by omega) (.cells #[.int .i64 t] 2)) (by omega) (OwnI.alloc (zs := S) (by unfold OwnI; rw [HN.out]; exact hOl) _) hgrow1
        clear hown1 hgrow1 hnew1 hOl hvb HO2 HAP HS3 HA3
        go_wp2_with fail
        refine (among_lit w.heap.size a len cap zs _ [0, 1, 100000, 100001] 4 _ hs4 (by omega) rfl (by omega) (by omega)).mono ?_
        rintro e6 w6 ⟨q, rfl, hs6, hg6⟩
        have F1 := Lib.hid (f14.out.src hg6 (by omega))
        have o26 := o24.out.src hg6 (by omega)
        have HA3 := Lib.hid (below_of_grown ha4 hg6 (Nat.le_refl _))
        have hz6 := HA3.out.size
        have HS3 := Lib.hid hs6
        have hl6 := hs6.lt
        have hOl := o26
        unfold OwnI at hOl
        rw [HP.out, HN.out] at hOl
        clear hg6 hs4 o24 f14 ha4 o26 hs6
        go_wp2_with (at_builtin; refine wpList_append_new _ rfl _ _ 58 rfl _ 2 i0 (.int .i64 0) 1 8 Try.underlying58 hi hi0 hi1 hi2 rfl (by decide) _ _ _ rfl (hOl.alloc _) ⟨w6.heap.size, 0, none⟩ 1 1 [.int .i64 q] rfl rfl (cell_one_new _ _ _) (by simp [Value.oneCell']) (by unfold maxLen; omega) (by omega) (by first | omega | (simp; done) | (simp; omega)) (by decide) ?_; intro v2' w2' hown1 hgrow1 hnew1; have o27 := OwnI.snoc (zs := P) hown1 (by rw [HP.out, HN.out]); have hvb : ∀ g, u7.ownBlock = some g → w.heap.size + 1 ≤ g := fun g e => (World.ownsRow.lt hOl g e).1; have hs := (HS3.out.alloc (.cells #[.int .i64 q] 2)).own hgrow1 hvb (by omega) hrow.out; have ha := below_mark (base := w.heap.size + 1) (HA3.out.alloc hz6 (.cells #[.int .i64 q] 2)) (by omega) (OwnI.alloc (zs := P) (by unfold OwnI; rw [HP.out, HN.out]; exact hOl) _) hgrow1; have h2 := o27.rowF (b := w.heap.size) (by omega); have h1 := (OwnI.keptM (F1.out.alloc (.cells #[.int .i64 q] 2)) hgrow1 hap4.out.ne).rowF (b := w.heap.size) (by omega); clear hown1 hgrow1 hnew1 hOl hvb HS3 HA3 o27 F1 hap4)
        -- world wt, slices v1 v2: hs, h1, h2, ha
        refine (one_any w.heap.size a len cap zs 100 10 _ (hs.mono (by omega)) (by omega) (by omega) (by omega)).mono ?_
        rintro e8 w8 ⟨r8, rfl, hs8, hg8⟩
        have k1 := h1.grown hg8
        have k2 := h2.grown hg8
        have ha8 := below_of_grown ha hg8 (Nat.le_refl _)
        clear hg8 hs h1 h2 ha
        cases r8
        · go_wp2_with fail
          refine (pick_any w.heap.size a len cap zs _ 400 _ hs8 (by omega) (by omega) (by omega)).mono ?_
          rintro e9 w9 ⟨r9, rfl, _, _, hs9, hg9⟩
          have hN := Lib.hid (newSP_mk (w := w) (B := r9) (k1.grown hg9) (k2.grown hg9) (below_of_grown ha8 hg9 (Nat.le_refl _)))
          clear k1 k2 ha8 hg9 hs9 hs8
          go_wp2
          refine bodyPost_ret (v := .tuple #[v', v2', .int .i64 r9]) (by simp [results, Try.results47, go_sem, *]) rfl hN.out
        · go_wp2_with fail
          refine (among_lit w.heap.size a len cap zs _ [-1, 0, 3000, 3001] 4 _ hs8 (by omega) rfl (by omega) (by omega)).mono ?_
          rintro e9 w9 ⟨r9, rfl, hs9, hg9⟩
          have hN := Lib.hid (newSP_mk (w := w) (B := r9) (k1.grown hg9) (k2.grown hg9) (below_of_grown ha8 hg9 (Nat.le_refl _)))
          clear k1 k2 ha8 hg9 hs9 hs8
          go_wp2
          refine bodyPost_ret (v := .tuple #[v', v2', .int .i64 r9]) (by simp [results, Try.results47, go_sem, *]) rfl hN.out
      · by_cases g1 : r3 = 1
        · subst g1
          go_wp2_with fail
          have h1 := (rowF_lit (w := w3) (b := w.heap.size) (by omega) [] 0 rfl (Nat.zero_le _)).below (Below.alloc (Below.refl _ _) (Nat.le_refl _) (.cells #[] 2))
          have h2 := rowF_lit (w := w3.alloc (.cells #[] 2)) (b := w.heap.size) (by simp; omega) [] 0 rfl (Nat.zero_le _)
          have hs := ((hs3.alloc (.cells #[] 2)).alloc (.cells #[] 2))
          have ha := ((ha3.alloc hz3 (.cells #[] 2)).alloc (by simp; omega) (.cells #[] 2))
          clear hs3 ha3 o13 o23
          -- world wt, slices v1 v2: hs, h1, h2, ha
          refine (one_any w.heap.size a len cap zs 100 10 _ (hs.mono (by omega)) (by omega) (by omega) (by omega)).mono ?_
          rintro e8 w8 ⟨r8, rfl, hs8, hg8⟩
          have k1 := h1.grown hg8
          have k2 := h2.grown hg8
          have ha8 := below_of_grown ha hg8 (Nat.le_refl _)
          clear hg8 hs h1 h2 ha
          cases r8
          · go_wp2_with fail
            refine (pick_any w.heap.size a len cap zs _ 400 _ hs8 (by omega) (by omega) (by omega)).mono ?_
            rintro e9 w9 ⟨r9, rfl, _, _, hs9, hg9⟩
            have hN := Lib.hid (newSP_mk (w := w) (B := r9) (k1.grown hg9) (k2.grown hg9) (below_of_grown ha8 hg9 (Nat.le_refl _)))
            clear k1 k2 ha8 hg9 hs9 hs8
            go_wp2
            refine bodyPost_ret (v := .tuple #[.slice (some ⟨w3.heap.size, 0, none⟩) 0 0, .slice (some ⟨(w3.alloc (.cells #[] 2)).heap.size, 0, none⟩) 0 0, .int .i64 r9]) (by simp [results, Try.results47, go_sem, *]) rfl hN.out
          · go_wp2_with fail
            refine (among_lit w.heap.size a len cap zs _ [-1, 0, 3000, 3001] 4 _ hs8 (by omega) rfl (by omega) (by omega)).mono ?_
            rintro e9 w9 ⟨r9, rfl, hs9, hg9⟩
            have hN := Lib.hid (newSP_mk (w := w) (B := r9) (k1.grown hg9) (k2.grown hg9) (below_of_grown ha8 hg9 (Nat.le_refl _)))
            clear k1 k2 ha8 hg9 hs9 hs8
            go_wp2
            refine bodyPost_ret (v := .tuple #[.slice (some ⟨w3.heap.size, 0, none⟩) 0 0, .slice (some ⟨(w3.alloc (.cells #[] 2)).heap.size, 0, none⟩) 0 0, .int .i64 r9]) (by simp [results, Try.results47, go_sem, *]) rfl hN.out
        · by_cases g2 : r3 = 2
          · subst g2
            go_wp2_with fail
            have h1 := (rowF_lit (w := w3) (b := w.heap.size) (by omega) [1, 2, 3, 4, 5, 6] 6 rfl (by unfold maxLen; omega)).below (Below.alloc (Below.refl _ _) (Nat.le_refl _) (.cells (ints [5, 9, 13, 17, 21, 25]) 2))
            have h2 := rowF_lit (w := w3.alloc (.cells (ints [1, 2, 3, 4, 5, 6]) 2)) (b := w.heap.size) (by simp; omega) [5, 9, 13, 17, 21, 25] 6 rfl (by unfold maxLen; omega)
            have hs := ((hs3.alloc (.cells (ints [1, 2, 3, 4, 5, 6]) 2)).alloc (.cells (ints [5, 9, 13, 17, 21, 25]) 2))
            have ha := ((ha3.alloc hz3 (.cells (ints [1, 2, 3, 4, 5, 6]) 2)).alloc (by simp; omega) (.cells (ints [5, 9, 13, 17, 21, 25]) 2))
            simp at h2
            clear hs3 ha3 o13 o23
            refine (one_any w.heap.size a len cap zs _ 2 _ hs (by omega) (by omega) (by omega)).mono ?_
            rintro e4 w4 ⟨r4, rfl, hs4, hg4⟩
            have k1 := h1.grown hg4
            have k2 := h2.grown hg4
            have ha4 := below_of_grown ha hg4 (Nat.le_refl _)
            clear hg4 hs h1 h2 ha
            have hs := hs4
            have ha := ha4
            cases r4
            · have h1 := k1
              have h2 := k2
              clear hs4 ha4 k1 k2
              go_wp2_with fail
              -- world wt, slices v1 v2: hs, h1, h2, ha
              refine (one_any w.heap.size a len cap zs 100 10 _ (hs.mono (by omega)) (by omega) (by omega) (by omega)).mono ?_
              rintro e8 w8 ⟨r8, rfl, hs8, hg8⟩
              have k1 := h1.grown hg8
              have k2 := h2.grown hg8
              have ha8 := below_of_grown ha hg8 (Nat.le_refl _)
              clear hg8 hs h1 h2 ha
              cases r8
              · go_wp2_with fail
                refine (pick_any w.heap.size a len cap zs _ 400 _ hs8 (by omega) (by omega) (by omega)).mono ?_
                rintro e9 w9 ⟨r9, rfl, _, _, hs9, hg9⟩
                have hN := Lib.hid (newSP_mk (w := w) (B := r9) (k1.grown hg9) (k2.grown hg9) (below_of_grown ha8 hg9 (Nat.le_refl _)))
                clear k1 k2 ha8 hg9 hs9 hs8
                go_wp2
                refine bodyPost_ret (v := .tuple #[.slice (some ⟨w3.heap.size, 0, none⟩) 6 6, .slice (some ⟨w3.heap.size + 1, 0, none⟩) 6 6, .int .i64 r9]) (by simp [results, Try.results47, go_sem, *]) rfl hN.out
              · go_wp2_with fail
                refine (among_lit w.heap.size a len cap zs _ [-1, 0, 3000, 3001] 4 _ hs8 (by omega) rfl (by omega) (by omega)).mono ?_
                rintro e9 w9 ⟨r9, rfl, hs9, hg9⟩
                have hN := Lib.hid (newSP_mk (w := w) (B := r9) (k1.grown hg9) (k2.grown hg9) (below_of_grown ha8 hg9 (Nat.le_refl _)))
                clear k1 k2 ha8 hg9 hs9 hs8
                go_wp2
                refine bodyPost_ret (v := .tuple #[.slice (some ⟨w3.heap.size, 0, none⟩) 6 6, .slice (some ⟨w3.heap.size + 1, 0, none⟩) 6 6, .int .i64 r9]) (by simp [results, Try.results47, go_sem, *]) rfl hN.out
            · have h1 := rowF_cut (m := 5) k1 (by omega)
              have h2 := rowF_cut (m := 5) k2 (by omega)
              clear hs4 ha4 k1 k2
              go_wp2_with fail
              -- world wt, slices v1 v2: hs, h1, h2, ha
              refine (one_any w.heap.size a len cap zs 100 10 _ (hs.mono (by omega)) (by omega) (by omega) (by omega)).mono ?_
              rintro e8 w8 ⟨r8, rfl, hs8, hg8⟩
              have k1 := h1.grown hg8
              have k2 := h2.grown hg8
              have ha8 := below_of_grown ha hg8 (Nat.le_refl _)
              clear hg8 hs h1 h2 ha
              cases r8
              · go_wp2_with fail
                refine (pick_any w.heap.size a len cap zs _ 400 _ hs8 (by omega) (by omega) (by omega)).mono ?_
                rintro e9 w9 ⟨r9, rfl, _, _, hs9, hg9⟩
                have hN := Lib.hid (newSP_mk (w := w) (B := r9) (k1.grown hg9) (k2.grown hg9) (below_of_grown ha8 hg9 (Nat.le_refl _)))
                clear k1 k2 ha8 hg9 hs9 hs8
                go_wp2
                refine bodyPost_ret (v := .tuple #[.slice (some ⟨w3.heap.size, 0, none⟩) 5 6, .slice (some ⟨w3.heap.size + 1, 0, none⟩) 5 6, .int .i64 r9]) (by simp [results, Try.results47, go_sem, *]) rfl hN.out
              · go_wp2_with fail
                refine (among_lit w.heap.size a len cap zs _ [-1, 0, 3000, 3001] 4 _ hs8 (by omega) rfl (by omega) (by omega)).mono ?_
                rintro e9 w9 ⟨r9, rfl, hs9, hg9⟩
                have hN := Lib.hid (newSP_mk (w := w) (B := r9) (k1.grown hg9) (k2.grown hg9) (below_of_grown ha8 hg9 (Nat.le_refl _)))
                clear k1 k2 ha8 hg9 hs9 hs8
                go_wp2
                refine bodyPost_ret (v := .tuple #[.slice (some ⟨w3.heap.size, 0, none⟩) 5 6, .slice (some ⟨w3.heap.size + 1, 0, none⟩) 5 6, .int .i64 r9]) (by simp [results, Try.results47, go_sem, *]) rfl hN.out
          · by_cases g3 : r3 = 3
            · subst g3
              have hOl := o23
              unfold OwnI at hOl
              rw [HP.out, HN.out] at hOl
              have O1 := Lib.hid o13
              have HS3 := Lib.hid hs3
              have HA3 := Lib.hid ha3
              clear o13 o23 hs3 ha3
              go_wp2_with (at_builtin; refine wpList_append_new _ rfl _ _ 58 rfl _ 2 i0 (.int .i64 0) 1 8 Try.underlying58 hi hi0 hi1 hi2 rfl (by decide) _ _ _ rfl (hOl.alloc _) ⟨w3.heap.size, 0, none⟩ 1 1 [.int .i64 5] rfl rfl (cell_one_new _ _ _) (by simp [Value.oneCell']) (by unfold maxLen; omega) (by omega) (by first | omega | (simp; done) | (simp; omega)) (by decide) ?_; intro v2' w2' hown1 hgrow1 hnew1; have o27 := OwnI.snoc (zs := P) hown1 (by rw [HP.out, HN.out]); have hvb : ∀ g, u7.ownBlock = some g → w.heap.size + 1 ≤ g := fun g e => (World.ownsRow.lt hOl g e).1; have hs := (HS3.out.alloc (.cells #[.int .i64 5] 2)).own hgrow1 hvb (by omega) hrow.out; have ha := below_mark (base := w.heap.size + 1) (HA3.out.alloc hz3 (.cells #[.int .i64 5] 2)) (by omega) (OwnI.alloc (zs := P) (by unfold OwnI; rw [HP.out, HN.out]; exact hOl) _) hgrow1; have h2 := o27.rowF (b := w.heap.size) (by omega); have h1 := (OwnI.keptM (O1.out.alloc (.cells #[.int .i64 5] 2)) hgrow1 HAP.out.ne).rowF (b := w.heap.size) (by omega); clear hown1 hgrow1 hnew1 hOl hvb HS3 HA3 o27 O1 HAP)
              -- world wt, slices v1 v2: hs, h1, h2, ha
              refine (one_any w.heap.size a len cap zs 100 10 _ (hs.mono (by omega)) (by omega) (by omega) (by omega)).mono ?_
              rintro e8 w8 ⟨r8, rfl, hs8, hg8⟩
              have k1 := h1.grown hg8
              have k2 := h2.grown hg8
              have ha8 := below_of_grown ha hg8 (Nat.le_refl _)
              clear hg8 hs h1 h2 ha
              cases r8
              · go_wp2_with fail
                refine (pick_any w.heap.size a len cap zs _ 400 _ hs8 (by omega) (by omega) (by omega)).mono ?_
                rintro e9 w9 ⟨r9, rfl, _, _, hs9, hg9⟩
                have hN := Lib.hid (newSP_mk (w := w) (B := r9) (k1.grown hg9) (k2.grown hg9) (below_of_grown ha8 hg9 (Nat.le_refl _)))
                clear k1 k2 ha8 hg9 hs9 hs8
                go_wp2
                refine bodyPost_ret (v := .tuple #[u6, v2', .int .i64 r9]) (by simp [results, Try.results47, go_sem, *]) rfl hN.out
              · go_wp2_with fail
                refine (among_lit w.heap.size a len cap zs _ [-1, 0, 3000, 3001] 4 _ hs8 (by omega) rfl (by omega) (by omega)).mono ?_
                rintro e9 w9 ⟨r9, rfl, hs9, hg9⟩
                have hN := Lib.hid (newSP_mk (w := w) (B := r9) (k1.grown hg9) (k2.grown hg9) (below_of_grown ha8 hg9 (Nat.le_refl _)))
                clear k1 k2 ha8 hg9 hs9 hs8
                go_wp2
                refine bodyPost_ret (v := .tuple #[u6, v2', .int .i64 r9]) (by simp [results, Try.results47, go_sem, *]) rfl hN.out
            · have x0 : (r3 == 0) = false := by simpa using g0
              have x1 : (r3 == 1) = false := by simpa using g1
              have x2 : (r3 == 2) = false := by simpa using g2
              have x3 : (r3 == 3) = false := by simpa using g3
              have h1 := o13.rowF (b := w.heap.size) (by omega)
              have h2 := o23.rowF (b := w.heap.size) (by omega)
              have hs := hs3
              have ha := ha3
              clear hs3 ha3 o13 o23
              go_wp2_with fail
              -- world wt, slices v1 v2: hs, h1, h2, ha
              refine (one_any w.heap.size a len cap zs 100 10 _ (hs.mono (by omega)) (by omega) (by omega) (by omega)).mono ?_
              rintro e8 w8 ⟨r8, rfl, hs8, hg8⟩
              have k1 := h1.grown hg8
              have k2 := h2.grown hg8
              have ha8 := below_of_grown ha hg8 (Nat.le_refl _)
              clear hg8 hs h1 h2 ha
              cases r8
              · go_wp2_with fail
                refine (pick_any w.heap.size a len cap zs _ 400 _ hs8 (by omega) (by omega) (by omega)).mono ?_
                rintro e9 w9 ⟨r9, rfl, _, _, hs9, hg9⟩
                have hN := Lib.hid (newSP_mk (w := w) (B := r9) (k1.grown hg9) (k2.grown hg9) (below_of_grown ha8 hg9 (Nat.le_refl _)))
                clear k1 k2 ha8 hg9 hs9 hs8
                go_wp2
                refine bodyPost_ret (v := .tuple #[u6, u7, .int .i64 r9]) (by simp [results, Try.results47, go_sem, *]) rfl hN.out
              · go_wp2_with fail
                refine (among_lit w.heap.size a len cap zs _ [-1, 0, 3000, 3001] 4 _ hs8 (by omega) rfl (by omega) (by omega)).mono ?_
                rintro e9 w9 ⟨r9, rfl, hs9, hg9⟩
                have hN := Lib.hid (newSP_mk (w := w) (B := r9) (k1.grown hg9) (k2.grown hg9) (below_of_grown ha8 hg9 (Nat.le_refl _)))
                clear k1 k2 ha8 hg9 hs9 hs8
                go_wp2
                refine bodyPost_ret (v := .tuple #[u6, u7, .int .i64 r9]) (by simp [results, Try.results47, go_sem, *]) rfl hN.out
end Go.Proofs.Ytgnalhnbdpigdaa
