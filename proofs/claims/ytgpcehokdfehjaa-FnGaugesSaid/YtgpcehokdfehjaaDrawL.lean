/- Contracts of the reference's drawing of levels and limits (l10Some, l10Both, DrawValidLevels, DrawLevelsOff, DrawStepsBetween, DrawBestGauge): some numbers come, in slices that can be read; the source's block alone turns; condition: the bytes can be read. -/
import Derived.Test.YtgpcehokdfehjaaDrawH
import Derived.Deep.RegionLaw
namespace Go.Proofs.Ytgpcehokdfehjaa
set_option linter.unusedVariables false
open Go.RowKit

/-- What drawn levels leave. -/
def DrewL (w : World) (b : Nat) (a : Option Addr) (len cap : Nat) (zs : List Int) (M : Int) (e : Ending) (w' : World) : Prop := ∃ v S, e = .returned v ∧ OwnI w' w.heap.size v S ∧ Src w' b a len cap zs M ∧ w.grownBy w' (some b)
theorem drewL_mk {w w' : World} {b : Nat} {a : Option Addr} {len cap : Nat} {zs : List Int} {M M' : Int} {v : Value} {S : List Int} (h1 : OwnI w' w.heap.size v S) (hb : b < w.heap.size) (h2 : Src w' b a len cap zs M') (hM : M' ≤ M) (h3 : w.grownBy w' (some b)) : DrewL w b a len cap zs M (.returned v) w' :=
  ⟨v, S, rfl, h1, h2.mono hM, h3⟩
theorem l00Max_in (a b : Int) (w : World) : Calls Try.prog 80 #[.int .i64 a, .int .i64 b] w fun e w' => e = .returned (.int .i64 (if b < a then a else b)) ∧ w = w' := by
  by_cases h : b < a
  · have HE := Lib.hid (show (if b < a then a else b) = a from if_pos h)
    rw [HE.out]
    clear HE
    go_enter Try.func80, Try.ntmps80
    go_wp2
    go_ret
    exact ⟨rfl, rfl⟩
  · have HE := Lib.hid (show (if b < a then a else b) = b from if_neg h)
    rw [HE.out]
    clear HE
    go_enter Try.func80, Try.ntmps80
    go_wp2
    go_ret
    exact ⟨rfl, rfl⟩
set_option maxRecDepth 100000 in
set_option maxHeartbeats 8000000 in
theorem l10Some_any (b : Nat) (a : Option Addr) (len cap : Nat) (zs : List Int) (N H : Int) (w : World) (h : Src w b a len cap zs N) (hN : N ≤ 100000) :
    Calls Try.prog 62 #[.pointer (some ⟨b, 0, none⟩), .int .i64 H] w (DrewL w b a len cap zs (N + 20)) := by
  obtain ⟨i0, hi, hi0, hi1, hi2⟩ := info_parts info_i64
  have hbl := h.lt
  have hrow := Lib.hid (src_row h)
  have H0 := Lib.hid h
  clear h
  go_enter Try.func62, Try.ntmps62
  go_wp2_with fail
  refine (pick_any b a len cap zs N 5 _ (H0.out.alloc _) (by omega) (by omega) (by omega)).mono ?_
  rintro e2 w2 ⟨r2, rfl, p1, p2, hs2, hg2⟩
  have o1 := (ownI_empty w w.heap.size (Nat.le_refl _)).src hg2 (by omega)
  have hg := grown_trans (grown_alloc (World.grownBy.refl w (some b)) _) hg2
  obtain ⟨m, rfl⟩ := Int.eq_ofNat_of_zero_le p1
  clear hg2 H0
  go_wp2_with fail
  go_loopw [5, 6, 7] (fun v1 t i wr => ∃ (k : Nat) (S : List Int) (u : Int), k ≤ 4 ∧ i = .int .i64 (k : Int) ∧ t = .int .i64 u ∧ 0 ≤ u ∧ u ≤ 240 * (4 - (k : Int)) ∧ S.length ≤ 4 - k ∧ OwnI wr w.heap.size v1 S ∧ Src wr b a len cap zs (N + 10 - 2 * (k : Int)) ∧ w.grownBy wr (some b)) (fun _ _ i _ => (intOf i).toNat)
  case atStart => exact ⟨m, [], 0, by omega, rfl, rfl, by omega, by omega, by simp, o1, hs2.mono (by omega), hg⟩
  case round =>
    obtain ⟨k, S, u, hk, rfl, rfl, hu0, hu1, hS, o1, hs, hg⟩ := hrel
    cases k with
    | succ k =>
      obtain ⟨n, hn⟩ : ∃ n, S.length = n := ⟨_, rfl⟩
      have hkp : (0 : Int) < ((k + 1 : Nat) : Int) := by omega
      go_wp2_with fail
      refine (pick_any b a len cap zs _ 200 _ hs (by omega) (by omega) (by omega)).mono ?_
      rintro e3 w3 ⟨r3, rfl, p3, p4, hs3, hg3⟩
      have o13 := o1.src hg3 (by omega)
      have hgw3 := grown_trans hg hg3
      have hz3 := hgw3.size
      clear hg3 hs o1 hg
      have hOl := o13
      unfold OwnI at hOl
      rw [hn] at hOl
      obtain ⟨t, ht⟩ : ∃ t, u + (40 + r3) = t := ⟨_, rfl⟩
      have i1 : IntKind.i64.wrap (u + (40 + r3)) = t := by rw [ht]; exact IntWalk.i64_in _ (by omega)
      have hn4 : n ≤ 4 := by omega
      have HS3 := Lib.hid hs3
      have HG3 := Lib.hid hgw3
      have HN := Lib.hid hn
      clear hs3 hgw3 hn
      have hk64 : 0 ≤ t ∧ t ≤ 240 * (4 - (k : Int)) := by omega
      clear o13
      go_wp2_with (at_builtin; refine wpList_append_new _ rfl _ _ 35 rfl _ 2 i0 (.int .i64 0) 1 8 Try.underlying35 hi hi0 hi1 hi2 rfl (by decide) _ _ _ rfl (hOl.alloc _) ⟨w3.heap.size, 0, none⟩ 1 1 [.int .i64 t] rfl rfl (cell_one_new _ _ _) (by simp [Value.oneCell']) (by unfold maxLen; omega) (by omega) (by first | omega | (simp; done) | (simp; omega)) (by decide) ?_; intro v' w1' hown1 hgrow1 hnew1)
      have o14 := Lib.hid (OwnI.snoc hown1 (by rw [HN.out]))
      have hvb : ∀ g, u5.ownBlock = some g → w.heap.size ≤ g := fun g e => (World.ownsRow.lt hOl g e).1
      have hs4 := Lib.hid ((HS3.out.alloc (.cells #[.int .i64 t] 2)).own hgrow1 hvb hbl hrow.out)
      have hg4 := Lib.hid (grown_own (grown_alloc HG3.out (.cells #[.int .i64 t] 2)) hgrow1 hvb)
      clear hown1 hgrow1 hnew1 hOl hvb HS3 HG3 i1
      go_wp2
      go_roundw
      case rel => exact ⟨k, S ++ [t], t, by omega, by go_num, rfl, by omega, by omega, by simp; omega, o14.out, hs4.out.mono (by omega), hg4.out⟩
      case measure => first | (simp [intOf]; done) | (simp [intOf]; omega)
    | zero =>
      obtain ⟨n, hn⟩ : ∃ n, S.length = n := ⟨_, rfl⟩
      have hn4 : n ≤ 4 := by omega
      have hlt0 : ¬ (0 : Int) < ((0 : Nat) : Int) := by omega
      go_wp2_with fail
      refine (pick_any b a len cap zs _ 16 _ hs (by omega) (by omega) (by omega)).mono ?_
      rintro e3 w3 ⟨r3, rfl, p3, p4, hs3, hg3⟩
      have o13 := o1.src hg3 (by omega)
      have hgw3 := grown_trans hg hg3
      have hz3 := hgw3.size
      clear hg3 hs o1 hg hlt0
      have HN := Lib.hid hn
      clear hn
      by_cases g0 : r3 = 0
      · subst g0
        go_wp2_with fail
        refine (l00Max_in 1 H _).mono ?_
        rintro e4 w4 ⟨rfl, rfl⟩
        obtain ⟨q, hq⟩ : ∃ q, (if H < 1 then 1 else H) = q := ⟨_, rfl⟩
        rw [hq]
        clear hq
        go_wp2_with fail
        refine (among_lit b a len cap zs _ [0, wrap64 (q - 1), H, -1] 4 _ hs3 (by omega) rfl (by omega) (by omega)).mono ?_
        rintro e4 w4 ⟨t, rfl, hs4, hg4⟩
        have o14 := o13.src hg4 (by omega)
        have HG4 := Lib.hid (grown_trans hgw3 hg4)
        have HS4 := Lib.hid hs4
        have hz4 := HG4.out.size
        have hOl := o14
        unfold OwnI at hOl
        rw [HN.out] at hOl
        clear hg4 hs3 o13 hgw3 o14 hs4
        go_wp2_with (at_builtin; refine wpList_append_new _ rfl _ _ 35 rfl _ 2 i0 (.int .i64 0) 1 8 Try.underlying35 hi hi0 hi1 hi2 rfl (by decide) _ _ _ rfl (hOl.alloc _) ⟨w4.heap.size, 0, none⟩ 1 1 [.int .i64 t] rfl rfl (cell_one_new _ _ _) (by simp [Value.oneCell']) (by unfold maxLen; omega) (by omega) (by first | omega | (simp; done) | (simp; omega)) (by decide) ?_; intro v' w1' hown1 hgrow1 hnew1)
        have f14 := Lib.hid (OwnI.snoc hown1 (by rw [HN.out]))
        have hvb : ∀ g, u5.ownBlock = some g → w.heap.size ≤ g := fun g e => (World.ownsRow.lt hOl g e).1
        have hs5 := Lib.hid ((HS4.out.alloc (.cells #[.int .i64 t] 2)).own hgrow1 hvb hbl hrow.out)
        have hg5 := Lib.hid (grown_own (grown_alloc HG4.out (.cells #[.int .i64 t] 2)) hgrow1 hvb)
        have HD := Lib.hid (drewL_mk (M := N + 20) f14.out hbl hs5.out (by omega) hg5.out)
        clear hown1 hgrow1 hnew1 hOl hvb HS4 HG4 f14 hs5 hg5
        go_wp2
        go_ret
        exact HD.out
      · by_cases g1 : r3 = 1
        · subst g1
          go_wp2_with fail
          refine (pick_any b a len cap zs _ 2 _ (hs3.alloc _) (by omega) (by omega) (by omega)).mono ?_
          rintro e4 w4 ⟨r4, rfl, p5, p6, hs4, hg4⟩
          have o2 := (ownI_empty w3 w.heap.size hz3).src hg4 (by omega)
          have hgw4 := grown_trans (grown_alloc hgw3 _) hg4
          obtain ⟨m4, rfl⟩ := Int.eq_ofNat_of_zero_le p5
          clear hg4 hs3 o13 hgw3
          go_wp2_with fail
          go_loopw [5, 8] (fun v1 i wr => ∃ (k : Nat) (S : List Int), k ≤ 21 ∧ i = .int .i64 (k : Int) ∧ S.length + k ≤ 21 ∧ OwnI wr w.heap.size v1 S ∧ Src wr b a len cap zs (N + 16) ∧ w.grownBy wr (some b)) (fun _ i _ => (intOf i).toNat)
          case atStart => exact ⟨20 + m4, [], by omega, by go_num, by simp; omega, o2, hs4.mono (by omega), hgw4⟩
          case round =>
            obtain ⟨k, S, hk, rfl, hSk, o1, hs, hg⟩ := hrel
            obtain ⟨n, hn⟩ : ∃ n, S.length = n := ⟨_, rfl⟩
            rw [hn] at hSk
            have hz5 := hg.size
            cases k with
            | succ k =>
              have hkp : (0 : Int) < ((k + 1 : Nat) : Int) := by omega
              have hOl := o1
              unfold OwnI at hOl
              rw [hn] at hOl
              obtain ⟨aa, cc, hv⟩ := o1.shape
              rw [hn] at hv
              subst hv
              have HS3 := Lib.hid hs
              have HG3 := Lib.hid hg
              have HN := Lib.hid hn
              clear hs hg hn o1
              go_wp2_with (at_builtin; refine wpList_append_new _ rfl _ _ 35 rfl _ 2 i0 (.int .i64 0) 1 8 Try.underlying35 hi hi0 hi1 hi2 rfl (by decide) _ _ _ rfl (hOl.alloc _) ⟨wr.heap.size, 0, none⟩ 1 1 [.int .i64 (12 * (n : Int) + 3)] rfl rfl (cell_one_new _ _ _) (by simp [Value.oneCell']) (by unfold maxLen; omega) (by omega) (by first | omega | (simp; done) | (simp; omega)) (by decide) ?_; intro v' w1' hown1 hgrow1 hnew1)
              have o14 := Lib.hid (OwnI.snoc hown1 (by rw [HN.out]))
              have hvb : ∀ g, (Value.slice aa n cc).ownBlock = some g → w.heap.size ≤ g := fun g e => (World.ownsRow.lt hOl g e).1
              have hs4 := Lib.hid ((HS3.out.alloc (.cells #[.int .i64 (12 * (n : Int) + 3)] 2)).own hgrow1 hvb hbl hrow.out)
              have hg4 := Lib.hid (grown_own (grown_alloc HG3.out (.cells #[.int .i64 (12 * (n : Int) + 3)] 2)) hgrow1 hvb)
              clear hown1 hgrow1 hnew1 hOl hvb HS3 HG3
              go_wp2
              go_roundw
              case rel => exact ⟨k, S ++ [12 * (n : Int) + 3], by omega, by go_num, by simp; have := HN.out; omega, o14.out, hs4.out, hg4.out⟩
              case measure => first | (simp [intOf]; done) | (simp [intOf]; omega)
            | zero =>
              have hlt0 : ¬ (0 : Int) < ((0 : Nat) : Int) := by omega
              have HD := Lib.hid (drewL_mk (M := N + 20) o1 hbl hs (by omega) hg)
              clear o1 hs hg
              go_wp2
              go_ret
              exact HD.out
        · have x0 : (r3 == 0) = false := by simpa using g0
          have x1 : (r3 == 1) = false := by simpa using g1
          have HD := Lib.hid (drewL_mk (M := N + 20) o13 hbl hs3 (by omega) hgw3)
          clear o13 hs3 hgw3
          go_wp2
          go_ret
          exact HD.out
/-- What two drawn numbers leave. -/
def Drew2 (w : World) (b : Nat) (a : Option Addr) (len cap : Nat) (zs : List Int) (M : Int) (e : Ending) (w' : World) : Prop := ∃ x y : Int, e = .returned (.tuple #[.int .i64 x, .int .i64 y]) ∧ Src w' b a len cap zs M ∧ w.grownBy w' (some b)
set_option maxHeartbeats 4000000 in
theorem l10Both_any (b : Nat) (a : Option Addr) (len cap : Nat) (zs : List Int) (N : Int) (w : World) (h : Src w b a len cap zs N) (hN : N ≤ 100000) :
    Calls Try.prog 61 #[.pointer (some ⟨b, 0, none⟩)] w (Drew2 w b a len cap zs (N + 10)) := by
  have H0 := Lib.hid h
  clear h
  go_enter Try.func61, Try.ntmps61
  go_wp2_with fail
  refine (pick_any b a len cap zs N 9 _ H0.out (by omega) (by omega) (by omega)).mono ?_
  rintro e1 w1 ⟨r1, rfl, p1, p2, hs1, hg1⟩
  go_wp2_with fail
  refine (pick_any b a len cap zs _ 9 _ hs1 (by omega) (by omega) (by omega)).mono ?_
  rintro e2 w2 ⟨r2, rfl, p3, p4, hs2, hg2⟩
  have hgw2 := grown_trans hg1 hg2
  clear hg1 hg2 hs1
  go_wp2_with fail
  refine (pick_any b a len cap zs _ 16 _ hs2 (by omega) (by omega) (by omega)).mono ?_
  rintro e3 w3 ⟨r3, rfl, p5, p6, hs3, hg3⟩
  have hgw3 := grown_trans hgw2 hg3
  clear hg3 hs2 hgw2
  by_cases g0 : r3 = 0
  · subst g0
    go_wp2_with fail
    refine (among_lit b a len cap zs _ [-1, 0, r1 + r2, r1 + r2 + 1] 4 _ hs3 (by omega) rfl (by omega) (by omega)).mono ?_
    rintro e4 w4 ⟨t, rfl, hs4, hg4⟩
    have HS := Lib.hid (hs4.mono (M := N + 10) (by omega))
    have HG := Lib.hid (grown_trans hgw3 hg4)
    clear hg4 hs3 hs4 hgw3
    go_wp2
    refine bodyPost_ret (v := .tuple #[.int .i64 t, .int .i64 (r1 + r2)]) (by simp [results, Try.results61, go_sem, *]) rfl ⟨_, _, rfl, HS.out, HG.out⟩
  · by_cases g1 : r3 = 1
    · subst g1
      go_wp2_with fail
      refine (among_lit b a len cap zs _ [r1, 40, 41, -9223372036854775808] 4 _ hs3 (by omega) rfl (by omega) (by omega)).mono ?_
      rintro e4 w4 ⟨t, rfl, hs4, hg4⟩
      have HS := Lib.hid (hs4.mono (M := N + 10) (by omega))
      have HG := Lib.hid (grown_trans hgw3 hg4)
      clear hg4 hs3 hs4 hgw3
      go_wp2
      refine bodyPost_ret (v := .tuple #[.int .i64 r1, .int .i64 t]) (by simp [results, Try.results61, go_sem, *]) rfl ⟨_, _, rfl, HS.out, HG.out⟩
    · have x0 : (r3 == 0) = false := by simpa using g0
      have x1 : (r3 == 1) = false := by simpa using g1
      have HS := Lib.hid (hs3.mono (M := N + 10) (by omega))
      have HG := Lib.hid hgw3
      clear hs3 hgw3
      go_wp2
      refine bodyPost_ret (v := .tuple #[.int .i64 r1, .int .i64 (r1 + r2)]) (by simp [results, Try.results61, go_sem, *]) rfl ⟨_, _, rfl, HS.out, HG.out⟩
/-- Levels and a height come. -/
def NewVL (w : World) (e : Ending) (w' : World) : Prop := ∃ a n c S, ∃ H : Int, e = .returned (.tuple #[.slice a n c, .int .i64 H]) ∧ IsRow .i64 w' a n c S ∧ Below w.heap.size w w'
def NewLO (w : World) (e : Ending) (w' : World) : Prop := ∃ a n c S, ∃ H m : Int, e = .returned (.tuple #[.int .i64 H, .int .i64 m, .slice a n c]) ∧ IsRow .i64 w' a n c S ∧ Below w.heap.size w w'
def NewSB (w : World) (e : Ending) (w' : World) : Prop := ∃ a n c S, ∃ l d h j H : Int, e = .returned (.tuple #[.agg #[.int .i64 l, .int .i64 d, .int .i64 h, .int .i64 j], .int .i64 H, .slice a n c]) ∧ IsRow .i64 w' a n c S ∧ Below w.heap.size w w'
def NewBG (w : World) (e : Ending) (w' : World) : Prop := ∃ a n c S, ∃ l d h j H le mo : Int, e = .returned (.tuple #[.agg #[.int .i64 l, .int .i64 d, .int .i64 h, .int .i64 j], .int .i64 H, .int .i64 le, .int .i64 mo, .slice a n c]) ∧ IsRow .i64 w' a n c S ∧ Below w.heap.size w w'
set_option maxHeartbeats 2000000 in
theorem drawValidLevels_any (a : Option Addr) (len cap : Nat) (zs : List Int) (w : World) (h : IsRow .u8 w a len cap zs) :
    Calls Try.prog 32 #[.slice a len cap] w (NewVL w) := by
  have H := Lib.hid (from_any a len cap zs w h)
  clear h
  go_enter Try.func32, Try.ntmps32
  go_wp2_with fail
  refine H.out.mono ?_
  rintro e1 w1 ⟨rfl, hs1, hb1, hz1⟩
  go_wp2_with fail
  refine (l10DrawHeight_any _ a len cap zs _ _ hs1 (by omega)).mono ?_
  rintro e2 w2 ⟨n, rfl, hs2, hg2⟩
  have ha2 := below_of_grown hb1 hg2 (Nat.le_refl _)
  clear hg2 hs1
  go_wp2_with fail
  refine (l10Some_any _ a len cap zs _ n _ hs2 (by omega)).mono ?_
  rintro e3 w3 ⟨v, S, rfl, hO, hs3, hg3⟩
  obtain ⟨a3, c3, rfl⟩ := hO.shape
  have ha3 := below_of_grown ha2 hg3 (Nat.le_refl _)
  have HR := Lib.hid hO.row
  clear hg3 hs2 hO hs3
  go_wp2
  refine bodyPost_ret (v := .tuple #[.slice a3 S.length c3, .int .i64 n]) (by simp [results, Try.results32, go_sem, *]) rfl ⟨_, _, _, S, _, rfl, HR.out, ha3⟩
set_option maxHeartbeats 2000000 in
theorem drawLevelsOff_any (a : Option Addr) (len cap : Nat) (zs : List Int) (w : World) (h : IsRow .u8 w a len cap zs) :
    Calls Try.prog 30 #[.slice a len cap] w (NewLO w) := by
  have H := Lib.hid (from_any a len cap zs w h)
  clear h
  go_enter Try.func30, Try.ntmps30
  go_wp2_with fail
  refine H.out.mono ?_
  rintro e1 w1 ⟨rfl, hs1, hb1, hz1⟩
  go_wp2_with fail
  refine (l10DrawHeight_any _ a len cap zs _ _ hs1 (by omega)).mono ?_
  rintro e2 w2 ⟨n, rfl, hs2, hg2⟩
  have ha2 := below_of_grown hb1 hg2 (Nat.le_refl _)
  clear hg2 hs1
  go_wp2_with fail
  refine (l10DrawCourses_any _ a len cap zs _ _ hs2 (by omega)).mono ?_
  rintro e4 w4 ⟨m, rfl, hs4, hg4⟩
  have ha4 := below_of_grown ha2 hg4 (Nat.le_refl _)
  clear hg4 hs2
  go_wp2_with fail
  refine (l10Some_any _ a len cap zs _ n _ hs4 (by omega)).mono ?_
  rintro e3 w3 ⟨v, S, rfl, hO, hs3, hg3⟩
  obtain ⟨a3, c3, rfl⟩ := hO.shape
  have ha3 := below_of_grown ha4 hg3 (Nat.le_refl _)
  have HR := Lib.hid hO.row
  clear hg3 hs4 hO hs3
  go_wp2
  refine bodyPost_ret (v := .tuple #[.int .i64 n, .int .i64 m, .slice a3 S.length c3]) (by simp [results, Try.results30, go_sem, *]) rfl ⟨_, _, _, S, _, _, rfl, HR.out, ha3⟩
theorem ownI_stores4 {w : World} {base R : Nat} {v : Value} {S : List Int} (h : OwnI w base v S) (hR : R < base) (u0 u1 u2 u3 : Value) :
    OwnI ((((w.setCell ⟨R, 0, none⟩ u0).setCell ⟨R, 1, none⟩ u1).setCell ⟨R, 2, none⟩ u2).setCell ⟨R, 3, none⟩ u3) base v S :=
  h.src (grown_store (grown_store (grown_store (grown_store (World.grownBy.refl w (some R)) 0 u0) 1 u1) 2 u2) 3 u3) hR
theorem below_stores4 {a w : World} (h : Below a.heap.size a w) {R : Nat} (hR : a.heap.size ≤ R) (u0 u1 u2 u3 : Value) : Below a.heap.size a ((((w.setCell ⟨R, 0, none⟩ u0).setCell ⟨R, 1, none⟩ u1).setCell ⟨R, 2, none⟩ u2).setCell ⟨R, 3, none⟩ u3) :=
  (((h.setCell hR _).setCell hR _).setCell hR _).setCell hR _
set_option maxHeartbeats 4000000 in
theorem drawStepsBetween_any (a : Option Addr) (len cap : Nat) (zs : List Int) (w : World) (h : IsRow .u8 w a len cap zs) :
    Calls Try.prog 31 #[.slice a len cap] w (NewSB w) := by
  have H := Lib.hid fun W (hW : Below w.heap.size w W) => from_any a len cap zs W (h.below hW)
  clear h
  go_enter Try.func31, Try.ntmps31
  go_wp2_with fail
  refine (H.out _ (by repeat (first | exact Below.refl _ _ | assumption | refine Below.drew ?_ | refine below_drewN ?_ _ | refine Below.alloc ?_ (by first | omega | (simp; done) | (simp; omega)) _ | refine Below.setCell ?_ (by first | omega | (simp; done) | (simp; omega)) _))).mono ?_
  rintro e1 w1 ⟨rfl, hs1, hb1, hz1⟩
  have R1 := Lib.hid (B4.below (b4_new w 26 (.int .i64 0) (.int .i64 0) (.int .i64 0) (.int .i64 0)) hb1)
  have ha1 : Below w.heap.size w w1 := below_call (by repeat (first | exact Below.refl _ _ | assumption | refine Below.drew ?_ | refine below_drewN ?_ _ | refine Below.alloc ?_ (by first | omega | (simp; done) | (simp; omega)) _ | refine Below.setCell ?_ (by first | omega | (simp; done) | (simp; omega)) _)) hb1
  simp at hs1 hz1
  clear hb1
  go_wp2_with fail
  refine (l02Bent_any _ a len cap zs _ _ hs1 (by omega)).mono ?_
  rintro e2 w2 ⟨l, d, h, j, rfl, hs2, hg2⟩
  have R2 := Lib.hid (R1.out.grown hg2 (by omega))
  have ha2 := below_of_grown ha1 hg2 (by omega)
  have hz2 := hg2.size
  clear hg2 hs1 R1 ha1
  go_wp2_with fail
  refine (l10DrawHeight_any _ a len cap zs _ _ (hs2.alloc _) (by omega)).mono ?_
  rintro e3 w3 ⟨n, rfl, hs3, hg3⟩
  have R3 := Lib.hid ((R2.out.alloc (.cells #[.int .i64 l, .int .i64 d, .int .i64 h, .int .i64 j] 26)).grown hg3 (by omega))
  have X3 := Lib.hid ((b4_new w2 26 (.int .i64 l) (.int .i64 d) (.int .i64 h) (.int .i64 j)).grown hg3 (by omega))
  have ha3 := below_of_grown (ha2.alloc (by omega) (.cells #[.int .i64 l, .int .i64 d, .int .i64 h, .int .i64 j] 26)) hg3 (by omega)
  have hz3 := hg3.size
  simp at hz3
  clear hg3 hs2 R2
  go_wp2_with fail
  have X := X3
  have R := R3
  have hs := hs3
  have ha := ha3
  clear X3 R3 hs3 ha3
  -- world wN: hs : Src wN .., R, X at wN, ha : Below w wN; bound N
  obtain ⟨q0, q1, q2, q3⟩ := X.out.cells
  obtain ⟨k0, k1, k2, k3⟩ := R.out.cells
  obtain ⟨f0, f1, f2, f3⟩ := R.out.fz
  go_region_law (go_simp; go_at_call 62; (with_reducible refine (l10Some_any (w.heap.size + 1) a len cap zs _ n _ hs.drew (by omega)).mono ?_); rintro e9 w9 ⟨v9, S9, rfl, hO9, hs9, hg9⟩; obtain ⟨a9, c9, rfl⟩ := hO9.shape; have X9 := (B4.drew X.out).grown hg9 (by omega); have R9 := (B4.drew R.out).grown hg9 (by omega); obtain ⟨n0, n1, n2, n3⟩ := X9.cells; obtain ⟨o0, o1, o2, o3⟩ := R9.cells; obtain ⟨e0, e1, e2, e3⟩ := R9.fz; have ha9 := below_of_grown ha.drew hg9 (by omega); have HO9 := Lib.hid (ownI_stores4 hO9 (show w.heap.size < _ from by simp; omega) (.int .i64 l) (.int .i64 d) (.int .i64 h) (.int .i64 j)); have HA9 := Lib.hid (below_stores4 ha9 (Nat.le_refl w.heap.size) (.int .i64 l) (.int .i64 d) (.int .i64 h) (.int .i64 j)); clear hO9 hs9 hg9 X9 R9 ha9)
  all_goals
    go_wp2
    refine bodyPost_ret (v := .tuple #[.agg #[.int .i64 l, .int .i64 d, .int .i64 h, .int .i64 j], .int .i64 n, .slice a9 S9.length c9]) (by simp [results, Try.results31, go_sem, *]) rfl ⟨_, _, _, S9, _, _, _, _, _, rfl, HO9.out.row, HA9.out⟩
set_option maxHeartbeats 4000000 in
theorem drawBestGauge_any (a : Option Addr) (len cap : Nat) (zs : List Int) (w : World) (h : IsRow .u8 w a len cap zs) :
    Calls Try.prog 29 #[.slice a len cap] w (NewBG w) := by
  have H := Lib.hid fun W (hW : Below w.heap.size w W) => from_any a len cap zs W (h.below hW)
  clear h
  go_enter Try.func29, Try.ntmps29
  go_wp2_with fail
  refine (H.out _ (by repeat (first | exact Below.refl _ _ | assumption | refine Below.drew ?_ | refine below_drewN ?_ _ | refine Below.alloc ?_ (by first | omega | (simp; done) | (simp; omega)) _ | refine Below.setCell ?_ (by first | omega | (simp; done) | (simp; omega)) _))).mono ?_
  rintro e1 w1 ⟨rfl, hs1, hb1, hz1⟩
  have R1 := Lib.hid (B4.below (b4_new w 26 (.int .i64 0) (.int .i64 0) (.int .i64 0) (.int .i64 0)) hb1)
  have ha1 : Below w.heap.size w w1 := below_call (by repeat (first | exact Below.refl _ _ | assumption | refine Below.drew ?_ | refine below_drewN ?_ _ | refine Below.alloc ?_ (by first | omega | (simp; done) | (simp; omega)) _ | refine Below.setCell ?_ (by first | omega | (simp; done) | (simp; omega)) _)) hb1
  simp at hs1 hz1
  clear hb1
  go_wp2_with fail
  refine (l02Bent_any _ a len cap zs _ _ hs1 (by omega)).mono ?_
  rintro e2 w2 ⟨l, d, h, j, rfl, hs2, hg2⟩
  have R2 := Lib.hid (R1.out.grown hg2 (by omega))
  have ha2 := below_of_grown ha1 hg2 (by omega)
  have hz2 := hg2.size
  clear hg2 hs1 R1 ha1
  go_wp2_with fail
  refine (l10DrawHeight_any _ a len cap zs _ _ (hs2.alloc _) (by omega)).mono ?_
  rintro e3 w3 ⟨n, rfl, hs3, hg3⟩
  have R3 := Lib.hid ((R2.out.alloc (.cells #[.int .i64 l, .int .i64 d, .int .i64 h, .int .i64 j] 26)).grown hg3 (by omega))
  have X3 := Lib.hid ((b4_new w2 26 (.int .i64 l) (.int .i64 d) (.int .i64 h) (.int .i64 j)).grown hg3 (by omega))
  have ha3 := below_of_grown (ha2.alloc (by omega) (.cells #[.int .i64 l, .int .i64 d, .int .i64 h, .int .i64 j] 26)) hg3 (by omega)
  have hz3 := hg3.size
  simp at hz3
  clear hg3 hs2 R2
  go_wp2_with fail
  refine (l10Both_any _ a len cap zs _ _ hs3 (by omega)).mono ?_
  rintro e4 w4 ⟨le, mo, rfl, hs4, hg4⟩
  have R := Lib.hid (R3.out.grown hg4 (by omega))
  have X := Lib.hid (X3.out.grown hg4 (by omega))
  have ha := below_of_grown ha3 hg4 (by omega)
  have hz4 := hg4.size
  have hs := hs4
  clear hg4 hs3 R3 X3 ha3 hs4
  go_wp2_with fail
  -- world wN: hs : Src wN .., R, X at wN, ha : Below w wN; bound N
  obtain ⟨q0, q1, q2, q3⟩ := X.out.cells
  obtain ⟨k0, k1, k2, k3⟩ := R.out.cells
  obtain ⟨f0, f1, f2, f3⟩ := R.out.fz
  go_region_law (go_simp; go_at_call 62; (with_reducible refine (l10Some_any (w.heap.size + 1) a len cap zs _ n _ hs.drew (by omega)).mono ?_); rintro e9 w9 ⟨v9, S9, rfl, hO9, hs9, hg9⟩; obtain ⟨a9, c9, rfl⟩ := hO9.shape; have X9 := (B4.drew X.out).grown hg9 (by omega); have R9 := (B4.drew R.out).grown hg9 (by omega); obtain ⟨n0, n1, n2, n3⟩ := X9.cells; obtain ⟨o0, o1, o2, o3⟩ := R9.cells; obtain ⟨e0, e1, e2, e3⟩ := R9.fz; have ha9 := below_of_grown ha.drew hg9 (by omega); have HO9 := Lib.hid (ownI_stores4 hO9 (show w.heap.size < _ from by simp; omega) (.int .i64 l) (.int .i64 d) (.int .i64 h) (.int .i64 j)); have HA9 := Lib.hid (below_stores4 ha9 (Nat.le_refl w.heap.size) (.int .i64 l) (.int .i64 d) (.int .i64 h) (.int .i64 j)); clear hO9 hs9 hg9 X9 R9 ha9)
  all_goals
    go_wp2
    refine bodyPost_ret (v := .tuple #[.agg #[.int .i64 l, .int .i64 d, .int .i64 h, .int .i64 j], .int .i64 n, .int .i64 le, .int .i64 mo,.slice a9 S9.length c9]) (by simp [results, Try.results29, go_sem, *]) rfl ⟨_, _, _, S9, _, _, _, _, _, _,_, rfl, HO9.out.row, HA9.out⟩
end Go.Proofs.Ytgpcehokdfehjaa
