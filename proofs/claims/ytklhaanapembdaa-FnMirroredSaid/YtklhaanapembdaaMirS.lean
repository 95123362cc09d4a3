/- Contract of the reference's MirrorBlocks: new blocks in the opposite order; no old memory turns; condition: the slices can be read. -/
import Derived.Test.YtklhaanapembdaaBuild
import Derived.Test.YtklhaanapembdaaMoments
import Derived.Deep.RegionLaw
namespace Go.Proofs.Ytklhaanapembdaa
open Go.RowKit

theorem blkD' {w : World} {g : Nat} {o : Obj} (h : w.heap[g]? = some o) : w.drew.heap[g]? = some o := h
theorem rev_next {zs : List Int} {k m : Nat} (h : m + k + 1 = zs.length) : zs.reverse.take (k + 1) = zs.reverse.take k ++ [zs.getD m 0] := by
  have hk : k < zs.reverse.length := by simp; omega
  rw [List.take_succ_eq_append_getElem hk, List.getElem_reverse, List.getD_eq_getElem?_getD, List.getElem?_eq_getElem (show m < zs.length by omega)]
  have : zs.length - 1 - k = m := by omega
  simp [this]
theorem rev_len {zs : List Int} {k : Nat} (h : k ≤ zs.length) : (zs.reverse.take k).length = k := by simp; omega
/-- The blocks in the opposite order, or nothing. -/
def mbO (ls lo hi z : List Int) : List Int := if blkB ls lo hi = true then z.reverse else []
def mbA (ls lo hi : List Int) : List Int := mbO ls lo hi ls
def mbB (ls lo hi : List Int) : List Int := mbO ls lo hi lo
def mbC (ls lo hi : List Int) : List Int := mbO ls lo hi hi
theorem mbA_len (ls lo hi : List Int) : (mbA ls lo hi).length ≤ 1000000 := by
  unfold mbA mbO; split
  · have := (blkB_t (by assumption)).2.1; simp; omega
  · simp
theorem mbB_len (ls lo hi : List Int) : (mbB ls lo hi).length ≤ 1000000 := by
  unfold mbB mbO; split
  · have := blkB_t (by assumption); simp; omega
  · simp
theorem mbC_len (ls lo hi : List Int) : (mbC ls lo hi).length ≤ 1000000 := by
  unfold mbC mbO; split
  · have := blkB_t (by assumption); simp; omega
  · simp
/-- A call that hands back new blocks and a code. -/
def NewM (w : World) (z0 z1 z2 : List Int) (code : Int) (e : Ending) (w' : World) : Prop := NewBC z0.length z1.length z2.length z0 z1 z2 code w e w'
theorem NewM.toldT {w w' : World} {z0 z1 z2 : List Int} {code : Int} {e : Ending} {n0 n1 n2 : Nat} (h : NewM w z0 z1 z2 code e w') (h0 : z0.length = n0) (h1 : z1.length = n1) (h2 : z2.length = n2) : NewBC n0 n1 n2 z0 z1 z2 code w e w' := by
  subst h0 h1 h2; exact h
set_option maxRecDepth 100000 in
set_option maxHeartbeats 4000000 in
theorem specMirrorBlocks_any (a0 a1 a2 : Option Addr) (n0 c0 n1 c1 n2 c2 : Nat) (ls lo hi : List Int) (w : World) (h : IsB a0 a1 a2 n0 c0 n1 c1 n2 c2 ls lo hi w) :
    Calls Try.prog 52 #[.agg #[.slice a0 n0 c0, .slice a1 n1 c1, .slice a2 n2 c2]] w (NewM w (mbA ls lo hi) (mbB ls lo hi) (mbC ls lo hi) (momC ls lo hi)) := by
  have H := Lib.hid h
  cases g : blkB ls lo hi
  · have e1 : mbA ls lo hi = [] := by simp [mbA, mbO, g]
    have e2 : mbB ls lo hi = [] := by simp [mbB, mbO, g]
    have e3 : mbC ls lo hi = [] := by simp [mbC, mbO, g]
    have e4 : momC ls lo hi = 1 := by simp [momC, g]
    rw [e1, e2, e3, e4]
    have G := Lib.hid g
    clear h g e1 e2 e3 e4
    go_enter Try.func52, Try.ntmps52
    go_wp2_with fail
    refine (l13Ok_any _ _ _ _ _ _ _ _ _ _ _ _ _ _ (blk_alloc (blk_new w _)) (H.out.below (by repeat (first | exact Below.refl _ _ | assumption | refine Below.drew ?_ | refine below_drewN ?_ _ | refine Below.alloc ?_ (by first | omega | (simp; done) | (simp; omega)) _ | refine Below.setCell ?_ (by first | omega | (simp; done) | (simp; omega)) _)))).mono ?_
    rintro e w1 ⟨rfl, hb1⟩
    have hz1 := hb1.size
    simp at hz1
    have ha1 : Below w.heap.size w w1 := below_call (by repeat (first | exact Below.refl _ _ | assumption | refine Below.drew ?_ | refine below_drewN ?_ _ | refine Below.alloc ?_ (by first | omega | (simp; done) | (simp; omega)) _ | refine Below.setCell ?_ (by first | omega | (simp; done) | (simp; omega)) _)) hb1
    have hR1 : w1.heap[w.heap.size + 1]? = some (.cells #[.slice none 0 0, .slice none 0 0, .slice none 0 0] 26 (0, 0)) := blk_call (blk_new' _ _ (by simp)) hb1
    have r0 := cellOf hR1 0
    have r1 := cellOf hR1 1
    have r2 := cellOf hR1 2
    have rf := frozenOf hR1
    simp at r0 r1 r2
    clear hR1 hb1
    rw [G.out]
    go_wp2
    refine bodyPost_ret (v := .tuple #[.agg #[.slice none 0 0, .slice none 0 0, .slice none 0 0], .int .i64 1]) (by simp [results, Try.results52, go_sem, *]) rfl ?_
    exact ⟨none, none, none, 0, 0, 0, rfl, ⟨ownT_nil _ _ _, ownT_nil _ _ _, ownT_nil _ _ _, apart_nil _ _, apart_nil _ _, apart_nil _ _⟩, (by repeat (first | exact Below.refl _ _ | assumption | refine Below.drew ?_ | refine below_drewN ?_ _ | refine Below.alloc ?_ (by first | omega | (simp; done) | (simp; omega)) _ | refine Below.setCell ?_ (by first | omega | (simp; done) | (simp; omega)) _))⟩
  · have e1 : mbA ls lo hi = ls.reverse := by simp [mbA, mbO, g]
    have e2 : mbB ls lo hi = lo.reverse := by simp [mbB, mbO, g]
    have e3 : mbC ls lo hi = hi.reverse := by simp [mbC, mbO, g]
    have e4 : momC ls lo hi = 0 := by simp [momC, g]
    rw [e1, e2, e3, e4]
    obtain ⟨v1, v2, v3, v4, v5, _⟩ := blkB_t g
    have l0 := h.1.1
    have l1 := h.2.1.1
    have l2 := h.2.2.1
    have L0 := Lib.hid l0
    have L1 := Lib.hid l1
    have L2 := Lib.hid l2
    have b0 : n0 ≤ 10 := by omega
    have b1 : n1 ≤ 11 := by omega
    have hn2 : n2 = n1 := by omega
    subst hn2
    have HOK := Lib.hid (fun W x hF hW => l13Ok_any x a0 a1 a2 n0 c0 n2 c1 n2 c2 ls lo hi W hF hW)
    rw [g] at HOK
    obtain ⟨i0, hi0', hi0, hi1, hi2⟩ := info_parts info_i64
    clear h g e1 e2 e3 e4 v1 v2 v3 v4 v5 l0 l1 l2
    go_enter Try.func52, Try.ntmps52
    go_wp2_with fail
    refine (HOK.out _ _ (blk_alloc (blk_new w _)) (H.out.below (by repeat (first | exact Below.refl _ _ | assumption | refine Below.drew ?_ | refine below_drewN ?_ _ | refine Below.alloc ?_ (by first | omega | (simp; done) | (simp; omega)) _ | refine Below.setCell ?_ (by first | omega | (simp; done) | (simp; omega)) _)))).mono ?_
    rintro e w1 ⟨rfl, hb1⟩
    have hz1 := hb1.size
    simp at hz1
    have ha1 : Below w.heap.size w w1 := below_call (by repeat (first | exact Below.refl _ _ | assumption | refine Below.drew ?_ | refine below_drewN ?_ _ | refine Below.alloc ?_ (by first | omega | (simp; done) | (simp; omega)) _ | refine Below.setCell ?_ (by first | omega | (simp; done) | (simp; omega)) _)) hb1
    have hF1 : w1.heap[w.heap.size]? = some (.cells #[.slice a0 n0 c0, .slice a1 n2 c1, .slice a2 n2 c2] 26 (0, 0)) := blk_call (blk_alloc (blk_new w _)) hb1
    have hR1 : w1.heap[w.heap.size + 1]? = some (.cells #[.slice none 0 0, .slice none 0 0, .slice none 0 0] 26 (0, 0)) := blk_call (blk_new' _ _ (by simp)) hb1
    have HF1 := Lib.hid (blk_alloc (o' := .cells #[.slice none 0 0, .slice none 0 0, .slice none 0 0] 26) hF1)
    have HR1 := Lib.hid (blk_alloc (o' := .cells #[.slice none 0 0, .slice none 0 0, .slice none 0 0] 26) hR1)
    have HB1 := Lib.hid (build_new w1)
    have HA1 : Hid (Below w.heap.size w (w1.alloc (.cells #[.slice none 0 0, .slice none 0 0, .slice none 0 0] 26))) := Lib.hid (ha1.alloc ha1.size _)
    have f0 := cellOf HF1.out 0
    have f1 := cellOf HF1.out 1
    have f2 := cellOf HF1.out 2
    simp at f0 f1 f2
    clear hF1 hR1 hb1
    obtain ⟨g, hg⟩ : ∃ g, w1.heap.size = g := ⟨_, rfl⟩
    rw [hg] at HB1
    have hgw : w.heap.size + 1 < g := by omega
    go_wp2_with fail
    go_loopw [5] (fun i wr => ∃ (k : Nat) (v0 : Value), k ≤ n0 ∧ i = .int .i64 ((n0 : Int) - 1 - k) ∧ Build wr g v0 (.slice none 0 0) (.slice none 0 0) (ls.reverse.take k) [] [] ∧ wr.heap[w.heap.size]? = some (.cells #[.slice a0 n0 c0, .slice a1 n2 c1, .slice a2 n2 c2] 26 (0, 0)) ∧ wr.heap[w.heap.size + 1]? = some (.cells #[.slice none 0 0, .slice none 0 0, .slice none 0 0] 26 (0, 0)) ∧ Below w.heap.size w wr) (fun i _ => (intOf i + 1).toNat)
    case atStart => exact ⟨0, _, by omega, by go_num, HB1.out, HF1.out, HR1.out, HA1.out⟩
    case round =>
      obtain ⟨k, v0, hk, rfl, hBd, hF, hR, hB⟩ := hrel
      have HBd := Lib.hid hBd
      have HF := Lib.hid hF
      have HR := Lib.hid hR
      have hBz := hB.size
      obtain ⟨s0, s1, s2, sf⟩ := hBd.cells
      clear f0 f1 f2
      have f0 := cellOf hF 0
      have f1 := cellOf hF 1
      have f2 := cellOf hF 2
      simp at f0 f1 f2
      clear hBd hF hR
      have hglt := blk_lt HBd.out.blk
      by_cases hlt : k < n0
      · obtain ⟨m, hm⟩ : ∃ m : Nat, m + k + 1 = n0 := ⟨n0 - 1 - k, by omega⟩
        have hme : (n0 : Int) - 1 - k = (m : Int) := by omega
        rw [hme]
        have HNX := Lib.hid (rev_next (zs := ls) (k := k) (m := m) (by rw [L0.out]; exact hm))
        have HME := Lib.hid (show (m : Int) - 1 = (n0 : Int) - 1 - ((k + 1 : Nat) : Int) by omega)
        have y1 : decide ((0 : Int) ≤ (m : Int)) = true := decide_eq_true (by omega)
        have z1 : (0 : Int) ≤ (m : Int) := by omega
        have z2 : (m : Int) < (n0 : Int) := by omega
        obtain ⟨b, o, rfl, hb, dk⟩ := (H.out.below hB).1.cell (i := m) (by omega)
        have hBH := Lib.hid hB
        clear hm hme hB
        generalize ls.getD m 0 = x at *
        have ne1 : ¬ wr.heap.size = g := by omega
        go_wp2_with fail
        have hOl := HBd.out.o0
        unfold OwnI at hOl
        rw [rev_len (by rw [L0.out]; omega)] at hOl
        have HOl := Lib.hid hOl
        clear hOl
        go_region_law ((refine step_append_lies _ (by rfl) _ _ 24 (by rfl) (g + 1) 2 i0 (.int .i64 0) 1 8 Try.underlying24 hi0' hi0 hi1 hi2 rfl (by decide) v0 k ((ls.reverse.take k).map (Value.int .i64)) (by rfl) (by first | exact World.ownsRow.alloc HOl.out _ | exact World.ownsRow.alloc (World.ownsRow.drew HOl.out) _) ⟨wr.heap.size, 0, none⟩ 1 1 [.int .i64 x] (by rfl) rfl (cell_one_new _ _ _) (by simp [Value.oneCell']) (by decide) (by unfold maxLen; omega) (by omega) (by simp; omega) (wr.heap.size + 1) (by simp) ?_; intro g4 cap4 w4 hown4 hgrow4 hat4 hlt4; (have hblk4 := blk_own (by first | exact (HBd.out.drew.alloc _).blk | exact (HBd.out.alloc _).drew.blk) (by first | exact (HBd.out.drew.alloc _).o0 | exact (HBd.out.alloc _).drew.o0) hgrow4 (Nat.lt_succ_self _)); (have q4 := cellOf hblk4 0); (have qf4 := frozenOf hblk4 0); (simp at q4); clear hblk4))
        all_goals
          go_wp2
          have hBdn := (by first | exact (HBd.out.alloc _).drew.app0 (rev_len (by rw [L0.out]; omega)) hown4 hgrow4 hat4 (by simp) | exact (HBd.out.drew.alloc _).app0 (rev_len (by rw [L0.out]; omega)) hown4 hgrow4 hat4 (by simp) : Build (w4.setCell ⟨g, 0, none⟩ (.slice (some ⟨g4, 0, none⟩) (k + 1) cap4)) g _ _ _ _ _ _)
          have HBn := Lib.hid hBdn
          have HFn : Hid ((w4.setCell ⟨g, 0, none⟩ (.slice (some ⟨g4, 0, none⟩) (k + 1) cap4)).heap[w.heap.size]? = _) := Lib.hid (blk_far (blk_own (by first | exact blkD' (blk_alloc HF.out) | exact blk_alloc (blkD' HF.out)) (by first | exact (HBd.out.alloc _).drew.o0 | exact (HBd.out.drew.alloc _).o0) hgrow4 (by omega)) (p := ⟨g, 0, none⟩) (show w.heap.size ≠ g by omega) _)
          have HRn : Hid ((w4.setCell ⟨g, 0, none⟩ (.slice (some ⟨g4, 0, none⟩) (k + 1) cap4)).heap[w.heap.size + 1]? = _) := Lib.hid (blk_far (blk_own (by first | exact blkD' (blk_alloc HR.out) | exact blk_alloc (blkD' HR.out)) (by first | exact (HBd.out.alloc _).drew.o0 | exact (HBd.out.drew.alloc _).o0) hgrow4 (by omega)) (p := ⟨g, 0, none⟩) (show w.heap.size + 1 ≠ g by omega) _)
          have HAn : Hid (Below w.heap.size w (w4.setCell ⟨g, 0, none⟩ (.slice (some ⟨g4, 0, none⟩) (k + 1) cap4))) := Lib.hid (below_app (by first | exact (hBH.out.alloc hBH.out.size _).drew | exact hBH.out.drew.alloc hBH.out.size _) (by omega) (by first | exact (HBd.out.alloc _).drew.o0 | exact (HBd.out.drew.alloc _).o0) hgrow4)
          clear hBdn hown4 hgrow4 hat4
          go_roundw
          case rel => exact ⟨k + 1, _, by omega, by rw [HME.out], by rw [HNX.out]; exact HBn.out, HFn.out, HRn.out, HAn.out⟩
          case measure => first | (simp [intOf]; done) | (simp [intOf]; omega)
      · obtain rfl : n0 = k := by omega
        have hme : (n0 : Int) - 1 - (n0 : Int) = -1 := by omega
        rw [hme]
        have y1 : decide ((0 : Int) ≤ -1) = false := by decide
        have HBe : Hid (Build wr g v0 (.slice none 0 0) (.slice none 0 0) ls.reverse [] []) := Lib.hid (by have := HBd.out; rwa [List.take_of_length_le (by rw [List.length_reverse, L0.out]; omega)] at this)
        have hBH := Lib.hid hB
        clear hme hB HBd HB1 HF1 HR1 HA1 s0 s1 s2 sf
        go_wp2_with fail
        obtain ⟨wo, rfl⟩ : ∃ wo : World, wo = wr := ⟨_, rfl⟩
        go_loopw [6] (fun i wr => ∃ (k : Nat) (v1 v2 : Value), k ≤ n2 ∧ i = .int .i64 ((n2 : Int) - 1 - k) ∧ Build wr g v0 v1 v2 ls.reverse (lo.reverse.take k) (hi.reverse.take k) ∧ wr.heap[w.heap.size]? = some (.cells #[.slice a0 n0 c0, .slice a1 n2 c1, .slice a2 n2 c2] 26 (0, 0)) ∧ wr.heap[w.heap.size + 1]? = some (.cells #[.slice none 0 0, .slice none 0 0, .slice none 0 0] 26 (0, 0)) ∧ Below w.heap.size w wr) (fun i _ => (intOf i + 1).toNat)
        case atStart => exact ⟨0, _, _, by omega, by go_num, HBe.out, HF.out, HR.out, hBH.out⟩
        case round =>
          clear HF HR hBH HBe hBz hglt f0 f1 f2
          obtain ⟨k, v1, v2, hk, rfl, hBd, hF, hR, hB⟩ := hrel
          have HBd := Lib.hid hBd
          have HF := Lib.hid hF
          have HR := Lib.hid hR
          have hBz := hB.size
          obtain ⟨s0, s1, s2, sf⟩ := hBd.cells
          have f0 := cellOf hF 0
          have f1 := cellOf hF 1
          have f2 := cellOf hF 2
          simp at f0 f1 f2
          clear hBd hF hR
          have hglt := blk_lt HBd.out.blk
          by_cases hlt : k < n2
          · obtain ⟨m, hm⟩ : ∃ m : Nat, m + k + 1 = n2 := ⟨n2 - 1 - k, by omega⟩
            have hme : (n2 : Int) - 1 - k = (m : Int) := by omega
            rw [hme]
            have HNX := Lib.hid (rev_next (zs := lo) (k := k) (m := m) (by rw [L1.out]; exact hm))
            have HNY := Lib.hid (rev_next (zs := hi) (k := k) (m := m) (by rw [L2.out]; exact hm))
            have HME := Lib.hid (show (m : Int) - 1 = (n2 : Int) - 1 - ((k + 1 : Nat) : Int) by omega)
            have y1 : decide ((0 : Int) ≤ (m : Int)) = true := decide_eq_true (by omega)
            have z1 : (0 : Int) ≤ (m : Int) := by omega
            have z2 : (m : Int) < (n2 : Int) := by omega
            obtain ⟨b, o, rfl, hb, dk⟩ := (H.out.below hB).2.1.cell (i := m) (by omega)
            obtain ⟨b', o', rfl, hb', dk'⟩ := H.out.2.2.cell (i := m) (by omega)
            have HDK := Lib.hid dk'
            have hBH := Lib.hid hB
            clear hm hme hB dk'
            generalize lo.getD m 0 = x at *
            generalize hi.getD m 0 = y at *
            have ne1 : ¬ wr.heap.size = g := by omega
            go_wp2_with fail
            have hOl := HBd.out.o1
            unfold OwnI at hOl
            rw [rev_len (by rw [L1.out]; omega)] at hOl
            have HOl := Lib.hid hOl
            clear hOl
            go_region_law ((refine step_append_lies _ (by rfl) _ _ 24 (by rfl) (g + 1) 2 i0 (.int .i64 0) 1 8 Try.underlying24 hi0' hi0 hi1 hi2 rfl (by decide) v1 k ((lo.reverse.take k).map (Value.int .i64)) (by rfl) (by first | exact World.ownsRow.alloc HOl.out _ | exact World.ownsRow.alloc (World.ownsRow.drew HOl.out) _) ⟨wr.heap.size, 0, none⟩ 1 1 [.int .i64 x] (by rfl) rfl (cell_one_new _ _ _) (by simp [Value.oneCell']) (by decide) (by unfold maxLen; omega) (by omega) (by simp; omega) (wr.heap.size + 1) (by simp) ?_; intro g4 cap4 w4 hown4 hgrow4 hat4 hlt4; (have hblk4 := blk_own (by first | exact (HBd.out.drew.alloc _).blk | exact (HBd.out.alloc _).drew.blk) (by first | exact (HBd.out.drew.alloc _).o1 | exact (HBd.out.alloc _).drew.o1) hgrow4 (Nat.lt_succ_self _)); (have q4 := cellOf hblk4 1); (have qf4 := frozenOf hblk4 1); (simp at q4); clear hblk4))
            all_goals
              go_wp2_with fail
              have hBdn := (by first | exact (HBd.out.alloc _).drew.app1 (rev_len (by rw [L1.out]; omega)) hown4 hgrow4 hat4 (by simp) | exact (HBd.out.drew.alloc _).app1 (rev_len (by rw [L1.out]; omega)) hown4 hgrow4 hat4 (by simp) : Build (w4.setCell ⟨g, 1, none⟩ (.slice (some ⟨g4, 0, none⟩) (k + 1) cap4)) g _ _ _ _ _ _)
              have HBn5 := Lib.hid hBdn
              have HFn5 : Hid ((w4.setCell ⟨g, 1, none⟩ (.slice (some ⟨g4, 0, none⟩) (k + 1) cap4)).heap[w.heap.size]? = _) := Lib.hid (blk_far (blk_own (by first | exact blkD' (blk_alloc HF.out) | exact blk_alloc (blkD' HF.out)) (by first | exact (HBd.out.alloc _).drew.o1 | exact (HBd.out.drew.alloc _).o1) hgrow4 (by omega)) (p := ⟨g, 1, none⟩) (show w.heap.size ≠ g by omega) _)
              have HRn5 : Hid ((w4.setCell ⟨g, 1, none⟩ (.slice (some ⟨g4, 0, none⟩) (k + 1) cap4)).heap[w.heap.size + 1]? = _) := Lib.hid (blk_far (blk_own (by first | exact blkD' (blk_alloc HR.out) | exact blk_alloc (blkD' HR.out)) (by first | exact (HBd.out.alloc _).drew.o1 | exact (HBd.out.drew.alloc _).o1) hgrow4 (by omega)) (p := ⟨g, 1, none⟩) (show w.heap.size + 1 ≠ g by omega) _)
              have HAn5 : Hid (Below w.heap.size w (w4.setCell ⟨g, 1, none⟩ (.slice (some ⟨g4, 0, none⟩) (k + 1) cap4))) := Lib.hid (below_app (by first | exact (hBH.out.alloc hBH.out.size _).drew | exact hBH.out.drew.alloc hBH.out.size _) (by omega) (by first | exact (HBd.out.alloc _).drew.o1 | exact (HBd.out.drew.alloc _).o1) hgrow4)
              clear hBdn hown4 hgrow4 hat4
              generalize w4.setCell ⟨g, 1, none⟩ (.slice (some ⟨g4, 0, none⟩) (k + 1) cap4) = w5 at *
              clear s0 s1 s2 sf f0 f1 f2 dk q4 qf4 HBd HF HR hBH HOl
              obtain ⟨s0, s1, s2, sf⟩ := HBn5.out.cells
              have f0 := cellOf HFn5.out 0
              have f1 := cellOf HFn5.out 1
              have f2 := cellOf HFn5.out 2
              simp at f0 f1 f2
              have dk := keep1 HAn5.out HDK.out
              have hz5 := HAn5.out.size
              have hglt5 := blk_lt HBn5.out.blk
              have ne5 : ¬ w5.heap.size = g := by omega
              have hOl := HBn5.out.o2
              unfold OwnI at hOl
              rw [rev_len (by rw [L2.out]; omega)] at hOl
              have HOlB := Lib.hid hOl
              clear hOl
              go_region_law ((refine step_append_lies _ (by rfl) _ _ 24 (by rfl) (g + 1) 2 i0 (.int .i64 0) 1 8 Try.underlying24 hi0' hi0 hi1 hi2 rfl (by decide) v2 k ((hi.reverse.take k).map (Value.int .i64)) (by rfl) (by first | exact World.ownsRow.alloc HOlB.out _ | exact World.ownsRow.alloc (World.ownsRow.drew HOlB.out) _) ⟨w5.heap.size, 0, none⟩ 1 1 [.int .i64 y] (by rfl) rfl (cell_one_new _ _ _) (by simp [Value.oneCell']) (by decide) (by unfold maxLen; omega) (by omega) (by simp; omega) (w5.heap.size + 1) (by simp) ?_; intro g4B cap4B w4B hown4B hgrow4B hat4B hlt4B; (have hblk4 := blk_own (by first | exact (HBn5.out.drew.alloc _).blk | exact (HBn5.out.alloc _).drew.blk) (by first | exact (HBn5.out.drew.alloc _).o2 | exact (HBn5.out.alloc _).drew.o2) hgrow4B (Nat.lt_succ_self _)); (have q4B := cellOf hblk4 2); (have qf4B := frozenOf hblk4 2); (simp at q4B); clear hblk4))
              all_goals
                go_wp2
                have hBdn := (by first | exact (HBn5.out.alloc _).drew.app2 (rev_len (by rw [L2.out]; omega)) hown4B hgrow4B hat4B (by simp) | exact (HBn5.out.drew.alloc _).app2 (rev_len (by rw [L2.out]; omega)) hown4B hgrow4B hat4B (by simp) : Build (w4B.setCell ⟨g, 2, none⟩ (.slice (some ⟨g4B, 0, none⟩) (k + 1) cap4B)) g _ _ _ _ _ _)
                have HBn6 := Lib.hid hBdn
                have HFn6 : Hid ((w4B.setCell ⟨g, 2, none⟩ (.slice (some ⟨g4B, 0, none⟩) (k + 1) cap4B)).heap[w.heap.size]? = _) := Lib.hid (blk_far (blk_own (by first | exact blkD' (blk_alloc HFn5.out) | exact blk_alloc (blkD' HFn5.out)) (by first | exact (HBn5.out.alloc _).drew.o2 | exact (HBn5.out.drew.alloc _).o2) hgrow4B (by omega)) (p := ⟨g, 2, none⟩) (show w.heap.size ≠ g by omega) _)
                have HRn6 : Hid ((w4B.setCell ⟨g, 2, none⟩ (.slice (some ⟨g4B, 0, none⟩) (k + 1) cap4B)).heap[w.heap.size + 1]? = _) := Lib.hid (blk_far (blk_own (by first | exact blkD' (blk_alloc HRn5.out) | exact blk_alloc (blkD' HRn5.out)) (by first | exact (HBn5.out.alloc _).drew.o2 | exact (HBn5.out.drew.alloc _).o2) hgrow4B (by omega)) (p := ⟨g, 2, none⟩) (show w.heap.size + 1 ≠ g by omega) _)
                have HAn6 : Hid (Below w.heap.size w (w4B.setCell ⟨g, 2, none⟩ (.slice (some ⟨g4B, 0, none⟩) (k + 1) cap4B))) := Lib.hid (below_app (by first | exact (HAn5.out.alloc HAn5.out.size _).drew | exact HAn5.out.drew.alloc HAn5.out.size _) (by omega) (by first | exact (HBn5.out.alloc _).drew.o2 | exact (HBn5.out.drew.alloc _).o2) hgrow4B)
                clear hBdn hown4B hgrow4B hat4B
                go_roundw
                case rel => exact ⟨k + 1, _, _, by omega, by rw [HME.out], by rw [HNX.out, HNY.out]; exact HBn6.out, HFn6.out, HRn6.out, HAn6.out⟩
                case measure => first | (simp [intOf]; done) | (simp [intOf]; omega)
          · obtain rfl : n2 = k := by omega
            have hme : (n2 : Int) - 1 - (n2 : Int) = -1 := by omega
            rw [hme]
            have y1 : decide ((0 : Int) ≤ -1) = false := by decide
            have HBe : Hid (Build wr g v0 v1 v2 ls.reverse lo.reverse hi.reverse) := Lib.hid (by have := HBd.out; rwa [List.take_of_length_le (by rw [List.length_reverse, L1.out]; omega), List.take_of_length_le (by rw [List.length_reverse, L2.out]; omega)] at this)
            have r0 := cellOf HR.out 0
            have r1 := cellOf HR.out 1
            have r2 := cellOf HR.out 2
            have rf := frozenOf HR.out
            simp at r0 r1 r2
            have hBH := Lib.hid hB
            clear hme hB HBd HF HR
            obtain ⟨x0, k0, rfl⟩ := HBe.out.o0.shape
            obtain ⟨x1, k1, rfl⟩ := HBe.out.o1.shape
            obtain ⟨x2, k2, rfl⟩ := HBe.out.o2.shape
            have hBf := ((HBe.out.setFar (k := w.heap.size + 1) hgw 0 (.slice x0 ls.reverse.length k0)).setFar (k := w.heap.size + 1) hgw 1 (.slice x1 lo.reverse.length k1)).setFar (k := w.heap.size + 1) hgw 2 (.slice x2 hi.reverse.length k2)
            have hBelow := ((hBH.out.setCell (p := ⟨w.heap.size + 1, 0, none⟩) (Nat.le_succ _) (.slice x0 ls.reverse.length k0)).setCell (p := ⟨w.heap.size + 1, 1, none⟩) (Nat.le_succ _) (.slice x1 lo.reverse.length k1)).setCell (p := ⟨w.heap.size + 1, 2, none⟩) (Nat.le_succ _) (.slice x2 hi.reverse.length k2)
            have HFin : Hid (NewM w ls.reverse lo.reverse hi.reverse 0 (.returned (.tuple #[.agg #[.slice x0 ls.reverse.length k0, .slice x1 lo.reverse.length k1, .slice x2 hi.reverse.length k2], .int .i64 0])) (((wr.setCell ⟨w.heap.size + 1, 0, none⟩ (.slice x0 ls.reverse.length k0)).setCell ⟨w.heap.size + 1, 1, none⟩ (.slice x1 lo.reverse.length k1)).setCell ⟨w.heap.size + 1, 2, none⟩ (.slice x2 hi.reverse.length k2))) := Lib.hid ⟨_, _, _, _, _, _, rfl, hBf.ownB (by omega), hBelow⟩
            clear hBf hBelow
            generalize ls.reverse.length = N0 at *
            generalize lo.reverse.length = N1 at *
            generalize hi.reverse.length = N2 at *
            go_wp2
            (try simp only [Exit.inBlock, Exit.then])
            refine bodyPost_ret (v := .tuple #[.agg #[.slice x0 N0 k0, .slice x1 N1 k1, .slice x2 N2 k2], .int .i64 0]) (by simp [results, Try.results52, go_sem, r0, r1, r2, rf]) rfl HFin.out
end Go.Proofs.Ytklhaanapembdaa
