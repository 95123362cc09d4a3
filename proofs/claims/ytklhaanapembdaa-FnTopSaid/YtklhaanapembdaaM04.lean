/- Contracts of moments, program and reference: the moments at all joints, in a new slice; no old memory turns; condition: valid blocks that can be read. -/
import Derived.Test.YtklhaanapembdaaBlocks

namespace Go.Proofs.Ytklhaanapembdaa
open Go.RowKit

theorem ownI_empty' {W : World} {n : Nat} (base : Nat) (h : base ≤ W.heap.size) (hn : n = W.heap.size) : OwnI (W.alloc (.cells #[] 2)) base (.slice (some ⟨n, 0, none⟩) 0 0) [] := hn ▸ ownI_empty W base h
set_option maxHeartbeats 4000000 in
theorem moments_any (a0 a1 a2 : Option Addr) (n0 c0 n1 c1 n2 c2 : Nat) (ls lo hi : List Int) (w : World) (h : IsB a0 a1 a2 n0 c0 n1 c1 n2 c2 ls lo hi w) (hv : blkB ls lo hi = true) :
    Calls Try.prog 68 #[.agg #[.slice a0 n0 c0, .slice a1 n1 c1, .slice a2 n2 c2]] w (NewL w (moms ls n1)) := by
  obtain ⟨v1, v2, v3, v4, _⟩ := blkB_t hv
  have HV := Lib.hid v3
  have l0 := h.1.1
  have l1 := h.2.1.1
  have H0 := Lib.hid h.1
  have L0 := Lib.hid l0
  have e1 : n1 = n0 + 1 := by omega
  rw [l0] at v1 v2
  have E1 := Lib.hid e1
  have b1 : n1 ≤ 11 := by omega
  have HMB := Lib.hid (fun k (hk : k ≤ n0) i (hi : i ≤ k) => momS_bd (ls := ls) (k := k) (by omega) v3 (by rw [l0]; exact hk) i hi)
  have HMN := Lib.hid (moms_next ls)
  have HML := Lib.hid (moms_len ls)
  clear h hv v3 v4 l0 l1 e1
  obtain ⟨i0, hi, hi0, hi1, hi2⟩ := info_parts info_i64
  go_enter Try.func68, Try.ntmps68
  go_wp2_with fail
  go_loopw [3, 4, 5, 6, 11, 15] (fun os _ _ _ i _ wr => ∃ k : Nat, k ≤ n1 ∧ i = .int .i64 (k : Int) ∧ OwnI wr (w.heap.size + 1) os (moms ls k) ∧ Below w.heap.size w wr ∧ wr.heap[w.heap.size]? = some (.cells #[.slice a0 n0 c0, .slice a1 n1 c1, .slice a2 n2 c2] 26 (0, 0))) (fun _ _ _ _ i _ _ => (n1 - intOf i).toNat)
  case atStart =>
    refine ⟨0, by omega, rfl, ?_, (by repeat (first | exact Below.refl _ _ | assumption | refine Below.drew ?_ | refine below_drewN ?_ _ | refine Below.alloc ?_ (by first | omega | (simp; done) | (simp; omega)) _ | refine Below.setCell ?_ (by first | omega | (simp; done) | (simp; omega)) _)), blk_alloc (blk_new _ _)⟩
    exact ownI_empty' _ (by simp) (by simp)
  case round =>
    obtain ⟨k, hk, rfl, hO, hB, hF⟩ := hrel
    have HF := Lib.hid hF
    have f0 := cellOf hF 0
    have f1 := cellOf hF 1
    have flt := blk_lt hF
    simp at f0 f1
    clear hF
    have hz := hB.size
    by_cases hlt : k < n1
    · have hlt' : (k : Int) < (n1 : Int) := by omega
      have hk0 : k ≤ n0 := by have := E1.out; omega
      have HMk := Lib.hid (HMB.out k hk0)
      have HO := Lib.hid hO
      have HB := Lib.hid hB
      clear hO hB
      go_wp2_with fail
      obtain ⟨wo, rfl⟩ : ∃ wo : World, wo = wr := ⟨_, rfl⟩
      go_loop [5, 6, 15] (fun s _ i => ∃ m : Nat, m ≤ k ∧ i = .int .i64 (m : Int) ∧ s = .int .i64 (momS ls k m)) (fun _ _ i => (k - intOf i).toNat)
      case atStart => exact ⟨0, by omega, rfl, rfl⟩
      case round =>
        obtain ⟨m, hm, rfl, rfl⟩ := hrel
        by_cases hlm : m < k
        · have hlm' : (m : Int) < (k : Int) := by omega
          obtain ⟨b, o, rfl, hb, hc⟩ := (H0.out.below HB.out).cell (i := m) (by omega)
          obtain ⟨x1, x2⟩ := HV.out m (by rw [L0.out]; omega)
          obtain ⟨y1, y2⟩ := HMk.out m (by omega)
          have HN : Hid (momS ls k (m + 1) = momS ls k m + ls.getD m 0 * (2 * (k : Int) - 2 * (m : Int) - 1)) := Lib.hid rfl
          have hm0 : (m : Int) < (n0 : Int) := by omega
          generalize ls.getD m 0 = x at *
          generalize momS ls k m = s at *
          obtain ⟨p1, p2⟩ := mul_bd (a := x) (b := 2 * (k : Int) - 2 * (m : Int) - 1) (A := 1000) (B := 21) (by omega) x2 (by omega) (by omega)
          go_wp2
          go_round
          case rel => exact ⟨m + 1, by omega, by go_num, by rw [HN.out]⟩
          case measure => simp [intOf]; omega
        · obtain rfl : m = k := by omega
          have HE : Hid (momS ls m m = momAt ls m) := Lib.hid rfl
          have HN := Lib.hid (HMN.out m)
          have HL := Lib.hid (HML.out m)
          rw [HE.out]
          generalize momAt ls m = x at *
          generalize moms ls m = P at *
          have hOl := HO.out
          unfold OwnI at hOl
          rw [HL.out] at hOl
          clear hlm
          go_wp2_with (at_builtin; refine wpList_append_new _ rfl _ _ 24 rfl _ 2 i0 (.int .i64 0) 1 8 Try.underlying24 hi hi0 hi1 hi2 rfl (by decide) _ _ _ rfl (hOl.alloc _) ⟨wo.heap.size, 0, none⟩ 1 1 [.int .i64 x] rfl rfl (cell_one_new _ _ _) (by simp [Value.oneCell']) (by unfold maxLen; omega) (by omega) (by first | omega | (simp; done) | (simp; omega)) (by decide) ?_; intro v' w1' hown1 hgrow1 hnew1)
          have hO1 := Lib.hid (OwnI.snoc hown1 (by rw [HL.out]))
          have hF1 := Lib.hid (blk_own (blk_alloc HF.out) (HO.out.alloc _) hgrow1 (by omega))
          have hB1 := Lib.hid (below_mark (HB.out.alloc hz _) (by omega) (HO.out.alloc _) hgrow1)
          clear hown1 hgrow1 hnew1 hOl
          go_wp2
          go_roundw
          case rel => exact ⟨m + 1, by omega, by go_num, by rw [HN.out]; exact hO1.out, hB1.out, hF1.out⟩
          case measure => simp [intOf]; omega
    · obtain rfl : k = n1 := by omega
      have HO := Lib.hid (newL_mk (hO.base (by omega)) hB)
      clear hO
      go_wp2
      go_ret
      exact HO.out
set_option maxHeartbeats 4000000 in
theorem l13Moments_any (g : Nat) (a0 a1 a2 : Option Addr) (n0 c0 n1 c1 n2 c2 : Nat) (ls lo hi : List Int) (w : World) (hg : AtB g a0 a1 a2 n0 c0 n1 c1 n2 c2 w) (h : IsB a0 a1 a2 n0 c0 n1 c1 n2 c2 ls lo hi w) (hv : blkB ls lo hi = true) :
    Calls Try.prog 94 #[.pointer (some ⟨g, 0, none⟩)] w (NewL w (moms ls n1)) := by
  obtain ⟨v1, v2, v3, v4, _⟩ := blkB_t hv
  have HV := Lib.hid v3
  have HG := Lib.hid hg
  have l0 := h.1.1
  have l1 := h.2.1.1
  have H0 := Lib.hid h.1
  have L0 := Lib.hid l0
  have e1 : n1 = n0 + 1 := by omega
  rw [l0] at v1 v2
  have E1 := Lib.hid e1
  have b1 : n1 ≤ 11 := by omega
  have HMB := Lib.hid (fun k (hk : k ≤ n0) i (hi : i ≤ k) => momS_bd (ls := ls) (k := k) (by omega) v3 (by rw [l0]; exact hk) i hi)
  have HMN := Lib.hid (moms_next ls)
  have HML := Lib.hid (moms_len ls)
  clear h hv v3 v4 l0 l1 e1 hg
  obtain ⟨i0, hi, hi0, hi1, hi2⟩ := info_parts info_i64
  go_enter Try.func94, Try.ntmps94
  go_wp2_with fail
  go_loopw [3, 4, 5, 6] (fun os i _ _ wr => ∃ k : Nat, k ≤ n1 ∧ i = .int .i64 (k : Int) ∧ OwnI wr w.heap.size os (moms ls k) ∧ Below w.heap.size w wr) (fun _ i _ _ _ => (n1 - intOf i).toNat)
  case atStart => exact ⟨0, by omega, rfl, ownI_empty _ _ (Nat.le_refl _), (by repeat (first | exact Below.refl _ _ | assumption | refine Below.drew ?_ | refine below_drewN ?_ _ | refine Below.alloc ?_ (by first | omega | (simp; done) | (simp; omega)) _ | refine Below.setCell ?_ (by first | omega | (simp; done) | (simp; omega)) _))⟩
  case round =>
    obtain ⟨k, hk, rfl, hO, hB⟩ := hrel
    obtain ⟨f0, f1, f2, flt⟩ := (show AtB g a0 a1 a2 n0 c0 n1 c1 n2 c2 wr from blk_below HG.out hB (blk_lt HG.out)).cells
    have hz := hB.size
    by_cases hlt : k < n1
    · have hk0 : k ≤ n0 := by have := E1.out; omega
      have hlt' : (k : Int) ≤ (n0 : Int) := by omega
      have HMk := Lib.hid (HMB.out k hk0)
      have HO := Lib.hid hO
      have HB := Lib.hid hB
      clear hO hB
      go_wp2_with fail
      obtain ⟨wo, rfl⟩ : ∃ wo : World, wo = wr := ⟨_, rfl⟩
      go_loop [5, 6] (fun s i => ∃ m : Nat, m ≤ k ∧ i = .int .i64 (m : Int) ∧ s = .int .i64 (momS ls k m)) (fun _ i => (k - intOf i).toNat)
      case atStart => exact ⟨0, by omega, rfl, rfl⟩
      case round =>
        obtain ⟨m, hm, rfl, rfl⟩ := hrel
        by_cases hlm : m < k
        · have hlm' : (m : Int) < (k : Int) := by omega
          obtain ⟨b, o, rfl, hb, hc⟩ := (H0.out.below HB.out).cell (i := m) (by omega)
          obtain ⟨x1, x2⟩ := HV.out m (by rw [L0.out]; omega)
          obtain ⟨y1, y2⟩ := HMk.out m (by omega)
          have HN : Hid (momS ls k (m + 1) = momS ls k m + ls.getD m 0 * (2 * (k : Int) - 2 * (m : Int) - 1)) := Lib.hid rfl
          have hm0 : (m : Int) < (n0 : Int) := by omega
          generalize ls.getD m 0 = x at *
          generalize momS ls k m = s at *
          obtain ⟨p1, p2⟩ := mul_bd (a := x) (b := 2 * (k : Int) - 2 * (m : Int) - 1) (A := 1000) (B := 21) (by omega) x2 (by omega) (by omega)
          go_wp2
          go_round
          case rel => exact ⟨m + 1, by omega, by go_num, by rw [HN.out]⟩
          case measure => simp [intOf]; omega
        · obtain rfl : m = k := by omega
          have HE : Hid (momS ls m m = momAt ls m) := Lib.hid rfl
          have HN := Lib.hid (HMN.out m)
          have HL := Lib.hid (HML.out m)
          rw [HE.out]
          generalize momAt ls m = x at *
          generalize moms ls m = P at *
          have hOl := HO.out
          unfold OwnI at hOl
          rw [HL.out] at hOl
          clear hlm
          go_wp2_with (at_builtin; refine wpList_append_new _ rfl _ _ 24 rfl _ 2 i0 (.int .i64 0) 1 8 Try.underlying24 hi hi0 hi1 hi2 rfl (by decide) _ _ _ rfl (hOl.alloc _) ⟨wo.heap.size, 0, none⟩ 1 1 [.int .i64 x] rfl rfl (cell_one_new _ _ _) (by simp [Value.oneCell']) (by unfold maxLen; omega) (by omega) (by first | omega | (simp; done) | (simp; omega)) (by decide) ?_; intro v' w1' hown1 hgrow1 hnew1)
          have hO1 := Lib.hid (OwnI.snoc hown1 (by rw [HL.out]))
          have hB1 := Lib.hid (below_append (HB.out.alloc hz _) (HO.out.alloc _) hgrow1)
          clear hown1 hgrow1 hnew1 hOl
          go_wp2
          go_roundw
          case rel => exact ⟨m + 1, by omega, by go_num, by rw [HN.out]; exact hO1.out, hB1.out⟩
          case measure => simp [intOf]; omega
    · obtain rfl : k = n1 := by omega
      have hlt' : ¬ (k : Int) ≤ (n0 : Int) := by have := E1.out; omega
      have HO := Lib.hid (newL_mk hO hB)
      clear hO
      go_wp2
      go_ret
      exact HO.out
/-! ### MomentsOf -/
def momC (ls lo hi : List Int) : Int := if blkB ls lo hi = true then 0 else 1
def momI (ls lo hi : List Int) : List Int := if blkB ls lo hi = true then moms ls (ls.length + 1) else []
theorem momI_len (ls lo hi : List Int) : (momI ls lo hi).length ≤ 1000000 := by
  unfold momI
  split
  · have := (blkB_t (by assumption)).2.1
    rw [moms_len]; omega
  · simp
set_option maxHeartbeats 1000000 in
theorem momentsOf_any (a0 a1 a2 : Option Addr) (n0 c0 n1 c1 n2 c2 : Nat) (ls lo hi : List Int) (w : World) (h : IsB a0 a1 a2 n0 c0 n1 c1 n2 c2 ls lo hi w) :
    Calls Try.prog 46 #[.agg #[.slice a0 n0 c0, .slice a1 n1 c1, .slice a2 n2 c2]] w (NewI w (momI ls lo hi) (momC ls lo hi)) := by
  have H := Lib.hid h
  cases g : blkB ls lo hi
  · have e1 : momI ls lo hi = [] := by simp [momI, g]
    have e2 : momC ls lo hi = 1 := by simp [momC, g]
    rw [e1, e2]
    have G := Lib.hid g
    clear h g e1 e2
    go_enter Try.func46, Try.ntmps46
    go_wp2_with fail
    refine (validBlocks_any _ _ _ _ _ _ _ _ _ _ _ _ _ (H.out.below (by repeat (first | exact Below.refl _ _ | assumption | refine Below.drew ?_ | refine below_drewN ?_ _ | refine Below.alloc ?_ (by first | omega | (simp; done) | (simp; omega)) _ | refine Below.setCell ?_ (by first | omega | (simp; done) | (simp; omega)) _)))).mono ?_
    rintro e1 w1 ⟨rfl, hb1⟩
    obtain ⟨hc1, hf1⟩ := bcell hb1
    have hz1 := hb1.size
    try simp at hz1
    have ha1 : Below w.heap.size w w1 := below_call (by repeat (first | exact Below.refl _ _ | assumption | refine Below.drew ?_ | refine below_drewN ?_ _ | refine Below.alloc ?_ (by first | omega | (simp; done) | (simp; omega)) _ | refine Below.setCell ?_ (by first | omega | (simp; done) | (simp; omega)) _)) hb1
    rw [G.out]
    go_wp2
    go_ret2
    exact newI_mk (ownI_nil _ _) (by repeat (first | exact Below.refl _ _ | assumption | refine Below.drew ?_ | refine below_drewN ?_ _ | refine Below.alloc ?_ (by first | omega | (simp; done) | (simp; omega)) _ | refine Below.setCell ?_ (by first | omega | (simp; done) | (simp; omega)) _))
  · have e1 : momI ls lo hi = moms ls n1 := by
      have l0 := h.1.1
      have l1 := h.2.1.1
      have := (blkB_t g).2.2.2.1
      simp only [momI, g, if_true]
      rw [show ls.length + 1 = n1 by omega]
    have e2 : momC ls lo hi = 0 := by simp [momC, g]
    rw [e1, e2]
    have G := Lib.hid g
    clear h g e1 e2
    go_enter Try.func46, Try.ntmps46
    go_wp2_with fail
    refine (validBlocks_any _ _ _ _ _ _ _ _ _ _ _ _ _ (H.out.below (by repeat (first | exact Below.refl _ _ | assumption | refine Below.drew ?_ | refine below_drewN ?_ _ | refine Below.alloc ?_ (by first | omega | (simp; done) | (simp; omega)) _ | refine Below.setCell ?_ (by first | omega | (simp; done) | (simp; omega)) _)))).mono ?_
    rintro e1 w1 ⟨rfl, hb1⟩
    obtain ⟨hc1, hf1⟩ := bcell hb1
    have hz1 := hb1.size
    try simp at hz1
    have ha1 : Below w.heap.size w w1 := below_call (by repeat (first | exact Below.refl _ _ | assumption | refine Below.drew ?_ | refine below_drewN ?_ _ | refine Below.alloc ?_ (by first | omega | (simp; done) | (simp; omega)) _ | refine Below.setCell ?_ (by first | omega | (simp; done) | (simp; omega)) _)) hb1
    have F : Hid (w1.heap[w.heap.size]? = some _) := blk_call (by first | (refine blk_new' _ _ ?_; simp; done) | (refine blk_alloc (blk_new' _ _ ?_); simp; done) | (refine blk_alloc (blk_alloc (blk_new' _ _ ?_)); simp; done)) hb1
    have F_0 := cellOf F.out 0
    simp at F_0
    have F_1 := cellOf F.out 1
    simp at F_1
    have F_2 := cellOf F.out 2
    simp at F_2
    have F_lt := blk_lt F.out
    have F_le := Nat.le_of_lt F_lt
    have F_l1 := Nat.le_succ_of_le F_le
    rw [G.out]
    go_wp2_with fail
    refine (moments_any _ _ _ _ _ _ _ _ _ _ _ _ _ (H.out.below (by repeat (first | exact Below.refl _ _ | assumption | refine Below.drew ?_ | refine below_drewN ?_ _ | refine Below.alloc ?_ (by first | omega | (simp; done) | (simp; omega)) _ | refine Below.setCell ?_ (by first | omega | (simp; done) | (simp; omega)) _))) G.out).mono ?_
    rintro e w2 ⟨a', c', rfl, hO, hb2⟩
    have hz2 := hb1.size
    try simp at hz2
    have HO := Lib.hid (newI_mk (w := w) (code := 0) (hO.base (by omega)) (below_call ha1 hb2))
    clear hO
    go_wp2
    go_ret2
    exact HO.out
set_option maxHeartbeats 1000000 in
theorem specMomentsOf_any (a0 a1 a2 : Option Addr) (n0 c0 n1 c1 n2 c2 : Nat) (ls lo hi : List Int) (w : World) (h : IsB a0 a1 a2 n0 c0 n1 c1 n2 c2 ls lo hi w) :
    Calls Try.prog 45 #[.agg #[.slice a0 n0 c0, .slice a1 n1 c1, .slice a2 n2 c2]] w (NewI w (momI ls lo hi) (momC ls lo hi)) := by
  have H := Lib.hid h
  cases g : blkB ls lo hi
  · have e1 : momI ls lo hi = [] := by simp [momI, g]
    have e2 : momC ls lo hi = 1 := by simp [momC, g]
    rw [e1, e2]
    have G := Lib.hid g
    clear h g e1 e2
    go_enter Try.func45, Try.ntmps45
    go_wp2_with fail
    refine (l13Ok_any _ _ _ _ _ _ _ _ _ _ _ _ _ _ (blk_new w _) (H.out.below (by repeat (first | exact Below.refl _ _ | assumption | refine Below.drew ?_ | refine below_drewN ?_ _ | refine Below.alloc ?_ (by first | omega | (simp; done) | (simp; omega)) _ | refine Below.setCell ?_ (by first | omega | (simp; done) | (simp; omega)) _)))).mono ?_
    rintro e1 w1 ⟨rfl, hb1⟩
    obtain ⟨hc1, hf1⟩ := bcell hb1
    have hz1 := hb1.size
    try simp at hz1
    have ha1 : Below w.heap.size w w1 := below_call (by repeat (first | exact Below.refl _ _ | assumption | refine Below.drew ?_ | refine below_drewN ?_ _ | refine Below.alloc ?_ (by first | omega | (simp; done) | (simp; omega)) _ | refine Below.setCell ?_ (by first | omega | (simp; done) | (simp; omega)) _)) hb1
    rw [G.out]
    go_wp2
    go_ret2
    exact newI_mk (ownI_nil _ _) (by repeat (first | exact Below.refl _ _ | assumption | refine Below.drew ?_ | refine below_drewN ?_ _ | refine Below.alloc ?_ (by first | omega | (simp; done) | (simp; omega)) _ | refine Below.setCell ?_ (by first | omega | (simp; done) | (simp; omega)) _))
  · have e1 : momI ls lo hi = moms ls n1 := by
      have l0 := h.1.1
      have l1 := h.2.1.1
      have := (blkB_t g).2.2.2.1
      simp only [momI, g, if_true]
      rw [show ls.length + 1 = n1 by omega]
    have e2 : momC ls lo hi = 0 := by simp [momC, g]
    rw [e1, e2]
    have G := Lib.hid g
    clear h g e1 e2
    go_enter Try.func45, Try.ntmps45
    go_wp2_with fail
    refine (l13Ok_any _ _ _ _ _ _ _ _ _ _ _ _ _ _ (blk_new w _) (H.out.below (by repeat (first | exact Below.refl _ _ | assumption | refine Below.drew ?_ | refine below_drewN ?_ _ | refine Below.alloc ?_ (by first | omega | (simp; done) | (simp; omega)) _ | refine Below.setCell ?_ (by first | omega | (simp; done) | (simp; omega)) _)))).mono ?_
    rintro e1 w1 ⟨rfl, hb1⟩
    obtain ⟨hc1, hf1⟩ := bcell hb1
    have hz1 := hb1.size
    try simp at hz1
    have ha1 : Below w.heap.size w w1 := below_call (by repeat (first | exact Below.refl _ _ | assumption | refine Below.drew ?_ | refine below_drewN ?_ _ | refine Below.alloc ?_ (by first | omega | (simp; done) | (simp; omega)) _ | refine Below.setCell ?_ (by first | omega | (simp; done) | (simp; omega)) _)) hb1
    have F : Hid (w1.heap[w.heap.size]? = some _) := blk_call (by first | (refine blk_new' _ _ ?_; simp; done) | (refine blk_alloc (blk_new' _ _ ?_); simp; done) | (refine blk_alloc (blk_alloc (blk_new' _ _ ?_)); simp; done)) hb1
    have F_0 := cellOf F.out 0
    simp at F_0
    have F_1 := cellOf F.out 1
    simp at F_1
    have F_2 := cellOf F.out 2
    simp at F_2
    have F_lt := blk_lt F.out
    have F_le := Nat.le_of_lt F_lt
    have F_l1 := Nat.le_succ_of_le F_le
    rw [G.out]
    go_wp2_with fail
    refine (l13Moments_any _ _ _ _ _ _ _ _ _ _ _ _ _ _ F.out (H.out.below (by repeat (first | exact Below.refl _ _ | assumption | refine Below.drew ?_ | refine below_drewN ?_ _ | refine Below.alloc ?_ (by first | omega | (simp; done) | (simp; omega)) _ | refine Below.setCell ?_ (by first | omega | (simp; done) | (simp; omega)) _))) G.out).mono ?_
    rintro e w2 ⟨a', c', rfl, hO, hb2⟩
    have hz2 := hb1.size
    try simp at hz2
    have HO := Lib.hid (newI_mk (w := w) (code := 0) (hO.base (by omega)) (below_call ha1 hb2))
    clear hO
    go_wp2
    go_ret2
    exact HO.out
end Go.Proofs.Ytklhaanapembdaa
/- Contracts of IsLine, program and reference: whether heights are those of a line of thrust, and the code; no old memory turns; condition: the slices can be read. -/
namespace Go.Proofs.Ytklhaanapembdaa
open Go.RowKit

/-- A second difference. -/
def bendAt (z : List Int) (k : Nat) : Int := z.getD (k + 1) 0 - 2 * z.getD k 0 + z.getD (k - 1) 0
def sumS (ls : List Int) : Nat → Int
  | 0 => 0
  | i + 1 => sumS ls i + ls.getD i 0
theorem momS_up (ls : List Int) (k i : Nat) : momS ls (k + 1) i - momS ls k i = 2 * sumS ls i := by
  induction i with
  | zero => simp [momS, sumS]
  | succ i ih =>
    simp only [momS, sumS]
    have e1 : ls.getD i 0 * (2 * ((k + 1 : Nat) : Int) - 2 * (i : Int) - 1) = ls.getD i 0 * (2 * (k : Int) - 2 * (i : Int) - 1) + 2 * ls.getD i 0 := by
      rw [show (2 * ((k + 1 : Nat) : Int) - 2 * (i : Int) - 1) = (2 * (k : Int) - 2 * (i : Int) - 1) + 2 by omega, Int.mul_add]
      omega
    omega
theorem momAt_up (ls : List Int) (k : Nat) : momAt ls (k + 1) - momAt ls k = 2 * sumS ls k + ls.getD k 0 := by
  unfold momAt
  have h := momS_up ls k k
  have e : momS ls (k + 1) (k + 1) = momS ls (k + 1) k + ls.getD k 0 * (2 * ((k + 1 : Nat) : Int) - 2 * (k : Int) - 1) := rfl
  rw [show (2 * ((k + 1 : Nat) : Int) - 2 * (k : Int) - 1) = 1 by omega, Int.mul_one] at e
  omega
/-- The second differences of the moments are the loads beside a joint. -/
theorem momAt_bend (ls : List Int) (k : Nat) : momAt ls (k + 2) - 2 * momAt ls (k + 1) + momAt ls k = ls.getD k 0 + ls.getD (k + 1) 0 := by
  have h1 := momAt_up ls k
  have h2 : momAt ls (k + 2) - momAt ls (k + 1) = 2 * sumS ls (k + 1) + ls.getD (k + 1) 0 := momAt_up ls (k + 1)
  simp only [sumS] at h2
  omega
theorem moms_bend (ls : List Int) (n k : Nat) (h1 : 1 ≤ k) (h2 : k + 1 < n) : bendAt (moms ls n) k = ls.getD (k - 1) 0 + ls.getD k 0 := by
  obtain ⟨j, rfl⟩ : ∃ j, k = j + 1 := ⟨k - 1, by omega⟩
  unfold bendAt
  rw [moms_get _ _ _ (by omega), moms_get _ _ _ (by omega), moms_get _ _ _ (by omega)]
  have := momAt_bend ls j
  simpa using this
/-- The heights lie within the arch. -/
def fitB (lo hi z : List Int) (d : Int) : Bool := (List.range z.length).all fun k => decide (lo.getD k 0 * d ≤ z.getD k 0 ∧ z.getD k 0 ≤ hi.getD k 0 * d)
theorem fitB_mk {lo hi z : List Int} {d : Int} (h : ∀ k, k < z.length → lo.getD k 0 * d ≤ z.getD k 0 ∧ z.getD k 0 ≤ hi.getD k 0 * d) : fitB lo hi z d = true :=
  List.all_eq_true.2 fun k hk => decide_eq_true (h k (by simpa using hk))
theorem fitB_t {lo hi z : List Int} {d : Int} (h : fitB lo hi z d = true) (k : Nat) (hk : k < z.length) : lo.getD k 0 * d ≤ z.getD k 0 ∧ z.getD k 0 ≤ hi.getD k 0 * d :=
  of_decide_eq_true (List.all_eq_true.1 h k (by simpa using hk))
theorem fitB_no {lo hi z : List Int} {d : Int} {k : Nat} (hk : k < z.length) (h : ¬ (lo.getD k 0 * d ≤ z.getD k 0 ∧ z.getD k 0 ≤ hi.getD k 0 * d)) : fitB lo hi z d = false := by
  cases e : fitB lo hi z d
  · rfl
  · exact absurd (fitB_t e k hk) h
/-- The bends are those of the loads. -/
def bendB (ls z : List Int) : Bool := decide (bendAt z 1 < 0) && (List.range (ls.length - 1)).all fun i => decide (bendAt z (i + 1) * (ls.getD 0 0 + ls.getD 1 0) = bendAt z 1 * (ls.getD i 0 + ls.getD (i + 1) 0))
theorem bendB_mk {ls z : List Int} (h0 : bendAt z 1 < 0) (h : ∀ i, i < ls.length - 1 → bendAt z (i + 1) * (ls.getD 0 0 + ls.getD 1 0) = bendAt z 1 * (ls.getD i 0 + ls.getD (i + 1) 0)) : bendB ls z = true := by
  unfold bendB
  rw [decide_eq_true h0, Bool.true_and]
  exact List.all_eq_true.2 fun i hi => decide_eq_true (h i (by simpa using hi))
theorem bendB_t {ls z : List Int} (h : bendB ls z = true) : bendAt z 1 < 0 ∧ ∀ i, i < ls.length - 1 → bendAt z (i + 1) * (ls.getD 0 0 + ls.getD 1 0) = bendAt z 1 * (ls.getD i 0 + ls.getD (i + 1) 0) := by
  simp only [bendB, Bool.and_eq_true, decide_eq_true_eq] at h
  exact ⟨h.1, fun i hi => of_decide_eq_true (List.all_eq_true.1 h.2 i (by simpa using hi))⟩
theorem bendB_no0 {ls z : List Int} (h0 : ¬ bendAt z 1 < 0) : bendB ls z = false := by
  cases e : bendB ls z
  · rfl
  · exact absurd (bendB_t e).1 h0
theorem bendB_no {ls z : List Int} {i : Nat} (hi : i < ls.length - 1) (h : ¬ bendAt z (i + 1) * (ls.getD 0 0 + ls.getD 1 0) = bendAt z 1 * (ls.getD i 0 + ls.getD (i + 1) 0)) : bendB ls z = false := by
  cases e : bendB ls z
  · rfl
  · exact absurd ((bendB_t e).2 i hi) h
/-- A bend that is not negative forbids the line. -/
theorem bendB_up {ls z : List Int} {i : Nat} (hi : i < ls.length - 1) (hp : ∀ i, i < ls.length → 1 ≤ ls.getD i 0) (h : ¬ bendAt z (i + 1) < 0) : bendB ls z = false := by
  cases e : bendB ls z
  · rfl
  · exfalso
    obtain ⟨h1, h2⟩ := bendB_t e
    have h3 := h2 i hi
    have p0 := hp 0 (by omega)
    have p1 := hp 1 (by omega)
    have p2 := hp i (by omega)
    have p3 := hp (i + 1) (by omega)
    have a1 : 0 ≤ bendAt z (i + 1) * (ls.getD 0 0 + ls.getD 1 0) := Int.mul_nonneg (by omega) (by omega)
    have a2 : bendAt z 1 * (ls.getD i 0 + ls.getD (i + 1) 0) < 0 := Int.mul_neg_of_neg_of_pos h1 (by omega)
    omega
theorem bendB_end {ls z : List Int} (h : ∀ i, i < ls.length - 1 → bendAt z (i + 1) * (ls.getD 0 0 + ls.getD 1 0) = bendAt z 1 * (ls.getD i 0 + ls.getD (i + 1) 0)) : bendB ls z = decide (bendAt z 1 < 0) := by
  by_cases h0 : bendAt z 1 < 0
  · rw [bendB_mk h0 h, decide_eq_true h0]
  · rw [bendB_no0 h0, decide_eq_false h0]
def lineC (ls lo hi z : List Int) (d : Int) : Int := if blkB ls lo hi = true then (if (decide (z.length = lo.length) && insB z (-100000000000) 100000000000 && inB d 1 100000000) = true then 0 else 2) else 1
def lineV (ls lo hi z : List Int) (d : Int) : Bool := decide (lineC ls lo hi z d = 0) && (fitB lo hi z d && bendB ls z)
theorem line_bad {ls lo hi z : List Int} {d : Int} (h : blkB ls lo hi = false) : lineC ls lo hi z d = 1 ∧ lineV ls lo hi z d = false := by simp [lineC, lineV, h]
theorem line_range {ls lo hi z : List Int} {d : Int} (h : blkB ls lo hi = true) (h1 : (decide (z.length = lo.length) && insB z (-100000000000) 100000000000 && inB d 1 100000000) = false) : lineC ls lo hi z d = 2 ∧ lineV ls lo hi z d = false := by
  have e : lineC ls lo hi z d = 2 := by unfold lineC; rw [h, h1]; simp
  exact ⟨e, by unfold lineV; rw [e]; rfl⟩
theorem line_ok {ls lo hi z : List Int} {d : Int} (h : blkB ls lo hi = true) (h1 : (decide (z.length = lo.length) && insB z (-100000000000) 100000000000 && inB d 1 100000000) = true) : lineC ls lo hi z d = 0 ∧ lineV ls lo hi z d = (fitB lo hi z d && bendB ls z) := by
  have e : lineC ls lo hi z d = 0 := by unfold lineC; rw [h, h1]; simp
  exact ⟨e, by unfold lineV; rw [e]; rfl⟩
set_option maxHeartbeats 1000000 in
theorem bend_any (a : Option Addr) (n c : Nat) (z : List Int) (k : Nat) (w : World) (h : IsRow .i64 w a n c z) (h1 : 1 ≤ k) (h2 : k + 1 < n)
    (b0 : -100000000000 ≤ z.getD (k - 1) 0 ∧ z.getD (k - 1) 0 ≤ 100000000000) (b1 : -100000000000 ≤ z.getD k 0 ∧ z.getD k 0 ≤ 100000000000) (b2 : -100000000000 ≤ z.getD (k + 1) 0 ∧ z.getD (k + 1) 0 ≤ 100000000000) :
    Calls Try.prog 76 #[.slice a n c, .int .i64 (k : Int)] w fun e w' => e = .returned (.int .i64 (bendAt z k)) ∧ Below w.heap.size w w' := by
  obtain ⟨j, rfl⟩ : ∃ j, k = j + 1 := ⟨k - 1, by omega⟩
  have hm : n ≤ maxLen := Nat.le_trans h.2.1 h.2.2.1
  unfold maxLen at hm
  obtain ⟨b, o, rfl, hb, c1⟩ := h.cell (i := j + 1) (by omega)
  obtain ⟨_, _, e, _, c0⟩ := h.cell (i := j) (by omega)
  injection e with e; injection e with e1 e2; subst e1 e2
  obtain ⟨_, _, e, _, c2⟩ := h.cell (i := j + 1 + 1) (by omega)
  injection e with e; injection e with e1 e2; subst e1 e2
  have HR := Lib.hid (show bendAt z (j + 1) = z.getD (j + 1 + 1) 0 - 2 * z.getD (j + 1) 0 + z.getD j 0 from rfl)
  rw [HR.out]
  simp only [Nat.add_sub_cancel] at b0
  generalize z.getD (j + 1 + 1) 0 = x2 at *
  generalize z.getD (j + 1) 0 = x1 at *
  generalize z.getD j 0 = x0 at *
  clear h HR
  obtain ⟨b01, b02⟩ := b0
  obtain ⟨b11, b12⟩ := b1
  obtain ⟨b21, b22⟩ := b2
  have e1 : IntKind.i64.wrap ((j : Int) + 1 + 1) = (j : Int) + 1 + 1 := IntWalk.i64_in _ (by omega)
  have e2 : IntKind.i64.wrap ((j : Int) + 1 - 1) = (j : Int) + 1 - 1 := IntWalk.i64_in _ (by omega)
  have e3 := IntWalk.i64_in (2 * x1) (by omega)
  have e4 := IntWalk.i64_in (x2 - 2 * x1) (by omega)
  have e5 := IntWalk.i64_in (x2 - 2 * x1 + x0) (by omega)
  have t1 : (j : Int) + 1 < (n : Int) := by omega
  have t2 : (j : Int) + 1 + 1 < (n : Int) := by omega
  have t3 : (0 : Int) ≤ (j : Int) + 1 := by omega
  have t4 : (0 : Int) ≤ (j : Int) + 1 + 1 := by omega
  have t5 : (j : Int) + 1 - 1 = (j : Int) := by omega
  have t6 : (0 : Int) ≤ (j : Int) := by omega
  have t7 : (j : Int) < (n : Int) := by omega
  have t8 : ((j : Int) + 1).toNat = j + 1 := by omega
  have t9 : ((j : Int) + 1 + 1).toNat = j + 1 + 1 := by omega
  have c2' : w.cell? ⟨b, o + j + 1 + 1, none⟩ = some (.int .i64 x2) := c2
  have c1' : w.cell? ⟨b, o + j + 1, none⟩ = some (.int .i64 x1) := c1
  go_enter Try.func76, Try.ntmps76
  go_wp2
  go_quiet (fail)
  go_wp2
  go_ret
  exact ⟨ret_int (by first | rfl | omega), (by repeat (first | exact Below.refl _ _ | assumption | refine Below.drew ?_ | refine below_drewN ?_ _ | refine Below.alloc ?_ (by first | omega | (simp; done) | (simp; omega)) _ | refine Below.setCell ?_ (by first | omega | (simp; done) | (simp; omega)) _))⟩
end Go.Proofs.Ytklhaanapembdaa
