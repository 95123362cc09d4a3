/- Contracts of moments, program and reference: the moments at all joints, in a new slice; no old memory turns; condition: valid blocks that can be read. -/
import Derived.Test.YtklhaanapembdaaBlocks
namespace Go.Proofs.Ytklhaanapembdaa
open Go.RowKit

theorem ownI_empty' {W : World} {n : Nat} (base : Nat) (h : base ≤ W.heap.size) (hn : n = W.heap.size) : OwnI (W.alloc (.cells #[] 2)) base (.slice (some ⟨n, 0, none⟩) 0 0) [] := hn ▸ ownI_empty W base h
set_option maxHeartbeats 4000000 in
theorem moments_any (a0 a1 a2 : Option Addr) (n0 c0 n1 c1 n2 c2 : Nat) (ls lo hi : List Int) (w : World) (h : IsB a0 a1 a2 n0 c0 n1 c1 n2 c2 ls lo hi w) (hv : blkB ls lo hi = true) :
    Calls Try.prog 68 #[.agg #[.slice a0 n0 c0, .slice a1 n1 c1, .slice a2 n2 c2]] w (NewL w (moms ls n1)) := by
  obtain ⟨v1, v2, v3, v4, _⟩ := blkB_t hv
  have HV := Lib.hid v3
  have l0 := h.1.1
  have l1 := h.2.1.1
  have H0 := Lib.hid h.1
  have L0 := Lib.hid l0
  have e1 : n1 = n0 + 1 := by omega
  rw [l0] at v1 v2
  have E1 := Lib.hid e1
  have b1 : n1 ≤ 11 := by omega
  have HMB := Lib.hid (fun k (hk : k ≤ n0) i (hi : i ≤ k) => momS_bd (ls := ls) (k := k) (by omega) v3 (by rw [l0]; exact hk) i hi)
  have HMN := Lib.hid (moms_next ls)
  have HML := Lib.hid (moms_len ls)
  clear h hv v3 v4 l0 l1 e1
  obtain ⟨i0, hi, hi0, hi1, hi2⟩ := info_parts info_i64
  go_enter Try.func68, Try.ntmps68
  go_wp2_with fail
  go_loopw [3, 4, 5, 6, 11, 15] (fun os _ _ _ i _ wr => ∃ k : Nat, k ≤ n1 ∧ i = .int .i64 (k : Int) ∧ OwnI wr (w.heap.size + 1) os (moms ls k) ∧ Below w.heap.size w wr ∧ wr.heap[w.heap.size]? = some (.cells #[.slice a0 n0 c0, .slice a1 n1 c1, .slice a2 n2 c2] 26 (0, 0))) (fun _ _ _ _ i _ _ => (n1 - intOf i).toNat)
  case atStart =>
    refine ⟨0, by omega, rfl, ?_, (by repeat (first | exact Below.refl _ _ | assumption | refine Below.drew ?_ | refine below_drewN ?_ _ | refine Below.alloc ?_ (by first | omega | (simp; done) | (simp; omega)) _ | refine Below.setCell ?_ (by first | omega | (simp; done) | (simp; omega)) _)), blk_alloc (blk_new _ _)⟩
    exact ownI_empty' _ (by simp) (by simp)
  case round =>
    obtain ⟨k, hk, rfl, hO, hB, hF⟩ := hrel
    have HF := Lib.hid hF
    have f0 := cellOf hF 0
    have f1 := cellOf hF 1
    have flt := blk_lt hF
    simp at f0 f1
    clear hF
    have hz := hB.size
    by_cases hlt : k < n1
    · have hlt' : (k : Int) < (n1 : Int) := by omega
      have hk0 : k ≤ n0 := by have := E1.out; omega
      have HMk := Lib.hid (HMB.out k hk0)
      have HO := Lib.hid hO
      have HB := Lib.hid hB
      clear hO hB
      go_wp2_with fail
      obtain ⟨wo, rfl⟩ : ∃ wo : World, wo = wr := ⟨_, rfl⟩
      go_loop [5, 6, 15] (fun s _ i => ∃ m : Nat, m ≤ k ∧ i = .int .i64 (m : Int) ∧ s = .int .i64 (momS ls k m)) (fun _ _ i => (k - intOf i).toNat)
      case atStart => exact ⟨0, by omega, rfl, rfl⟩
      case round =>
        obtain ⟨m, hm, rfl, rfl⟩ := hrel
        by_cases hlm : m < k
        · have hlm' : (m : Int) < (k : Int) := by omega
          obtain ⟨b, o, rfl, hb, hc⟩ := (H0.out.below HB.out).cell (i := m) (by omega)
          obtain ⟨x1, x2⟩ := HV.out m (by rw [L0.out]; omega)
          obtain ⟨y1, y2⟩ := HMk.out m (by omega)
          have HN : Hid (momS ls k (m + 1) = momS ls k m + ls.getD m 0 * (2 * (k : Int) - 2 * (m : Int) - 1)) := Lib.hid rfl
          have hm0 : (m : Int) < (n0 : Int) := by omega
          generalize ls.getD m 0 = x at *
          generalize momS ls k m = s at *
          obtain ⟨p1, p2⟩ := mul_bd (a := x) (b := 2 * (k : Int) - 2 * (m : Int) - 1) (A := 1000) (B := 21) (by omega) x2 (by omega) (by omega)
          go_wp2
          go_round
          case rel => exact ⟨m + 1, by omega, by go_num, by rw [HN.out]⟩
          case measure => simp [intOf]; omega
        · obtain rfl : m = k := by omega
          have HE : Hid (momS ls m m = momAt ls m) := Lib.hid rfl
          have HN := Lib.hid (HMN.out m)
          have HL := Lib.hid (HML.out m)
          rw [HE.out]
          generalize momAt ls m = x at *
          generalize moms ls m = P at *
          have hOl := HO.out
          unfold OwnI at hOl
          rw [HL.out] at hOl
          clear hlm
          go_wp2_with (at_builtin; refine wpList_append_new _ rfl _ _ 24 rfl _ 2 i0 (.int .i64 0) 1 8 Try.underlying24 hi hi0 hi1 hi2 rfl (by decide) _ _ _ rfl (hOl.alloc _) ⟨wo.heap.size, 0, none⟩ 1 1 [.int .i64 x] rfl rfl (cell_one_new _ _ _) (by simp [Value.oneCell']) (by unfold maxLen; omega) (by omega) (by first | omega | (simp; done) | (simp; omega)) (by decide) ?_; intro v' w1' hown1 hgrow1 hnew1)
          have hO1 := Lib.hid (OwnI.snoc hown1 (by rw [HL.out]))
          have hF1 := Lib.hid (blk_own (blk_alloc HF.out) (HO.out.alloc _) hgrow1 (by omega))
          have hB1 := Lib.hid (below_mark (HB.out.alloc hz _) (by omega) (HO.out.alloc _) hgrow1)
          clear hown1 hgrow1 hnew1 hOl
          go_wp2
          go_roundw
          case rel => exact ⟨m + 1, by omega, by go_num, by rw [HN.out]; exact hO1.out, hB1.out, hF1.out⟩
          case measure => simp [intOf]; omega
    · obtain rfl : k = n1 := by omega
      have HO := Lib.hid (newL_mk (hO.base (by omega)) hB)
      clear hO
      go_wp2
      go_ret
      exact HO.out
set_option maxHeartbeats 4000000 in
theorem l13Moments_any (g : Nat) (a0 a1 a2 : Option Addr) (n0 c0 n1 c1 n2 c2 : Nat) (ls lo hi : List Int) (w : World) (hg : AtB g a0 a1 a2 n0 c0 n1 c1 n2 c2 w) (h : IsB a0 a1 a2 n0 c0 n1 c1 n2 c2 ls lo hi w) (hv : blkB ls lo hi = true) :
    Calls Try.prog 94 #[.pointer (some ⟨g, 0, none⟩)] w (NewL w (moms ls n1)) := by
  obtain ⟨v1, v2, v3, v4, _⟩ := blkB_t hv
  have HV := Lib.hid v3
  have HG := Lib.hid hg
  have l0 := h.1.1
  have l1 := h.2.1.1
  have H0 := Lib.hid h.1
  have L0 := Lib.hid l0
  have e1 : n1 = n0 + 1 := by omega
  rw [l0] at v1 v2
  have E1 := Lib.hid e1
  have b1 : n1 ≤ 11 := by omega
  have HMB := Lib.hid (fun k (hk : k ≤ n0) i (hi : i ≤ k) => momS_bd (ls := ls) (k := k) (by omega) v3 (by rw [l0]; exact hk) i hi)
  have HMN := Lib.hid (moms_next ls)
  have HML := Lib.hid (moms_len ls)
  clear h hv v3 v4 l0 l1 e1 hg
  obtain ⟨i0, hi, hi0, hi1, hi2⟩ := info_parts info_i64
  go_enter Try.func94, Try.ntmps94
  go_wp2_with fail
  go_loopw [3, 4, 5, 6] (fun os i _ _ wr => ∃ k : Nat, k ≤ n1 ∧ i = .int .i64 (k : Int) ∧ OwnI wr w.heap.size os (moms ls k) ∧ Below w.heap.size w wr) (fun _ i _ _ _ => (n1 - intOf i).toNat)
  case atStart => exact ⟨0, by omega, rfl, ownI_empty _ _ (Nat.le_refl _), (by repeat (first | exact Below.refl _ _ | assumption | refine Below.drew ?_ | refine below_drewN ?_ _ | refine Below.alloc ?_ (by first | omega | (simp; done) | (simp; omega)) _ | refine Below.setCell ?_ (by first | omega | (simp; done) | (simp; omega)) _))⟩
  case round =>
    obtain ⟨k, hk, rfl, hO, hB⟩ := hrel
    obtain ⟨f0, f1, f2, flt⟩ := (show AtB g a0 a1 a2 n0 c0 n1 c1 n2 c2 wr from blk_below HG.out hB (blk_lt HG.out)).cells
    have hz := hB.size
    by_cases hlt : k < n1
    · have hk0 : k ≤ n0 := by have := E1.out; omega
      have hlt' : (k : Int) ≤ (n0 : Int) := by omega
      have HMk := Lib.hid (HMB.out k hk0)
      have HO := Lib.hid hO
      have HB := Lib.hid hB
      clear hO hB
      go_wp2_with fail
      obtain ⟨wo, rfl⟩ : ∃ wo : World, wo = wr := ⟨_, rfl⟩
      go_loop [5, 6] (fun s i => ∃ m : Nat, m ≤ k ∧ i = .int .i64 (m : Int) ∧ s = .int .i64 (momS ls k m)) (fun _ i => (k - intOf i).toNat)
      case atStart => exact ⟨0, by omega, rfl, rfl⟩
      case round =>
        obtain ⟨m, hm, rfl, rfl⟩ := hrel
        by_cases hlm : m < k
        · have hlm' : (m : Int) < (k : Int) := by omega
          obtain ⟨b, o, rfl, hb, hc⟩ := (H0.out.below HB.out).cell (i := m) (by omega)
          obtain ⟨x1, x2⟩ := HV.out m (by rw [L0.out]; omega)
          obtain ⟨y1, y2⟩ := HMk.out m (by omega)
          have HN : Hid (momS ls k (m + 1) = momS ls k m + ls.getD m 0 * (2 * (k : Int) - 2 * (m : Int) - 1)) := Lib.hid rfl
          have hm0 : (m : Int) < (n0 : Int) := by omega
          generalize ls.getD m 0 = x at *
          generalize momS ls k m = s at *
          obtain ⟨p1, p2⟩ := mul_bd (a := x) (b := 2 * (k : Int) - 2 * (m : Int) - 1) (A := 1000) (B := 21) (by omega) x2 (by omega) (by omega)
          go_wp2
          go_round
          case rel => exact ⟨m + 1, by omega, by go_num, by rw [HN.out]⟩
          case measure => simp [intOf]; omega
        · obtain rfl : m = k := by omega
          have HE : Hid (momS ls m m = momAt ls m) := Lib.hid rfl
          have HN := Lib.hid (HMN.out m)
          have HL := Lib.hid (HML.out m)
          rw [HE.out]
          generalize momAt ls m = x at *
          generalize moms ls m = P at *
          have hOl := HO.out
          unfold OwnI at hOl
          rw [HL.out] at hOl
          clear hlm
          go_wp2_with (at_builtin; refine wpList_append_new _ rfl _ _ 24 rfl _ 2 i0 (.int .i64 0) 1 8 Try.underlying24 hi hi0 hi1 hi2 rfl (by decide) _ _ _ rfl (hOl.alloc _) ⟨wo.heap.size, 0, none⟩ 1 1 [.int .i64 x] rfl rfl (cell_one_new _ _ _) (by simp [Value.oneCell']) (by unfold maxLen; omega) (by omega) (by first | omega | (simp; done) | (simp; omega)) (by decide) ?_; intro v' w1' hown1 hgrow1 hnew1)
          have hO1 := Lib.hid (OwnI.snoc hown1 (by rw [HL.out]))
          have hB1 := Lib.hid (below_append (HB.out.alloc hz _) (HO.out.alloc _) hgrow1)
          clear hown1 hgrow1 hnew1 hOl
          go_wp2
          go_roundw
          case rel => exact ⟨m + 1, by omega, by go_num, by rw [HN.out]; exact hO1.out, hB1.out⟩
          case measure => simp [intOf]; omega
    · obtain rfl : k = n1 := by omega
      have hlt' : ¬ (k : Int) ≤ (n0 : Int) := by have := E1.out; omega
      have HO := Lib.hid (newL_mk hO hB)
      clear hO
      go_wp2
      go_ret
      exact HO.out
/-! ### MomentsOf -/
def momC (ls lo hi : List Int) : Int := if blkB ls lo hi = true then 0 else 1
def momI (ls lo hi : List Int) : List Int := if blkB ls lo hi = true then moms ls (ls.length + 1) else []
theorem momI_len (ls lo hi : List Int) : (momI ls lo hi).length ≤ 1000000 := by
  unfold momI
  split
  · have := (blkB_t (by assumption)).2.1
    rw [moms_len]; omega
  · simp
set_option maxHeartbeats 1000000 in
theorem momentsOf_any (a0 a1 a2 : Option Addr) (n0 c0 n1 c1 n2 c2 : Nat) (ls lo hi : List Int) (w : World) (h : IsB a0 a1 a2 n0 c0 n1 c1 n2 c2 ls lo hi w) :
    Calls Try.prog 46 #[.agg #[.slice a0 n0 c0, .slice a1 n1 c1, .slice a2 n2 c2]] w (NewI w (momI ls lo hi) (momC ls lo hi)) := by
  have H := Lib.hid h
  cases g : blkB ls lo hi
  · have e1 : momI ls lo hi = [] := by simp [momI, g]
    have e2 : momC ls lo hi = 1 := by simp [momC, g]
    rw [e1, e2]
    have G := Lib.hid g
    clear h g e1 e2
    go_enter Try.func46, Try.ntmps46
    go_wp2_with fail
    refine (validBlocks_any _ _ _ _ _ _ _ _ _ _ _ _ _ (H.out.below (by repeat (first | exact Below.refl _ _ | assumption | refine Below.drew ?_ | refine below_drewN ?_ _ | refine Below.alloc ?_ (by first | omega | (simp; done) | (simp; omega)) _ | refine Below.setCell ?_ (by first | omega | (simp; done) | (simp; omega)) _)))).mono ?_
    rintro e1 w1 ⟨rfl, hb1⟩
    obtain ⟨hc1, hf1⟩ := bcell hb1
    have hz1 := hb1.size
    try simp at hz1
    have ha1 : Below w.heap.size w w1 := below_call (by repeat (first | exact Below.refl _ _ | assumption | refine Below.drew ?_ | refine below_drewN ?_ _ | refine Below.alloc ?_ (by first | omega | (simp; done) | (simp; omega)) _ | refine Below.setCell ?_ (by first | omega | (simp; done) | (simp; omega)) _)) hb1
    rw [G.out]
    go_wp2
    go_ret2
    exact newI_mk (ownI_nil _ _) (by repeat (first | exact Below.refl _ _ | assumption | refine Below.drew ?_ | refine below_drewN ?_ _ | refine Below.alloc ?_ (by first | omega | (simp; done) | (simp; omega)) _ | refine Below.setCell ?_ (by first | omega | (simp; done) | (simp; omega)) _))
  · have e1 : momI ls lo hi = moms ls n1 := by
      have l0 := h.1.1
      have l1 := h.2.1.1
      have := (blkB_t g).2.2.2.1
      simp only [momI, g, if_true]
      rw [show ls.length + 1 = n1 by omega]
    have e2 : momC ls lo hi = 0 := by simp [momC, g]
    rw [e1, e2]
    have G := Lib.hid g
    clear h g e1 e2
    go_enter Try.func46, Try.ntmps46
    go_wp2_with fail
    refine (validBlocks_any _ _ _ _ _ _ _ _ _ _ _ _ _ (H.out.below (by repeat (first | exact Below.refl _ _ | assumption | refine Below.drew ?_ | refine below_drewN ?_ _ | refine Below.alloc ?_ (by first | omega | (simp; done) | (simp; omega)) _ | refine Below.setCell ?_ (by first | omega | (simp; done) | (simp; omega)) _)))).mono ?_
    rintro e1 w1 ⟨rfl, hb1⟩
    obtain ⟨hc1, hf1⟩ := bcell hb1
    have hz1 := hb1.size
    try simp at hz1
    have ha1 : Below w.heap.size w w1 := below_call (by repeat (first | exact Below.refl _ _ | assumption | refine Below.drew ?_ | refine below_drewN ?_ _ | refine Below.alloc ?_ (by first | omega | (simp; done) | (simp; omega)) _ | refine Below.setCell ?_ (by first | omega | (simp; done) | (simp; omega)) _)) hb1
    have F : Hid (w1.heap[w.heap.size]? = some _) := blk_call (by first | (refine blk_new' _ _ ?_; simp; done) | (refine blk_alloc (blk_new' _ _ ?_); simp; done) | (refine blk_alloc (blk_alloc (blk_new' _ _ ?_)); simp; done)) hb1
    have F_0 := cellOf F.out 0
    simp at F_0
    have F_1 := cellOf F.out 1
    simp at F_1
    have F_2 := cellOf F.out 2
    simp at F_2
    have F_lt := blk_lt F.out
    have F_le := Nat.le_of_lt F_lt
    have F_l1 := Nat.le_succ_of_le F_le
    rw [G.out]
    go_wp2_with fail
    refine (moments_any _ _ _ _ _ _ _ _ _ _ _ _ _ (H.out.below (by repeat (first | exact Below.refl _ _ | assumption | refine Below.drew ?_ | refine below_drewN ?_ _ | refine Below.alloc ?_ (by first | omega | (simp; done) | (simp; omega)) _ | refine Below.setCell ?_ (by first | omega | (simp; done) | (simp; omega)) _))) G.out).mono ?_
    rintro e w2 ⟨a', c', rfl, hO, hb2⟩
    have hz2 := hb1.size
    try simp at hz2
    have HO := Lib.hid (newI_mk (w := w) (code := 0) (hO.base (by omega)) (below_call ha1 hb2))
    clear hO
    go_wp2
    go_ret2
    exact HO.out
set_option maxHeartbeats 1000000 in
theorem specMomentsOf_any (a0 a1 a2 : Option Addr) (n0 c0 n1 c1 n2 c2 : Nat) (ls lo hi : List Int) (w : World) (h : IsB a0 a1 a2 n0 c0 n1 c1 n2 c2 ls lo hi w) :
    Calls Try.prog 45 #[.agg #[.slice a0 n0 c0, .slice a1 n1 c1, .slice a2 n2 c2]] w (NewI w (momI ls lo hi) (momC ls lo hi)) := by
  have H := Lib.hid h
  cases g : blkB ls lo hi
  · have e1 : momI ls lo hi = [] := by simp [momI, g]
    have e2 : momC ls lo hi = 1 := by simp [momC, g]
    rw [e1, e2]
    have G := Lib.hid g
    clear h g e1 e2
    go_enter Try.func45, Try.ntmps45
    go_wp2_with fail
    refine (l13Ok_any _ _ _ _ _ _ _ _ _ _ _ _ _ _ (blk_new w _) (H.out.below (by repeat (first | exact Below.refl _ _ | assumption | refine Below.drew ?_ | refine below_drewN ?_ _ | refine Below.alloc ?_ (by first | omega | (simp; done) | (simp; omega)) _ | refine Below.setCell ?_ (by first | omega | (simp; done) | (simp; omega)) _)))).mono ?_
    rintro e1 w1 ⟨rfl, hb1⟩
    obtain ⟨hc1, hf1⟩ := bcell hb1
    have hz1 := hb1.size
    try simp at hz1
    have ha1 : Below w.heap.size w w1 := below_call (by repeat (first | exact Below.refl _ _ | assumption | refine Below.drew ?_ | refine below_drewN ?_ _ | refine Below.alloc ?_ (by first | omega | (simp; done) | (simp; omega)) _ | refine Below.setCell ?_ (by first | omega | (simp; done) | (simp; omega)) _)) hb1
    rw [G.out]
    go_wp2
    go_ret2
    exact newI_mk (ownI_nil _ _) (by repeat (first | exact Below.refl _ _ | assumption | refine Below.drew ?_ | refine below_drewN ?_ _ | refine Below.alloc ?_ (by first | omega | (simp; done) | (simp; omega)) _ | refine Below.setCell ?_ (by first | omega | (simp; done) | (simp; omega)) _))
  · have e1 : momI ls lo hi = moms ls n1 := by
      have l0 := h.1.1
      have l1 := h.2.1.1
      have := (blkB_t g).2.2.2.1
      simp only [momI, g, if_true]
      rw [show ls.length + 1 = n1 by omega]
    have e2 : momC ls lo hi = 0 := by simp [momC, g]
    rw [e1, e2]
    have G := Lib.hid g
    clear h g e1 e2
    go_enter Try.func45, Try.ntmps45
    go_wp2_with fail
    refine (l13Ok_any _ _ _ _ _ _ _ _ _ _ _ _ _ _ (blk_new w _) (H.out.below (by repeat (first | exact Below.refl _ _ | assumption | refine Below.drew ?_ | refine below_drewN ?_ _ | refine Below.alloc ?_ (by first | omega | (simp; done) | (simp; omega)) _ | refine Below.setCell ?_ (by first | omega | (simp; done) | (simp; omega)) _)))).mono ?_
    rintro e1 w1 ⟨rfl, hb1⟩
    obtain ⟨hc1, hf1⟩ := bcell hb1
    have hz1 := hb1.size
    try simp at hz1
    have ha1 : Below w.heap.size w w1 := below_call (by repeat (first | exact Below.refl _ _ | assumption | refine Below.drew ?_ | refine below_drewN ?_ _ | refine Below.alloc ?_ (by first | omega | (simp; done) | (simp; omega)) _ | refine Below.setCell ?_ (by first | omega | (simp; done) | (simp; omega)) _)) hb1
    have F : Hid (w1.heap[w.heap.size]? = some _) := blk_call (by first | (refine blk_new' _ _ ?_; simp; done) | (refine blk_alloc (blk_new' _ _ ?_); simp; done) | (refine blk_alloc (blk_alloc (blk_new' _ _ ?_)); simp; done)) hb1
    have F_0 := cellOf F.out 0
    simp at F_0
    have F_1 := cellOf F.out 1
    simp at F_1
    have F_2 := cellOf F.out 2
    simp at F_2
    have F_lt := blk_lt F.out
    have F_le := Nat.le_of_lt F_lt
    have F_l1 := Nat.le_succ_of_le F_le
    rw [G.out]
    go_wp2_with fail
    refine (l13Moments_any _ _ _ _ _ _ _ _ _ _ _ _ _ _ F.out (H.out.below (by repeat (first | exact Below.refl _ _ | assumption | refine Below.drew ?_ | refine below_drewN ?_ _ | refine Below.alloc ?_ (by first | omega | (simp; done) | (simp; omega)) _ | refine Below.setCell ?_ (by first | omega | (simp; done) | (simp; omega)) _))) G.out).mono ?_
    rintro e w2 ⟨a', c', rfl, hO, hb2⟩
    have hz2 := hb1.size
    try simp at hz2
    have HO := Lib.hid (newI_mk (w := w) (code := 0) (hO.base (by omega)) (below_call ha1 hb2))
    clear hO
    go_wp2
    go_ret2
    exact HO.out
end Go.Proofs.Ytklhaanapembdaa
