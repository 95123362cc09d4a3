/- Contracts of the reference's drawing of a bond (l04Some, text, one, l04Draw, A2Bond): a valid bond comes; condition: the bytes can be read. -/
import Derived.Test.YtklhaanapembdaaBndC

namespace Go.Proofs.Ytklhaanapembdaa
set_option linter.unusedVariables false
open Go.RowKit

set_option maxHeartbeats 2000000 in
theorem one_src (b : Nat) (a : Option Addr) (len cap : Nat) (zs : List Int) (N n : Int) (w : World) (h : Src w b a len cap zs N) (hN : N ≤ 1000000) (hn : 1 ≤ n) (hn' : n ≤ 1000000000) :
    Calls Try.prog 109 #[.pointer (some ⟨b, 0, none⟩), .int .i64 n] w fun e w' => ∃ x : Bool, e = .returned (.bool x) ∧ Src w' b a len cap zs (N + 2) ∧ w.grownBy w' (some b) := by
  have HP := Lib.hid (pick_any b a len cap zs N n w h hN hn hn')
  clear h
  go_enter Try.func109, Try.ntmps109
  go_wp2_with fail
  refine HP.out.mono ?_
  rintro e w3 ⟨r, rfl, hr0, hr1, hS3, hG3⟩
  go_wp2
  go_ret
  exact ⟨_, rfl, hS3, hG3⟩
/-- One of some texts. -/
def TextR (w : World) (b : Nat) (a : Option Addr) (len cap : Nat) (zs : List Int) (N : Int) (n : Nat) (ss : List ByteArray) (e : Ending) (w' : World) : Prop := ∃ q : Nat, q < n ∧ e = .returned (.string (ss.getD q ByteArray.empty)) ∧ Src w' b a len cap zs (N + 2) ∧ w.grownBy w' (some b)
set_option maxHeartbeats 2000000 in
theorem text_src (b : Nat) (a : Option Addr) (len cap : Nat) (zs : List Int) (N : Int) (x : Option Addr) (n c : Nat) (ss : List ByteArray) (w : World) (h : Src w b a len cap zs N) (hN : N ≤ 1000000) (hl : IsStrs w x n c ss) (hne : ∀ y, x = some y → y.block ≠ b) (hn : 1 ≤ n) (hn' : n ≤ 1000) :
    Calls Try.prog 112 #[.pointer (some ⟨b, 0, none⟩), .slice x n c] w (TextR w b a len cap zs N n ss) := by
  have HP := Lib.hid (pick_any b a len cap zs N (n : Int) w h hN (by omega) (by omega))
  have HL := Lib.hid hl
  have HNE := Lib.hid hne
  clear h hl hne
  go_enter Try.func112, Try.ntmps112
  go_wp2_with fail
  refine HP.out.mono ?_
  rintro e w3 ⟨r, rfl, hr0, hr1, hS3, hG3⟩
  obtain ⟨q, rfl⟩ := Int.eq_ofNat_of_zero_le hr0
  have hq : q < n := by omega
  obtain ⟨rb, o, rfl, hrb, hc⟩ := (HL.out.grown HNE.out hG3).cell hq
  have HX := Lib.hid (And.intro hS3 hG3)
  clear hS3 hG3
  obtain ⟨s, hs⟩ : ∃ s, ss.getD q ByteArray.empty = s := ⟨_, rfl⟩
  rw [hs] at hc
  have HSS := Lib.hid hs
  clear hs
  go_wp2
  go_ret
  exact ⟨q, hq, by rw [HSS.out]; rfl, HX.out.1, HX.out.2⟩
/-- Some letters. -/
def SomeR (w : World) (b : Nat) (a : Option Addr) (len cap : Nat) (zs : List Int) (N : Int) (n : Nat) (p : UInt8 → Bool) (e : Ending) (w' : World) : Prop :=
  ∃ t : ByteArray, e = .returned (.string t) ∧ t.size = n ∧ (∀ k, k < n → p (bU t k) = true) ∧ Src w' b a len cap zs (N + 2 * n) ∧ w.grownBy w' (some b)
theorem conv0 {g c : Nat} (w : World) : (convert 22 9 (.slice (some ⟨g, 0, none⟩) 0 c)).run Try.prog w = .ok (.string ⟨#[]⟩) w :=
  run_convert_bytes_back w 22 9 5 ⟨g, 0, none⟩ c [] Try.underlying22 Try.underlying5 Try.underlying9 (fun j hj => by simp at hj)
set_option maxRecDepth 100000 in
set_option maxHeartbeats 4000000 in
theorem l04Some_any (b : Nat) (a : Option Addr) (len cap : Nat) (zs : List Int) (N : Int) (s : ByteArray) (n : Nat) (p : UInt8 → Bool) (w : World) (h : Src w b a len cap zs N) (hN0 : 0 ≤ N) (hN : N ≤ 10000) (hn : n ≤ 1000) (hs1 : 1 ≤ s.size) (hs2 : s.size ≤ 200) (hsp : ∀ q, q < s.size → p (bU s q) = true) :
    Calls Try.prog 113 #[.pointer (some ⟨b, 0, none⟩), .string s, .int .i64 (n : Int)] w (SomeR w b a len cap zs N n p) := by
  have hlt0 := h.lt
  have hra := fun h0 x hx => (h.row_ne h0 x hx).2
  have HRA := Lib.hid hra
  have HSP := Lib.hid (fun q (hq : q < s.size) => (bU_at s q hq ▸ hsp q hq : p s[q] = true))
  have HSA := Lib.hid (h.alloc (.cells #[] 5))
  obtain ⟨j0, hj, hj0, hj1, hj2⟩ := info_parts info_u8
  clear h hra hsp
  go_enter Try.func113, Try.ntmps113
  go_wp2_with fail
  go_loopw [7, 8] (fun ls i wr => ∃ (k : Nat) (vl : Value) (L : List UInt8), k ≤ n ∧ vl = ls ∧ i = .int .i64 (k : Int) ∧ L.length = k ∧ (∀ c ∈ L, p c = true) ∧ OwnU wr w.heap.size vl L ∧ (k = 0 → vl = .slice (some ⟨w.heap.size, 0, none⟩) 0 0) ∧ Src wr b a len cap zs (N + 2 * k) ∧ w.grownBy wr (some b)) (fun _ i _ => (n - intOf i).toNat)
  case atStart => exact ⟨0, _, [], by omega, rfl, rfl, rfl, (fun c hc => by cases hc), ownU_empty _ _ (Nat.le_refl _), fun _ => rfl, by simpa using HSA.out, grown_alloc (World.grownBy.refl _ _) _⟩
  case round =>
    obtain ⟨k, vl, L, hk, rfl, rfl, hL, hLp, hU, hv0, hS, hG⟩ := hrel
    by_cases hlk : k < n
    · have hlk' : (k : Int) < (n : Int) := by omega
      have HPK := Lib.hid (pick_any b a len cap zs (N + 2 * k) (s.size : Int) wr hS (by omega) (by omega) (by omega))
      have HL := Lib.hid hL
      have HLp := Lib.hid hLp
      have HU := Lib.hid hU
      have HG := Lib.hid hG
      have hGz := hG.size
      clear hS hL hLp hU hG hv0
      go_wp2_with fail
      refine HPK.out.mono ?_
      rintro e w3 ⟨r, rfl, hr0, hr1, hS3, hG3⟩
      obtain ⟨q, rfl⟩ := Int.eq_ofNat_of_zero_le hr0
      have hq : q < s.size := by omega
      have hpc := HSP.out q hq
      have hG3z := hG3.size
      have hUl := own_src HU.out hG3 hlt0
      have HG4 := Lib.hid (grown_trans HG.out hG3)
      have HS4 := Lib.hid hS3
      rw [HL.out] at hUl
      have hbz : w.heap.size ≤ w3.heap.size := by omega
      generalize hcc : s[q] = cc at *
      have HPC := Lib.hid hpc
      clear hS3 hG3 hpc
      have hq' : (q : Int) < (s.size : Int) := by omega
      go_wp2_with (at_builtin; refine wpList_append_new _ rfl _ _ 22 rfl _ 5 j0 (.int .u8 0) 1 1 Try.underlying22 hj hj0 hj1 hj2 rfl (by decide) _ _ _ rfl (World.ownsRow.alloc hUl _) ⟨w3.heap.size, 0, none⟩ 1 1 [.int .u8 (cc.toNat : Int)] rfl rfl (cell_one_new _ _ _) (by simp [Value.oneCell']) (by unfold maxLen; omega) (by omega) (by first | omega | (simp; done) | (simp; omega)) (by decide) ?_; intro v' w1' hown1 hgrow1 hnew1)
      have hUn := OwnU.snoc hown1 (by rw [HL.out])
      have HUn := Lib.hid hUn
      have hvb : ∀ k, vl.ownBlock = some k → w.heap.size ≤ k := fun k e => (World.ownsRow.lt hUl k e).1
      have HSn := Lib.hid ((HS4.out.alloc (.cells #[.int .u8 (cc.toNat : Int)] 5)).own hgrow1 hvb hlt0 HRA.out)
      have HGn := Lib.hid (grown_own (grown_alloc HG4.out _) hgrow1 hvb)
      have HLn : Hid (∀ c ∈ L ++ [cc], p c = true) := Lib.hid (fun c hc => by
        rcases List.mem_append.1 hc with h | h
        · exact HLp.out c h
        · rw [List.mem_singleton.1 h]; exact HPC.out)
      clear hown1 hgrow1 hnew1 hUn hUl hvb hcc
      go_wp2
      go_roundw
      case rel => exact ⟨k + 1, _, L ++ [cc], by omega, rfl, by go_num, by simp [HL.out], HLn.out, HUn.out, (fun h => absurd h (by omega)), by rw [show N + 2 * ((k + 1 : Nat) : Int) = N + 2 * (k : Int) + 2 by omega]; exact HSn.out, HGn.out⟩
      case measure => first | (simp [intOf]; done) | (simp [intOf]; omega)
    · obtain rfl : k = n := by omega
      have HON : Hid (∀ j, j < k → p (bU (⟨L.toArray⟩ : ByteArray) j) = true) := Lib.hid (fun j hj => by
        have e : bU (⟨L.toArray⟩ : ByteArray) j = L[j]'(by omega) := by
          unfold bU
          simp [List.getD_eq_getElem?_getD, show j < L.length by omega]
        rw [e]; exact hLp _ (List.getElem_mem _))
      have HSZ : Hid ((⟨L.toArray⟩ : ByteArray).size = k) := Lib.hid (by show L.toArray.size = k; rw [List.size_toArray]; exact hL)
      have HS := Lib.hid hS
      have HG := Lib.hid hG
      by_cases hk0 : k = 0
      · have hve := hv0 hk0
        subst hk0
        obtain rfl : L = [] := List.eq_nil_of_length_eq_zero hL
        subst hve
        have hcv := conv0 (g := w.heap.size) (c := 0) wr
        clear hU hS hG hLp hL hv0
        go_wp2
        go_ret
        exact ⟨_, rfl, HSZ.out, HON.out, HS.out, HG.out⟩
      · obtain ⟨aL, cL, rfl⟩ := hU.shape
        have hcv := hU.text (by omega)
        generalize (⟨L.toArray⟩ : ByteArray) = t at *
        rw [hL] at hcv ⊢
        clear hU hS hG hLp hL hv0
        go_wp2
        go_ret
        exact ⟨t, rfl, HSZ.out, HON.out, HS.out, HG.out⟩
/-- A bond that has been drawn. -/
def DrewBd (w : World) (b : Nat) (e : Ending) (w' : World) : Prop := ∃ (nm : ByteArray) (a : Option Addr) (n cap : Nat) (ps : List (ByteArray × ByteArray)), e = .returned (.agg #[.string nm, .slice a n cap]) ∧ OBond w' w.heap.size nm (.slice a n cap) ps ∧ w.grownBy w' (some b)
def nmT : List ByteArray := [⟨#[111, 119, 110]⟩, ⟨#[121, 97, 114, 100, 45, 50]⟩]
theorem nmT_ok {q : Nat} (h : q < 2) : namU (nmT.getD q ByteArray.empty) = true := by
  match q, h with
  | 0, _ => decide
  | 1, _ => decide
theorem nmT_size : ∀ s ∈ nmT, s.size ≤ maxLen := fun s hs => by
  have h : s = nmT.getD 0 ByteArray.empty ∨ s = nmT.getD 1 ByteArray.empty := by simpa [nmT] using hs
  unfold maxLen
  rcases h with rfl | rfl
  · have := (namU_t (nmT_ok (q := 0) (by omega))).2.1; omega
  · have := (namU_t (nmT_ok (q := 1) (by omega))).2.1; omega
theorem pcs_letters (q : Nat) (h : q < (⟨#[83, 72, 84, 66, 67]⟩ : ByteArray).size) : pcsC (bU ⟨#[83, 72, 84, 66, 67]⟩ q) = true := by
  have h5 : q < 5 := h
  match q, h5 with
  | 0, _ => decide
  | 1, _ => decide
  | 2, _ => decide
  | 3, _ => decide
  | 4, _ => decide
theorem pln_letters (q : Nat) (h : q < (⟨#[83, 72]⟩ : ByteArray).size) : plnC (bU ⟨#[83, 72]⟩ q) = true := by
  have h2 : q < 2 := h
  match q, h2 with
  | 0, _ => decide
  | 1, _ => decide
theorem zeroB {w : World} {g : Nat} {t : TypeId} {x v : Value} (h : w.heap[g]? = some (.cells #[x, v] t (0, 0))) : w.cell? ⟨g, 0, none⟩ = some x := by rw [cellOf h]; rfl
set_option maxRecDepth 100000 in
set_option maxHeartbeats 8000000 in
theorem l04Draw_any (b : Nat) (a : Option Addr) (len cap : Nat) (zs : List Int) (w : World) (h : Src w b a len cap zs 0) :
    Calls Try.prog 77 #[.pointer (some ⟨b, 0, none⟩)] w (DrewBd w b) := by
  obtain ⟨i0, hi, hi0, hi1, hi2⟩ := info_parts info_crs
  have hbl := h.lt
  have HRA := Lib.hid (fun h0 x hx => (h.row_ne h0 x hx).2)
  obtain ⟨W0, hW0⟩ : ∃ W0, w.alloc (.cells #[.string ⟨#[]⟩, .slice none 0 0] 45) = W0 := ⟨_, rfl⟩
  have S0 : Src W0 b a len cap zs 0 := by rw [← hW0]; exact h.alloc _
  have R0 : Hid (W0.heap[w.heap.size]? = some (.cells #[.string ⟨#[]⟩, .slice none 0 0] 45 (0, 0))) := Lib.hid (by rw [← hW0]; exact blk_new _ _)
  have G0 : Hid (w.grownBy W0 (some b)) := Lib.hid (by rw [← hW0]; exact grown_alloc (World.grownBy.refl _ _) _)
  have HO := Lib.hid (one_src b a len cap zs 0 2 W0 S0 (by omega) (by omega) (by omega))
  have HW0 := Lib.hid hW0
  have hRb : w.heap.size ≠ b := by omega
  clear h hW0 S0
  go_enter Try.func77, Try.ntmps77
  go_wp2_with fail
  rw [HW0.out]
  refine HO.out.mono ?_
  rintro e1 w1 ⟨x, rfl, hS1, hg1⟩
  have S1 := Lib.hid hS1
  have R1 := Lib.hid (blk_grown R0.out hg1 hRb)
  have G1 := Lib.hid (grown_trans G0.out hg1)
  have hz1 := blk_lt R1.out
  clear hS1 hg1 R0 G0 HO HW0
  cases x
  · obtain ⟨W2, hW2⟩ : ∃ W2, w1.alloc (.cells #[.string ⟨#[111, 119, 110]⟩, .string ⟨#[121, 97, 114, 100, 45, 50]⟩] 9) = W2 := ⟨_, rfl⟩
    have L2 : IsStrs W2 (some ⟨w1.heap.size, 0, none⟩) 2 2 nmT := by rw [← hW2]; exact isStrs_blk (ss := nmT) (blk_new _ _) (by unfold maxLen; show 2 ≤ _; omega) nmT_size
    have S2 : Src W2 b a len cap zs 2 := by rw [← hW2]; exact S1.out.alloc _
    have R2 : Hid (W2.heap[w.heap.size]? = some (.cells #[.string ⟨#[]⟩, .slice none 0 0] 45 (0, 0))) := Lib.hid (by rw [← hW2]; exact blk_alloc R1.out)
    have G2 : Hid (w.grownBy W2 (some b)) := Lib.hid (by rw [← hW2]; exact grown_alloc G1.out _)
    have HT := Lib.hid (text_src b a len cap zs 2 (some ⟨w1.heap.size, 0, none⟩) 2 2 nmT W2 S2 (by omega) L2 (fun x hx => by injection hx with hx; subst hx; show w1.heap.size ≠ b; omega) (by omega) (by omega))
    have HW2 := Lib.hid hW2
    clear hW2 S2 S1 R1 G1 L2
    go_wp2_with fail
    rw [HW2.out]
    refine HT.out.mono ?_
    rintro e3 w3 ⟨q, hq, rfl, hS3, hg3⟩
    have HNM := Lib.hid (nmT_ok hq)
    generalize nmT.getD q ByteArray.empty = nm at *
    have R3 := blk_grown R2.out hg3 hRb
    have G3 := grown_trans G2.out hg3
    have hz3 := blk_lt R3
    obtain ⟨W4, hW4⟩ : ∃ W4, w3.alloc (.cells #[.string nm, .slice none 0 0] 45) = W4 := ⟨_, rfl⟩
    have R4 : Hid (W4.heap[w.heap.size]? = some (.cells #[.string ⟨#[]⟩, .slice none 0 0] 45 (0, 0))) := Lib.hid (by rw [← hW4]; exact blk_alloc R3)
    have B4 : Hid (W4.heap[w3.heap.size]? = some (.cells #[.string nm, .slice none 0 0] 45 (0, 0))) := Lib.hid (by rw [← hW4]; exact blk_new _ _)
    have G4 : Hid (w.grownBy W4 (some b)) := Lib.hid (by rw [← hW4]; exact grown_alloc G3 _)
    have S4 : Src W4 b a len cap zs 4 := by rw [← hW4]; exact (by simpa using hS3 : Src w3 b a len cap zs 4).alloc _
    have HP := Lib.hid (pick_any b a len cap zs 4 4 W4 S4 (by omega) (by omega) (by omega))
    have HW4 := Lib.hid hW4
    clear hW4 S4 R3 G3 hS3 hg3 HT HW2 R2 G2
    go_wp2_with fail
    rw [HW4.out]
    refine HP.out.mono ?_
    rintro e5 w5 ⟨r, rfl, hr0, hr1, hS5, hg5⟩
    obtain ⟨K0, hK0⟩ : ∃ K0 : Nat, 1 + r = (K0 : Int) := ⟨(1 + r).toNat, by omega⟩
    have hK4 : 1 ≤ K0 ∧ K0 ≤ 4 := by omega
    have hb3 : b < w3.heap.size := by omega
    have R5 := Lib.hid (blk_grown R4.out hg5 hRb)
    have B5 := Lib.hid (blk_grown B4.out hg5 (by omega))
    have G5 := Lib.hid (grown_trans G4.out hg5)
    have S5 := Lib.hid hS5
    have hz5 := blk_lt B5.out
    have HK := Lib.hid hK0
    clear hS5 hg5 R4 B4 G4 HP HW4
    go_wp2_with fail
    go_loopw [7, 8, 9, 10] (fun kv _ _ _ wr => ∃ (k : Nat) (vo : Value) (ps : List (ByteArray × ByteArray)) (M : Int), kv = .int .i64 (k : Int) ∧ ps.length + k = K0 ∧ (∀ p ∈ ps, crsB p = true) ∧ wr.heap[w.heap.size]? = some (.cells #[.string ⟨#[]⟩, .slice none 0 0] 45 (0, 0)) ∧ wr.heap[w3.heap.size]? = some (.cells #[.string nm, vo] 45 (0, 0)) ∧ OwnC wr w5.heap.size vo ps ∧ Src wr b a len cap zs M ∧ (0 ≤ M ∧ M ≤ 10 + 30 * (ps.length : Int)) ∧ w.grownBy wr (some b) ∧ w5.heap.size ≤ wr.heap.size) (fun kv _ _ _ _ => (intOf kv).toNat)
    case atStart => exact ⟨K0, _, [], _, by rw [← HK.out], by simp, (fun p hp => by cases hp), R5.out, B5.out, ownC_nil _ _, S5.out, ⟨by omega, by simp⟩, G5.out, Nat.le_refl _⟩
    case round =>
      clear R5 B5 S5 G5
      obtain ⟨k, vo, ps, M, rfl, hpl, hpo, hR, hB, hO, hS, ⟨hM0, hM1⟩, hG, hz⟩ := hrel
      by_cases hk : 0 < k
      · obtain ⟨k, rfl⟩ : ∃ k', k = k' + 1 := ⟨k - 1, by omega⟩
        have hk' : (0 : Int) < ((k + 1 : Nat) : Int) := by omega
        have hk5 : k ≤ 5 := by omega
        obtain ⟨W6, hW6⟩ : ∃ W6, wr.alloc (.cells #[.string ⟨#[]⟩, .string ⟨#[]⟩] 137) = W6 := ⟨_, rfl⟩
        have R6 : Hid (W6.heap[w.heap.size]? = some (.cells #[.string ⟨#[]⟩, .slice none 0 0] 45 (0, 0))) := Lib.hid (by rw [← hW6]; exact blk_alloc hR)
        have B66 : Hid (W6.heap[w3.heap.size]? = some (.cells #[.string nm, vo] 45 (0, 0))) := Lib.hid (by rw [← hW6]; exact blk_alloc hB)
        have C86 : Hid (W6.heap[wr.heap.size]? = some (.cells #[.string ⟨#[]⟩, .string ⟨#[]⟩] 137 (0, 0))) := Lib.hid (by rw [← hW6]; exact blk_new _ _)
        have O6 : Hid (OwnC W6 w5.heap.size vo ps) := Lib.hid (by rw [← hW6]; exact World.ownsRow.alloc hO _)
        have S6 : Src W6 b a len cap zs M := by rw [← hW6]; exact hS.alloc _
        have G6 : Hid (w.grownBy W6 (some b)) := Lib.hid (by rw [← hW6]; exact grown_alloc hG _)
        have HVN : Hid (vo.ownBlock ≠ some wr.heap.size) := Lib.hid (fun e => by have := (World.ownsRow.lt hO _ e).2; omega)
        have HPL := Lib.hid hpl
        have HPO := Lib.hid hpo
        have hpl4 : ps.length ≤ 4 := by omega
        have HO6 := Lib.hid (one_src b a len cap zs M 2 W6 S6 (by omega) (by omega) (by omega))
        have HW6 := Lib.hid hW6
        have hz6 : W6.heap.size = wr.heap.size + 1 := by rw [← hW6]; simp
        have HZ6 := Lib.hid hz6
        clear hW6 S6 hR hB hO hS hG hpl hpo hz6
        go_wp2_with fail
        rw [HW6.out]
        refine HO6.out.mono ?_
        rintro e7 w7 ⟨y, rfl, hS7, hg7⟩
        have R7 := Lib.hid (blk_grown R6.out hg7 hRb)
        have B67 := Lib.hid (blk_grown B66.out hg7 (by omega))
        have C87 := Lib.hid (blk_grown C86.out hg7 (by omega))
        have O7 : Hid (OwnC w7 w5.heap.size vo ps) := Lib.hid (own_src O6.out hg7 (by omega))
        have G7 := Lib.hid (grown_trans G6.out hg7)
        have S7 := Lib.hid hS7
        have hz7 := blk_lt C87.out
        clear hS7 hg7 R6 B66 C86 O6 G6 HO6 HW6
        cases y
        · have R9 := R7
          have B69 := B67
          have C89 := C87
          have O9 := O7
          have G9 := G7
          obtain ⟨M9, hM9⟩ : ∃ M9, M + 2 = M9 := ⟨_, rfl⟩
          rw [hM9] at S7
          have S9 := S7
          have hMM : 0 ≤ M9 ∧ M9 ≤ M + 10 := by omega
          have HLK : Hid ((⟨#[]⟩ : ByteArray).size ≤ 6 ∧ ∀ k, k < (⟨#[]⟩ : ByteArray).size → 1 ≤ qU (bU ⟨#[]⟩ k)) := Lib.hid ⟨by decide, fun k hk => absurd hk (by show ¬ k < 0; omega)⟩
          clear R7 B67 C87 O7 G7 S7 hM9
          have P9 := Lib.hid (pick_any b a len cap zs M9 4 w7 S9.out (by omega) (by omega) (by omega))
          clear S9
          go_wp2_with fail
          skip
          refine P9.out.mono ?_
          rintro ea wa ⟨ra, rfl, ra0, ra1, hSa, hga⟩
          obtain ⟨na, hna⟩ : ∃ na : Nat, 1 + ra = (na : Int) := ⟨(1 + ra).toNat, by omega⟩
          have hna1 : 1 ≤ na ∧ na ≤ 4 := by omega
          have PA := Lib.hid (l04Some_any b a len cap zs _ ⟨#[83, 72]⟩ na plnC wa hSa (by omega) (by omega) (by omega) (by decide) (by decide) pln_letters)
          have RA := Lib.hid (blk_grown R9.out hga hRb)
          have BA := Lib.hid (blk_grown B69.out hga (by omega))
          have CA := Lib.hid (blk_grown C89.out hga (by omega))
          have OA : Hid (OwnC wa w5.heap.size vo ps) := Lib.hid (own_src O9.out hga (by omega))
          have GA := Lib.hid (grown_trans G9.out hga)
          have NA := Lib.hid hna
          have hSz := hga.size
          clear hSa hga R9 B69 C89 O9 G9 P9
          go_wp2_with fail
          refine PA.out.mono ?_
          rintro eb wb ⟨t2, rfl, ht2, hp2, hSb, hgb⟩
          have RB := Lib.hid (blk_grown RA.out hgb hRb)
          have BB := Lib.hid (blk_grown BA.out hgb (by omega))
          have CB := Lib.hid (blk_grown CA.out hgb (by omega))
          have OB : Hid (OwnC wb w5.heap.size vo ps) := Lib.hid (own_src OA.out hgb (by omega))
          have GB := Lib.hid (grown_trans GA.out hgb)
          have SB := Lib.hid hSb
          have hSz2 := hgb.size
          have HCK : Hid (crsB ((⟨#[]⟩ : ByteArray), t2) = true) := Lib.hid (crsB_mk ⟨HLK.out.1, HLK.out.2, by omega, by omega, fun k hk => by have := hp2 k (by omega); simpa [plnC] using this⟩)
          clear hSb hgb RA BA CA OA GA PA ht2 hp2
          have k1 := B6s1 CB.out
          have fz1 := frozenOf CB.out 1
          obtain ⟨WC, hWC⟩ : ∃ WC, wb.setCell ⟨wr.heap.size, 1, none⟩ (.string t2) = WC := ⟨_, rfl⟩
          have CC : WC.heap[wr.heap.size]? = some (.cells #[.string (⟨#[]⟩ : ByteArray), .string t2] 137 (0, 0)) := by
            rw [← hWC]
            have := blk_set CB.out 1 (.string t2)
            simpa using this
          have RC := Lib.hid (show WC.heap[w.heap.size]? = some (.cells #[.string ⟨#[]⟩, .slice none 0 0] 45 (0, 0)) by rw [← hWC]; exact blk_far RB.out (p := ⟨wr.heap.size, 1, none⟩) (by show w.heap.size ≠ wr.heap.size; omega) _)
          have BC := Lib.hid (show WC.heap[w3.heap.size]? = some (.cells #[.string nm, vo] 45 (0, 0)) by rw [← hWC]; exact blk_far BB.out (p := ⟨wr.heap.size, 1, none⟩) (by show w3.heap.size ≠ wr.heap.size; omega) _)
          have OC : Hid (OwnC WC w5.heap.size vo ps) := Lib.hid (by rw [← hWC]; exact own_set OB.out _ HVN.out)
          have SC := Lib.hid (show Src WC b a len cap zs _ by rw [← hWC]; exact SB.out.setCell (p := ⟨wr.heap.size, 1, none⟩) (by show wr.heap.size ≠ b; omega) (fun h0 x hx => by have := HRA.out h0 x hx; show x.block ≠ wr.heap.size; omega) _)
          have GC := Lib.hid (show w.grownBy WC (some b) by rw [← hWC]; exact grown_new GB.out (p := ⟨wr.heap.size, 1, none⟩) (by show w.heap.size ≤ wr.heap.size; omega) _)
          have hzC : WC.heap.size = wb.heap.size := by rw [← hWC]; simp [World.setCell]
          have HWC := Lib.hid hWC
          clear hWC RB BB OB SB GB
          go_upto_region 15 with (fail)
          rw [HWC.out]
          clear k1 fz1
          have c0 := zeroB CC
          have c1 := B6s1 CC
          have f1 := B6s1 BC.out
          have hzW3 : w3.heap.size < WC.heap.size := by omega
          have hzWr : wr.heap.size < WC.heap.size := by omega
          have hz5C : w5.heap.size ≤ WC.heap.size := by omega
          obtain ⟨m, hm⟩ : ∃ m, ps.length = m := ⟨_, rfl⟩
          have hOl := OC.out
          unfold OwnC at hOl
          rw [hm] at hOl
          rw [hm] at hpl4 hM1
          have HM := Lib.hid hm
          have HNW : Hid (∀ (j : Nat) (u : Value), ([.string (⟨#[]⟩ : ByteArray), .string t2] : List Value)[j]? = some u → (WC.alloc (.cells #[.string (⟨#[]⟩ : ByteArray), .string t2] 137)).cell? ((⟨WC.heap.size, 0, none⟩ : Addr).add j) = some u) := Lib.hid (fun j u hu => World.news_of_block (blk_new WC (.cells #[.string (⟨#[]⟩ : ByteArray), .string t2] 137)) j u hu)
          have HZ5 := Lib.hid hz5C
          have HZC := Lib.hid hzC
          clear hm CC CB HWC hzC
          go_wp2_with (at_builtin; refine wpList_append_new _ rfl _ _ 43 rfl _ 137 i0 (.agg #[.string ByteArray.empty, .string ByteArray.empty]) 2 32 Try.underlying43 hi hi0 hi1 hi2 rfl (by decide) _ _ _ rfl (World.ownsRow.alloc hOl _) ⟨WC.heap.size, 0, none⟩ 1 1 [.string (⟨#[]⟩ : ByteArray), .string t2] rfl rfl HNW.out (by simp [Value.oneCell']) (by unfold maxLen; omega) (by omega) (by first | omega | (simp; done) | (simp; omega)) (by decide) ?_; intro v' w1' hown1 hgrow1 hnew1; (obtain ⟨xa, ca, rfl⟩ := own_shape hown1); (have B6 : w1'.heap[w3.heap.size]? = some (.cells #[.string nm, vo] 45 (0, 0)) := blk_row (blk_alloc BC.out) (World.ownsRow.alloc hOl _) hgrow1 hz5); (have h1 := B6s1 B6); (have k6 := frozenOf B6 1))
          have hvb : ∀ g, vo.ownBlock = some g → w5.heap.size ≤ g := fun g e => (World.ownsRow.lt hOl g e).1
          have hvw : ∀ g, vo.ownBlock = some g → w.heap.size ≤ g := fun g e => by have := hvb g e; omega
          have R6 := Lib.hid (blk_far (blk_row (blk_alloc RC.out) (World.ownsRow.alloc hOl _) hgrow1 (by omega)) (p := ⟨w3.heap.size, 1, none⟩) (by show w.heap.size ≠ w3.heap.size; omega) (.slice xa (m + 1) ca))
          have B7 := blk_set B6 1 (.slice xa (m + 1) ca)
          simp at B7
          have B8 := Lib.hid B7
          have O7 : Hid (OwnC (w1'.setCell ⟨w3.heap.size, 1, none⟩ (.slice xa (m + 1) ca)) w5.heap.size (.slice xa (m + 1) ca) (ps ++ [((⟨#[]⟩ : ByteArray), t2)])) := Lib.hid (own_set (OwnC.snoc hown1 (by rw [HM.out])) _ (own_ne hown1 hz5))
          have S7 := Lib.hid (((SC.out.alloc (.cells #[.string (⟨#[]⟩ : ByteArray), .string t2] 137)).own hgrow1 hvb (by omega) (fun h0 x hx => by have := HRA.out h0 x hx; omega)).setCell (p := ⟨w3.heap.size, 1, none⟩) (by show w3.heap.size ≠ b; omega) (fun h0 x hx => by have := HRA.out h0 x hx; show x.block ≠ w3.heap.size; omega) (.slice xa (m + 1) ca))
          have G7 := Lib.hid (grown_new (grown_own (grown_alloc GC.out (.cells #[.string (⟨#[]⟩ : ByteArray), .string t2] 137)) hgrow1 hvw) (p := ⟨w3.heap.size, 1, none⟩) (by show w.heap.size ≤ w3.heap.size; omega) (.slice xa (m + 1) ca))
          have Z7 : Hid (w5.heap.size ≤ (w1'.setCell ⟨w3.heap.size, 1, none⟩ (.slice xa (m + 1) ca)).heap.size) := Lib.hid (by
            have h1 := hgrow1.size
            have h2 : (w1'.setCell ⟨w3.heap.size, 1, none⟩ (.slice xa (m + 1) ca)).heap.size = w1'.heap.size := by simp [World.setCell]
            rw [h2]
            simp at h1
            omega)
          have P7 : Hid (∀ p ∈ ps ++ [((⟨#[]⟩ : ByteArray), t2)], crsB p = true) := Lib.hid (fun p hp => by
            rcases List.mem_append.1 hp with h | h
            · exact HPO.out p h
            · rw [List.mem_singleton.1 h]; exact HCK.out)
          have L7 : Hid ((ps ++ [((⟨#[]⟩ : ByteArray), t2)]).length = m + 1) := Lib.hid (by simp [HM.out])
          have hmk : m + (k + 1) = K0 := by have := HPL.out; have := HM.out; omega
          clear hown1 hgrow1 hnew1 hOl hvb hvw B6 B7 RC BC OC SC GC h1 k6 c0 c1 f1
          go_roundw
          case rel => exact ⟨k, _, ps ++ [((⟨#[]⟩ : ByteArray), t2)], _, rfl, by rw [L7.out]; omega, P7.out, R6.out, B8.out, O7.out, S7.out, ⟨by omega, by rw [L7.out]; omega⟩, G7.out, Z7.out⟩
          case measure => first | (simp [intOf]; done) | (simp [intOf]; omega)
        · have P8 := Lib.hid (pick_any b a len cap zs (M + 2) 3 w7 S7.out (by omega) (by omega) (by omega))
          clear S7
          go_wp2_with fail
          refine P8.out.mono ?_
          rintro e8 w8 ⟨r8, rfl, r80, r81, hS8, hg8⟩
          obtain ⟨n8, rfl⟩ := Int.eq_ofNat_of_zero_le r80
          have PB := Lib.hid (l04Some_any b a len cap zs _ ⟨#[83, 72, 84, 66, 67]⟩ n8 pcsC w8 hS8 (by omega) (by omega) (by omega) (by decide) (by decide) pcs_letters)
          have R8 := Lib.hid (blk_grown R7.out hg8 hRb)
          have B68 := Lib.hid (blk_grown B67.out hg8 (by omega))
          have C88 := Lib.hid (blk_grown C87.out hg8 (by omega))
          have O8 : Hid (OwnC w8 w5.heap.size vo ps) := Lib.hid (own_src O7.out hg8 (by omega))
          have G8 := Lib.hid (grown_trans G7.out hg8)
          have hSz8 := hg8.size
          clear hS8 hg8 R7 B67 C87 O7 G7 P8
          go_wp2_with fail
          refine PB.out.mono ?_
          rintro e8 wq ⟨t1, rfl, ht1, hp1, hSq, hgq⟩
          have Rq := blk_grown R8.out hgq hRb
          have Bq := blk_grown B68.out hgq (by omega)
          have Cq := blk_grown C88.out hgq (by omega)
          have Oq : OwnC wq w5.heap.size vo ps := own_src O8.out hgq (by omega)
          have Gq := grown_trans G8.out hgq
          have hSzq := hgq.size
          have k0 := zeroB Cq
          have fz0 := frozenOf Cq 0
          obtain ⟨W9, hW9⟩ : ∃ W9, wq.setCell ⟨wr.heap.size, 0, none⟩ (.string t1) = W9 := ⟨_, rfl⟩
          have C89 : Hid (W9.heap[wr.heap.size]? = some (.cells #[.string t1, .string ⟨#[]⟩] 137 (0, 0))) := Lib.hid (by
            rw [← hW9]
            have := blk_set Cq 0 (.string t1)
            simpa using this)
          have R9 : Hid (W9.heap[w.heap.size]? = some (.cells #[.string ⟨#[]⟩, .slice none 0 0] 45 (0, 0))) := Lib.hid (by rw [← hW9]; exact blk_far Rq (p := ⟨wr.heap.size, 0, none⟩) (by show w.heap.size ≠ wr.heap.size; omega) _)
          have B69 : Hid (W9.heap[w3.heap.size]? = some (.cells #[.string nm, vo] 45 (0, 0))) := Lib.hid (by rw [← hW9]; exact blk_far Bq (p := ⟨wr.heap.size, 0, none⟩) (by show w3.heap.size ≠ wr.heap.size; omega) _)
          have O9 : Hid (OwnC W9 w5.heap.size vo ps) := Lib.hid (by rw [← hW9]; exact own_set Oq _ HVN.out)
          have G9 : Hid (w.grownBy W9 (some b)) := Lib.hid (by rw [← hW9]; exact grown_new Gq (p := ⟨wr.heap.size, 0, none⟩) (by show w.heap.size ≤ wr.heap.size; omega) _)
          obtain ⟨M9, hM9⟩ : ∃ M9, M + 2 + 2 + 2 * (n8 : Int) = M9 := ⟨_, rfl⟩
          rw [hM9] at hSq
          have S9 : Hid (Src W9 b a len cap zs M9) := Lib.hid (by rw [← hW9]; exact hSq.setCell (p := ⟨wr.heap.size, 0, none⟩) (by show wr.heap.size ≠ b; omega) (fun h0 x hx => by have := HRA.out h0 x hx; show x.block ≠ wr.heap.size; omega) _)
          have hMM : 0 ≤ M9 ∧ M9 ≤ M + 10 := by omega
          have HLK : Hid (t1.size ≤ 6 ∧ ∀ k, k < t1.size → 1 ≤ qU (bU t1 k)) := Lib.hid ⟨by omega, fun k hk => by have := hp1 k (by omega); simpa [pcsC] using this⟩
          have HW9 := Lib.hid hW9
          have hz9 : wr.heap.size < W9.heap.size := blk_lt C89.out
          clear hSq hgq Rq Bq Cq Oq Gq ht1 hp1 hM9 hW9 R8 B68 C88 O8 G8 PB
          have P9 := Lib.hid (pick_any b a len cap zs M9 4 W9 S9.out (by omega) (by omega) (by omega))
          clear S9
          go_wp2_with fail
          (rw [HW9.out]; clear HW9 k0 fz0)
          refine P9.out.mono ?_
          rintro ea wa ⟨ra, rfl, ra0, ra1, hSa, hga⟩
          obtain ⟨na, hna⟩ : ∃ na : Nat, 1 + ra = (na : Int) := ⟨(1 + ra).toNat, by omega⟩
          have hna1 : 1 ≤ na ∧ na ≤ 4 := by omega
          have PA := Lib.hid (l04Some_any b a len cap zs _ ⟨#[83, 72]⟩ na plnC wa hSa (by omega) (by omega) (by omega) (by decide) (by decide) pln_letters)
          have RA := Lib.hid (blk_grown R9.out hga hRb)
          have BA := Lib.hid (blk_grown B69.out hga (by omega))
          have CA := Lib.hid (blk_grown C89.out hga (by omega))
          have OA : Hid (OwnC wa w5.heap.size vo ps) := Lib.hid (own_src O9.out hga (by omega))
          have GA := Lib.hid (grown_trans G9.out hga)
          have NA := Lib.hid hna
          have hSz := hga.size
          clear hSa hga R9 B69 C89 O9 G9 P9
          go_wp2_with fail
          refine PA.out.mono ?_
          rintro eb wb ⟨t2, rfl, ht2, hp2, hSb, hgb⟩
          have RB := Lib.hid (blk_grown RA.out hgb hRb)
          have BB := Lib.hid (blk_grown BA.out hgb (by omega))
          have CB := Lib.hid (blk_grown CA.out hgb (by omega))
          have OB : Hid (OwnC wb w5.heap.size vo ps) := Lib.hid (own_src OA.out hgb (by omega))
          have GB := Lib.hid (grown_trans GA.out hgb)
          have SB := Lib.hid hSb
          have hSz2 := hgb.size
          have HCK : Hid (crsB (t1, t2) = true) := Lib.hid (crsB_mk ⟨HLK.out.1, HLK.out.2, by omega, by omega, fun k hk => by have := hp2 k (by omega); simpa [plnC] using this⟩)
          clear hSb hgb RA BA CA OA GA PA ht2 hp2
          have k1 := B6s1 CB.out
          have fz1 := frozenOf CB.out 1
          obtain ⟨WC, hWC⟩ : ∃ WC, wb.setCell ⟨wr.heap.size, 1, none⟩ (.string t2) = WC := ⟨_, rfl⟩
          have CC : WC.heap[wr.heap.size]? = some (.cells #[.string t1, .string t2] 137 (0, 0)) := by
            rw [← hWC]
            have := blk_set CB.out 1 (.string t2)
            simpa using this
          have RC := Lib.hid (show WC.heap[w.heap.size]? = some (.cells #[.string ⟨#[]⟩, .slice none 0 0] 45 (0, 0)) by rw [← hWC]; exact blk_far RB.out (p := ⟨wr.heap.size, 1, none⟩) (by show w.heap.size ≠ wr.heap.size; omega) _)
          have BC := Lib.hid (show WC.heap[w3.heap.size]? = some (.cells #[.string nm, vo] 45 (0, 0)) by rw [← hWC]; exact blk_far BB.out (p := ⟨wr.heap.size, 1, none⟩) (by show w3.heap.size ≠ wr.heap.size; omega) _)
          have OC : Hid (OwnC WC w5.heap.size vo ps) := Lib.hid (by rw [← hWC]; exact own_set OB.out _ HVN.out)
          have SC := Lib.hid (show Src WC b a len cap zs _ by rw [← hWC]; exact SB.out.setCell (p := ⟨wr.heap.size, 1, none⟩) (by show wr.heap.size ≠ b; omega) (fun h0 x hx => by have := HRA.out h0 x hx; show x.block ≠ wr.heap.size; omega) _)
          have GC := Lib.hid (show w.grownBy WC (some b) by rw [← hWC]; exact grown_new GB.out (p := ⟨wr.heap.size, 1, none⟩) (by show w.heap.size ≤ wr.heap.size; omega) _)
          have hzC : WC.heap.size = wb.heap.size := by rw [← hWC]; simp [World.setCell]
          have HWC := Lib.hid hWC
          clear hWC RB BB OB SB GB
          go_upto_region 15 with (fail)
          rw [HWC.out]
          clear k1 fz1
          have c0 := zeroB CC
          have c1 := B6s1 CC
          have f1 := B6s1 BC.out
          have hzW3 : w3.heap.size < WC.heap.size := by omega
          have hzWr : wr.heap.size < WC.heap.size := by omega
          have hz5C : w5.heap.size ≤ WC.heap.size := by omega
          obtain ⟨m, hm⟩ : ∃ m, ps.length = m := ⟨_, rfl⟩
          have hOl := OC.out
          unfold OwnC at hOl
          rw [hm] at hOl
          rw [hm] at hpl4 hM1
          have HM := Lib.hid hm
          have HNW : Hid (∀ (j : Nat) (u : Value), ([.string t1, .string t2] : List Value)[j]? = some u → (WC.alloc (.cells #[.string t1, .string t2] 137)).cell? ((⟨WC.heap.size, 0, none⟩ : Addr).add j) = some u) := Lib.hid (fun j u hu => World.news_of_block (blk_new WC (.cells #[.string t1, .string t2] 137)) j u hu)
          have HZ5 := Lib.hid hz5C
          have HZC := Lib.hid hzC
          clear hm CC CB HWC hzC
          go_wp2_with (at_builtin; refine wpList_append_new _ rfl _ _ 43 rfl _ 137 i0 (.agg #[.string ByteArray.empty, .string ByteArray.empty]) 2 32 Try.underlying43 hi hi0 hi1 hi2 rfl (by decide) _ _ _ rfl (World.ownsRow.alloc hOl _) ⟨WC.heap.size, 0, none⟩ 1 1 [.string t1, .string t2] rfl rfl HNW.out (by simp [Value.oneCell']) (by unfold maxLen; omega) (by omega) (by first | omega | (simp; done) | (simp; omega)) (by decide) ?_; intro v' w1' hown1 hgrow1 hnew1; (obtain ⟨xa, ca, rfl⟩ := own_shape hown1); (have B6 : w1'.heap[w3.heap.size]? = some (.cells #[.string nm, vo] 45 (0, 0)) := blk_row (blk_alloc BC.out) (World.ownsRow.alloc hOl _) hgrow1 hz5); (have h1 := B6s1 B6); (have k6 := frozenOf B6 1))
          have hvb : ∀ g, vo.ownBlock = some g → w5.heap.size ≤ g := fun g e => (World.ownsRow.lt hOl g e).1
          have hvw : ∀ g, vo.ownBlock = some g → w.heap.size ≤ g := fun g e => by have := hvb g e; omega
          have R6 := Lib.hid (blk_far (blk_row (blk_alloc RC.out) (World.ownsRow.alloc hOl _) hgrow1 (by omega)) (p := ⟨w3.heap.size, 1, none⟩) (by show w.heap.size ≠ w3.heap.size; omega) (.slice xa (m + 1) ca))
          have B7 := blk_set B6 1 (.slice xa (m + 1) ca)
          simp at B7
          have B8 := Lib.hid B7
          have O7 : Hid (OwnC (w1'.setCell ⟨w3.heap.size, 1, none⟩ (.slice xa (m + 1) ca)) w5.heap.size (.slice xa (m + 1) ca) (ps ++ [(t1, t2)])) := Lib.hid (own_set (OwnC.snoc hown1 (by rw [HM.out])) _ (own_ne hown1 hz5))
          have S7 := Lib.hid (((SC.out.alloc (.cells #[.string t1, .string t2] 137)).own hgrow1 hvb (by omega) (fun h0 x hx => by have := HRA.out h0 x hx; omega)).setCell (p := ⟨w3.heap.size, 1, none⟩) (by show w3.heap.size ≠ b; omega) (fun h0 x hx => by have := HRA.out h0 x hx; show x.block ≠ w3.heap.size; omega) (.slice xa (m + 1) ca))
          have G7 := Lib.hid (grown_new (grown_own (grown_alloc GC.out (.cells #[.string t1, .string t2] 137)) hgrow1 hvw) (p := ⟨w3.heap.size, 1, none⟩) (by show w.heap.size ≤ w3.heap.size; omega) (.slice xa (m + 1) ca))
          have Z7 : Hid (w5.heap.size ≤ (w1'.setCell ⟨w3.heap.size, 1, none⟩ (.slice xa (m + 1) ca)).heap.size) := Lib.hid (by
            have h1 := hgrow1.size
            have h2 : (w1'.setCell ⟨w3.heap.size, 1, none⟩ (.slice xa (m + 1) ca)).heap.size = w1'.heap.size := by simp [World.setCell]
            rw [h2]
            simp at h1
            omega)
          have P7 : Hid (∀ p ∈ ps ++ [(t1, t2)], crsB p = true) := Lib.hid (fun p hp => by
            rcases List.mem_append.1 hp with h | h
            · exact HPO.out p h
            · rw [List.mem_singleton.1 h]; exact HCK.out)
          have L7 : Hid ((ps ++ [(t1, t2)]).length = m + 1) := Lib.hid (by simp [HM.out])
          have hmk : m + (k + 1) = K0 := by have := HPL.out; have := HM.out; omega
          clear hown1 hgrow1 hnew1 hOl hvb hvw B6 B7 RC BC OC SC GC h1 k6 c0 c1 f1
          go_roundw
          case rel => exact ⟨k, _, ps ++ [(t1, t2)], _, rfl, by rw [L7.out]; omega, P7.out, R6.out, B8.out, O7.out, S7.out, ⟨by omega, by rw [L7.out]; omega⟩, G7.out, Z7.out⟩
          case measure => first | (simp [intOf]; done) | (simp [intOf]; omega)
      · obtain rfl : k = 0 := by omega
        obtain ⟨x, cc, rfl⟩ := hO.shape
        have hlen : ps.length = K0 := by omega
        have r0 := zeroB hR
        have r1 := B6s1 hR
        have q0 := frozenOf hR 0
        have q1 := frozenOf hR 1
        have f0 := zeroB hB
        have f1 := B6s1 hB
        have hne : w3.heap.size ≠ w.heap.size := by omega
        have O8 := own_set (b := w.heap.size) (o := 1) (own_set (b := w.heap.size) (o := 0) hO (.string nm) (own_ne hO (by omega))) (.slice x ps.length cc) (own_ne hO (by omega))
        have HD : Hid (OBond ((wr.setCell ⟨w.heap.size, 0, none⟩ (.string nm)).setCell ⟨w.heap.size, 1, none⟩ (.slice x ps.length cc)) w.heap.size nm (.slice x ps.length cc) ps) := Lib.hid ⟨HNM.out, own_base O8 (by omega), bndB_mk (by omega) (by omega) hpo⟩
        have HF := Lib.hid (grown_new (grown_new hG (p := ⟨w.heap.size, 0, none⟩) (Nat.le_refl _) (.string nm)) (p := ⟨w.heap.size, 1, none⟩) (Nat.le_refl _) (.slice x ps.length cc))
        clear hO hG hB hR O8 hpo hS hpl hlen
        generalize ps.length = nn at *
        go_wp2
        refine bodyPost_ret (v := .agg #[.string nm, .slice x nn cc]) (by simp [results, Try.results77, go_sem, *]) rfl ?_
        exact ⟨nm, x, nn, cc, ps, rfl, HD.out, HF.out⟩
  · go_wp2_with fail
    refine (l04Library_any _).mono ?_
    rintro e2 w2' ⟨rfl, hw2⟩
    obtain ⟨W2, hW2⟩ : ∃ W2, w1.alloc (.cells (strsA libT) 9) = W2 := ⟨_, rfl⟩
    have L2 : Hid (IsStrs W2 (some ⟨w1.heap.size, 0, none⟩) 5 5 libT) := Lib.hid (by rw [← hW2]; exact isStrs_blk (blk_new _ _) (by unfold maxLen; show 5 ≤ _; omega) libT_size)
    have S2 : Src W2 b a len cap zs 2 := by rw [← hW2]; exact S1.out.alloc _
    have R2 : Hid (W2.heap[w.heap.size]? = some (.cells #[.string ⟨#[]⟩, .slice none 0 0] 45 (0, 0))) := Lib.hid (by rw [← hW2]; exact blk_alloc R1.out)
    have G2 : Hid (w.grownBy W2 (some b)) := Lib.hid (by rw [← hW2]; exact grown_alloc G1.out _)
    have HP := Lib.hid (pick_any b a len cap zs 2 5 W2 S2 (by omega) (by omega) (by omega))
    rw [hW2] at hw2
    subst hw2
    clear hW2 S2 S1 R1 G1
    go_wp2_with fail
    refine HP.out.mono ?_
    rintro e3 w3 ⟨r, rfl, hr0, hr1, hS3, hg3⟩
    obtain ⟨q, rfl⟩ := Int.eq_ofNat_of_zero_le hr0
    have hq : q < 5 := by omega
    have hq' : (q : Int) < 5 := by omega
    have hc3 := (L2.out.grown (fun x hx => by injection hx with hx; subst hx; exact (by have := hbl; show w1.heap.size ≠ b; omega)) hg3).same hq
    simp only [Nat.zero_add] at hc3
    have HRB := Lib.hid (readBond_any (libT.getD q ByteArray.empty) w3 (libT_at hq))
    have R3 := Lib.hid (blk_grown R2.out hg3 hRb)
    have G3 := Lib.hid (grown_trans G2.out hg3)
    have hz3 := blk_lt R3.out
    generalize libT.getD q ByteArray.empty = tx at *
    clear hS3 hg3 L2 HP R2 G2
    go_wp2_with fail
    refine HRB.out.mono ?_
    rintro e4 w4 ⟨nm, xa, n, xc, ps, rfl, hbd, hb⟩
    have R4 := blk_call R3.out hb
    have r0 := zeroB R4
    have r1 := B6s1 R4
    have q0 := frozenOf R4 0
    have q1 := frozenOf R4 1
    have hlt := blk_lt R4
    have hne : w4.heap.size ≠ w.heap.size := by omega
    have HD := Lib.hid ((((hbd.set (o := 0) (.string nm) hz3).set (o := 1) (.slice xa n xc) hz3).below ((Below.refl _ _).alloc (Nat.le_refl _) (.cells #[.string nm, .slice xa n xc] 45))).base (Nat.le_of_lt hz3))
    have HF := Lib.hid (grown_alloc (grown_new (grown_new (grown_below G3.out hb) (p := ⟨w.heap.size, 0, none⟩) (Nat.le_refl _) (.string nm)) (p := ⟨w.heap.size, 1, none⟩) (Nat.le_refl _) (.slice xa n xc)) (.cells #[.string nm, .slice xa n xc] 45))
    clear hbd hb R4 R3 G3 hc3 HRB
    go_wp2
    refine bodyPost_ret (v := .agg #[.string nm, .slice xa n xc]) (by simp [results, Try.results77, go_sem, *]) rfl ?_
    exact ⟨nm, xa, n, xc, ps, rfl, HD.out, HF.out⟩
/-- A bond that has been drawn from bytes. -/
def GotBd (w : World) (e : Ending) (w' : World) : Prop := ∃ (nm : ByteArray) (a : Option Addr) (n cap : Nat) (ps : List (ByteArray × ByteArray)), e = .returned (.agg #[.string nm, .slice a n cap]) ∧ Bond w' nm a n cap ps ∧ Below w.heap.size w w'
set_option maxRecDepth 100000 in
set_option maxHeartbeats 2000000 in
theorem a2Bond_any (a : Option Addr) (len cap : Nat) (zs : List Int) (w : World) (h : IsRow .u8 w a len cap zs) :
    Calls Try.prog 27 #[.slice a len cap] w (GotBd w) := by
  obtain ⟨W0, hW0⟩ : ∃ W0, w.alloc (.cells #[.string ⟨#[]⟩, .slice none 0 0] 45) = W0 := ⟨_, rfl⟩
  have HB0 : Hid (Below w.heap.size w W0) := Lib.hid (by rw [← hW0]; exact (by repeat (first | exact Below.refl _ _ | assumption | refine Below.drew ?_ | refine below_drewN ?_ _ | refine Below.alloc ?_ (by first | omega | (simp; done) | (simp; omega)) _ | refine Below.setCell ?_ (by first | omega | (simp; done) | (simp; omega)) _)))
  have R0 : Hid (W0.heap[w.heap.size]? = some (.cells #[.string ⟨#[]⟩, .slice none 0 0] 45 (0, 0))) := Lib.hid (by rw [← hW0]; exact blk_new _ _)
  have HD := Lib.hid (l04Draw_any W0.heap.size a len cap zs _ (src_new (h.below HB0.out)))
  have hz0 : w.heap.size < W0.heap.size := blk_lt R0.out
  have HW0 := Lib.hid hW0
  clear h hW0
  go_enter Try.func27, Try.ntmps27
  go_wp2_with fail
  rw [HW0.out]
  refine (l00From_any _ _ _ _).mono ?_
  rintro e1 w1 ⟨rfl, hw1⟩
  obtain ⟨W1, hW1⟩ : ∃ W1, W0.alloc (.cells #[.slice a len cap, .int .i64 0, .int .u64 0] 130) = W1 := ⟨_, rfl⟩
  rw [hW1] at hw1 HD
  subst hw1
  have R1 : Hid (W1.heap[w.heap.size]? = some (.cells #[.string ⟨#[]⟩, .slice none 0 0] 45 (0, 0))) := Lib.hid (by rw [← hW1]; exact blk_alloc R0.out)
  have HB1 : Hid (Below w.heap.size w W1) := Lib.hid (by rw [← hW1]; exact HB0.out.alloc HB0.out.size _)
  clear hW1
  go_wp2_with fail
  refine HD.out.mono ?_
  rintro e2 w2 ⟨nm, x, n, c, ps, rfl, hbd, hg⟩
  have R2 := blk_grown R1.out hg (by omega)
  have r0 := zeroB R2
  have r1 := B6s1 R2
  have q0 := frozenOf R2 0
  have q1 := frozenOf R2 1
  have hz1 : w.heap.size < W1.heap.size := blk_lt R1.out
  have HX := Lib.hid ((hbd.set (o := 0) (.string nm) hz1).set (o := 1) (.slice x n c) hz1).bond
  have HF := Lib.hid (((below_of_grown HB1.out hg (Nat.le_of_lt hz0)).setCell (p := ⟨w.heap.size, 0, none⟩) (Nat.le_refl _) (.string nm)).setCell (p := ⟨w.heap.size, 1, none⟩) (Nat.le_refl _) (.slice x n c))
  clear hbd hg R2 R1 HB1 HD HW0 R0 HB0
  go_wp2
  refine bodyPost_ret (v := .agg #[.string nm, .slice x n c]) (by simp [results, Try.results27, go_sem, *]) rfl ?_
  exact ⟨nm, x, n, c, ps, rfl, HX.out, HF.out⟩
end Go.Proofs.Ytklhaanapembdaa
