/- Contracts of the reference's drawing of patterns (l04Some, l14Some, l14Draw, A2Pattern): some pattern comes out, in new memory; condition: the bytes can be read. -/
import Derived.Test.YtlkdkidpbjpkhaaDraw
import Derived.Test.YtlkdkidpbjpkhaaRepS
import Derived.Test.YtlkdkidpbjpkhaaOwnU
namespace Go.Proofs.Ytlkdkidpbjpkhaa
set_option linter.unusedVariables false
open Go.RowKit

/-- The source stays behind a change to a block of the call's own. -/
theorem Src.own {w w' : World} {b B : Nat} {a : Option Addr} {len cap : Nat} {zs : List Int} {N : Int} {v : Value} (h : Src w b a len cap zs N) (hg : w.grownBy w' v.ownBlock) (hv : ∀ k, v.ownBlock = some k → B ≤ k) (hb : b < B) (ha : 0 < len → ∀ x, a = some x → x.block < B) : Src w' b a len cap zs N := by
  obtain ⟨hr, hne, i, sd, h0, h1, hbk⟩ := h
  refine ⟨?_, hne, i, sd, h0, h1, (hg.block b (blk_lt hbk) (fun e => by have := hv b e.symm; omega)).trans hbk⟩
  obtain ⟨g1, g2, g3, g4, g5⟩ := hr
  refine ⟨g1, g2, g3, g4, fun hl => ?_⟩
  obtain ⟨rb, o, hx, hlt, hc⟩ := g5 hl
  have hrb := ha hl _ hx
  simp at hrb
  refine ⟨rb, o, hx, Nat.lt_of_lt_of_le hlt hg.size, fun i n hi => ?_⟩
  have e : w'.heap[rb]? = w.heap[rb]? := hg.block rb hlt (fun e => by have := hv rb e.symm; omega)
  rw [← hc i n hi]
  unfold World.cell?
  simp only [e]
theorem grown_own {a w w' : World} {r : Option Nat} {v : Value} (h : a.grownBy w r) (hg : w.grownBy w' v.ownBlock) (hv : ∀ k, v.ownBlock = some k → a.heap.size ≤ k) : a.grownBy w' r :=
  ⟨hg.os.trans h.os, hg.tape.trans h.tape, hg.output.trans h.output, Nat.le_trans h.size hg.size, fun i hi hne => (hg.block i (Nat.lt_of_lt_of_le hi h.size) (fun e => by have := hv i e.symm; omega)).trans (h.block i hi hne)⟩
theorem grown_below {a w w' : World} {r : Option Nat} (h : a.grownBy w r) (hb : Below w.heap.size w w') : a.grownBy w' r :=
  ⟨hb.os.trans h.os, hb.tape.trans h.tape, hb.output.trans h.output, Nat.le_trans h.size hb.size, fun i hi hne => (hb.block i (Nat.lt_of_lt_of_le hi h.size)).trans (h.block i hi hne)⟩
theorem Src.below {w w' : World} {b : Nat} {a : Option Addr} {len cap : Nat} {zs : List Int} {N : Int} (h : Src w b a len cap zs N) (hb : Below w.heap.size w w') : Src w' b a len cap zs N := by
  obtain ⟨hr, hne, i, sd, h0, h1, hbk⟩ := h
  exact ⟨hr.below hb, hne, i, sd, h0, h1, blk_call hbk hb⟩
theorem own_src {w w' : World} {base size n : Nat} {e : TypeId} {v : Value} {xs : List Value} {b : Nat} (h : w.ownsRow base e size v n xs) (hg : w.grownBy w' (some b)) (hb : b < base) : w'.ownsRow base e size v n xs :=
  World.ownsRow.kept h hg (by
    rcases ho : v.ownBlock with _ | k
    · exact .inl rfl
    · exact .inr (by have := (World.ownsRow.lt h k ho).1; simp; omega))
set_option maxRecDepth 100000 in
set_option maxHeartbeats 2000000 in
theorem l04Some_any (b : Nat) (a : Option Addr) (len cap : Nat) (zs : List Int) (N : Int) (s : ByteArray) (n : Nat) (w : World) (h : Src w b a len cap zs N) (hN0 : 0 ≤ N) (hN : N ≤ 10000) (hn1 : 1 ≤ n) (hn : n ≤ 1000) (hs1 : 1 ≤ s.size) (hs2 : s.size ≤ 200) (hsp : onlyB s = true) :
    Calls Try.prog 92 #[.pointer (some ⟨b, 0, none⟩), .string s, .int .i64 (n : Int)] w fun e w' => ∃ t : ByteArray, e = .returned (.string t) ∧ t.size = n ∧ onlyB t = true ∧ Src w' b a len cap zs (N + 2 * n) ∧ w.grownBy w' (some b) := by
  have hlt0 := h.lt
  have hra := fun h0 x hx => (h.row_ne h0 x hx).2
  have HRA := Lib.hid hra
  have HSP := Lib.hid (fun q (hq : q < s.size) => (byteAt s q hq ▸ onlyB_t hsp q hq : patC s[q] = true))
  have HSA := Lib.hid (h.alloc (.cells #[] 5))
  obtain ⟨j0, hj, hj0, hj1, hj2⟩ := info_parts info_u8
  clear h hra hsp
  go_enter Try.func92, Try.ntmps92
  go_wp2_with fail
  go_loopw [7, 8] (fun ls i wr => ∃ (k : Nat) (vl : Value) (L : List UInt8), k ≤ n ∧ vl = ls ∧ i = .int .i64 (k : Int) ∧ L.length = k ∧ (∀ c ∈ L, patC c = true) ∧ OwnU wr w.heap.size vl L ∧ Src wr b a len cap zs (N + 2 * k) ∧ w.grownBy wr (some b)) (fun _ i _ => (n - intOf i).toNat)
  case atStart => exact ⟨0, _, [], by omega, rfl, rfl, rfl, fun c hc => by (cases hc), ownU_empty _ _ (Nat.le_refl _), by simpa using HSA.out, grown_alloc (World.grownBy.refl _ _) _⟩
  case round =>
    obtain ⟨k, vl, L, hk, rfl, rfl, hL, hLp, hU, hS, hG⟩ := hrel
    by_cases hlk : k < n
    · have hlk' : (k : Int) < (n : Int) := by omega
      have HPK := Lib.hid (pick_any b a len cap zs (N + 2 * k) (s.size : Int) wr hS (by omega) (by omega) (by omega))
      have HL := Lib.hid hL
      have HLp := Lib.hid hLp
      have HU := Lib.hid hU
      have HG := Lib.hid hG
      have hGz := hG.size
      clear hS hL hLp hU hG
      go_wp2_with fail
      refine HPK.out.mono ?_
      rintro e w3 ⟨r, rfl, hr0, hr1, hS3, hG3⟩
      obtain ⟨q, rfl⟩ := Int.eq_ofNat_of_zero_le hr0
      have hq : q < s.size := by omega
      have hpc := HSP.out q hq
      have hG3z := hG3.size
      have hUl := own_src HU.out hG3 hlt0
      have HG4 := Lib.hid (grown_trans HG.out hG3)
      have HS4 := Lib.hid hS3
      rw [HL.out] at hUl
      have hbz : w.heap.size ≤ w3.heap.size := by omega
      generalize hcc : s[q] = cc at *
      have HPC := Lib.hid hpc
      clear hS3 hG3 hpc
      have hq' : (q : Int) < (s.size : Int) := by omega
      go_wp2_with (at_builtin; refine wpList_append_new _ rfl _ _ 40 rfl _ 5 j0 (.int .u8 0) 1 1 Try.underlying40 hj hj0 hj1 hj2 rfl (by decide) _ _ _ rfl (World.ownsRow.alloc hUl _) ⟨w3.heap.size, 0, none⟩ 1 1 [.int .u8 (cc.toNat : Int)] rfl rfl (cell_one_new _ _ _) (by simp [Value.oneCell']) (by unfold maxLen; omega) (by omega) (by first | omega | (simp; done) | (simp; omega)) (by decide) ?_; intro v' w1' hown1 hgrow1 hnew1)
      have hUn := OwnU.snoc hown1 (by rw [HL.out])
      have HUn := Lib.hid hUn
      have hvb : ∀ k, vl.ownBlock = some k → w.heap.size ≤ k := fun k e => (World.ownsRow.lt hUl k e).1
      have HSn := Lib.hid ((HS4.out.alloc (.cells #[.int .u8 (cc.toNat : Int)] 5)).own hgrow1 hvb hlt0 HRA.out)
      have HGn := Lib.hid (grown_own (grown_alloc HG4.out _) hgrow1 hvb)
      have HLn : Hid (∀ c ∈ L ++ [cc], patC c = true) := Lib.hid (fun c hc => by
        rcases List.mem_append.1 hc with h | h
        · exact HLp.out c h
        · rw [List.mem_singleton.1 h]; exact HPC.out)
      clear hown1 hgrow1 hnew1 hUn hUl hvb hcc
      go_wp2
      go_roundw
      case rel => exact ⟨k + 1, _, L ++ [cc], by omega, rfl, by go_num, by simp [HL.out], HLn.out, HUn.out, by rw [show N + 2 * ((k + 1 : Nat) : Int) = N + 2 * (k : Int) + 2 by omega]; exact HSn.out, HGn.out⟩
      case measure => first | (simp [intOf]; done) | (simp [intOf]; omega)
    · obtain rfl : k = n := by omega
      obtain ⟨aL, cL, rfl⟩ := hU.shape
      have hcv := hU.text (by omega)
      have HON : Hid (onlyB (⟨L.toArray⟩ : ByteArray) = true) := Lib.hid (onlyB_mk fun i hi => by
        have hi' : i < L.length := by simpa [ByteArray.size] using hi
        have e : (⟨L.toArray⟩ : ByteArray).data.toList.getD i 0 = L[i] := by simp [List.getD_eq_getElem?_getD, hi']
        rw [e]; exact hLp _ (List.getElem_mem hi'))
      have HSZ : Hid ((⟨L.toArray⟩ : ByteArray).size = k) := Lib.hid (by show L.toArray.size = k; rw [List.size_toArray]; exact hL)
      have HS := Lib.hid hS
      have HG := Lib.hid hG
      generalize (⟨L.toArray⟩ : ByteArray) = t at *
      rw [hL] at hcv ⊢
      clear hU hS hG hLp hL
      go_wp2
      go_ret
      exact ⟨t, rfl, HSZ.out, HON.out, HS.out, HG.out⟩
/-- Rows of one width make a pattern. -/
theorem patB_of {ss : List ByteArray} {m : Nat} (h1 : 1 ≤ ss.length) (h2 : ss.length ≤ 24) (m1 : 1 ≤ m) (m2 : m ≤ 24) (h : ∀ s ∈ ss, s.size = m ∧ onlyB s = true) : patB ss = true ∧ patN ss = m := by
  have hg : ∀ i, i < ss.length → (ss.getD i ByteArray.empty).size = m ∧ onlyB (ss.getD i ByteArray.empty) = true := fun i hi => by
    rw [List.getD_eq_getElem?_getD, List.getElem?_eq_getElem hi]
    exact h _ (List.getElem_mem hi)
  have hN : patN ss = m := (hg 0 (by omega)).1
  refine ⟨?_, hN⟩
  unfold patB
  rw [inB_mk ⟨by omega, by omega⟩, rowsB_mk fun k hk => ?_]
  · rfl
  · obtain ⟨g1, g2⟩ := hg k hk
    unfold rowB
    rw [hN, g1, g2, inB_mk ⟨by omega, by omega⟩]
    simp
theorem onlyB_all {s : ByteArray} (h : onlyB s = true) : ∀ c ∈ s.data.toList, patC c = true := fun c hc => by
  obtain ⟨i, hi, rfl⟩ := List.mem_iff_getElem.1 hc
  have := onlyB_t h i (by simpa using hi)
  rwa [List.getD_eq_getElem?_getD, List.getElem?_eq_getElem hi] at this
theorem onlyB_of {s : ByteArray} (h : ∀ c ∈ s.data.toList, patC c = true) : onlyB s = true := onlyB_mk fun i hi => by
  have hi' : i < s.data.toList.length := by simpa using hi
  rw [List.getD_eq_getElem?_getD, List.getElem?_eq_getElem hi']
  exact h _ (List.getElem_mem hi')
theorem repeatL_mem {l : List UInt8} {n : Nat} {c : UInt8} (h : c ∈ Lib.repeatL l n) : c ∈ l := by
  induction n with
  | zero => cases h
  | succ n ih =>
    rcases List.mem_append.1 h with h | h
    · exact h
    · exact ih h
theorem rpS_only {s : ByteArray} (h : onlyB s = true) (c : Nat) : onlyB (rpS c s) = true := onlyB_of fun x hx => onlyB_all h x (repeatL_mem (n := c) (by simpa [rpS] using hx))
theorem rpU_mem {ss : List ByteArray} {c k : Nat} {s : ByteArray} (h : s ∈ rpU ss c k) : ∃ t ∈ ss, s = rpS c t := by
  induction k with
  | zero => cases h
  | succ k ih =>
    rcases List.mem_append.1 h with h | h
    · exact ih h
    · obtain ⟨t, ht, rfl⟩ := List.mem_map.1 h
      exact ⟨t, ht, rfl⟩
set_option maxRecDepth 100000 in
set_option maxHeartbeats 2000000 in
theorem l14Some_any (b : Nat) (a : Option Addr) (len cap : Nat) (zs : List Int) (N : Int) (m n : Nat) (w : World) (h : Src w b a len cap zs N) (hN0 : 0 ≤ N) (hN : N ≤ 1000) (hm1 : 1 ≤ m) (hm2 : m ≤ 24) (hn1 : 1 ≤ n) (hn : n ≤ 24) :
    Calls Try.prog 81 #[.pointer (some ⟨b, 0, none⟩), .int .i64 (m : Int), .int .i64 (n : Int)] w fun e w' => ∃ (v : Value) (ss : List ByteArray) (M : Int), e = .returned v ∧ ss.length = n ∧ (∀ s ∈ ss, s.size = m ∧ onlyB s = true) ∧ OwnS w' w.heap.size v ss ∧ Src w' b a len cap zs M ∧ N ≤ M ∧ M ≤ N + 2000 ∧ w.grownBy w' (some b) := by
  have hlt0 := h.lt
  have hra := fun h0 x hx => (h.row_ne h0 x hx).2
  have HRA := Lib.hid hra
  have HSA := Lib.hid (h.alloc (.cells #[] 9))
  obtain ⟨i0, hi, hi0, hi1, hi2⟩ := info_parts info_str
  have hL3 : (ByteArray.mk #[35, 46, 46]).size = 3 := rfl
  have HSO := Lib.hid (fun M W (hS : Src W b a len cap zs M) (h0 : 0 ≤ M) (h1 : M ≤ 10000) => l04Some_any b a len cap zs M ⟨#[35, 46, 46]⟩ m W hS h0 h1 hm1 (by omega) (by decide) (by decide) (by decide))
  clear h hra hL3
  go_enter Try.func81, Try.ntmps81
  go_wp2_with fail
  go_loopw [7, 8] (fun os i wr => ∃ (k : Nat) (vo : Value) (P : List ByteArray) (M : Int), k ≤ n ∧ vo = os ∧ i = .int .i64 (k : Int) ∧ P.length = k ∧ (∀ s ∈ P, s.size = m ∧ onlyB s = true) ∧ OwnS wr w.heap.size vo P ∧ Src wr b a len cap zs M ∧ N ≤ M ∧ M ≤ N + 50 * k ∧ w.grownBy wr (some b)) (fun _ i _ => (n - intOf i).toNat)
  case atStart => exact ⟨0, _, [], N, by omega, rfl, rfl, rfl, fun c hc => by (cases hc), ownS_empty _ _ (Nat.le_refl _), HSA.out, by omega, by omega, grown_alloc (World.grownBy.refl _ _) _⟩
  case round =>
    obtain ⟨k, vo, P, M, hk, rfl, rfl, hL, hLp, hO, hS, hM1, hM2, hG⟩ := hrel
    by_cases hlk : k < n
    · have hlk' : (k : Int) < (n : Int) := by omega
      have HSOk := Lib.hid (HSO.out M wr hS (by omega) (by omega))
      have HL := Lib.hid hL
      have HLp := Lib.hid hLp
      have HO := Lib.hid hO
      have HG := Lib.hid hG
      have hGz := hG.size
      clear hS hL hLp hO hG
      go_wp2_with fail
      refine HSOk.out.mono ?_
      rintro e w3 ⟨t, rfl, ht1, ht2, hS3, hG3⟩
      have hG3z := hG3.size
      have hOl := own_src HO.out hG3 hlt0
      have HG4 := Lib.hid (grown_trans HG.out hG3)
      have HS4 := Lib.hid hS3
      rw [HL.out] at hOl
      have hbz : w.heap.size ≤ w3.heap.size := by omega
      have HT := Lib.hid (And.intro ht1 ht2)
      clear hS3 hG3 ht1 ht2
      go_wp2_with (at_builtin; refine wpList_append_new _ rfl _ _ 22 rfl _ 9 i0 (.string ByteArray.empty) 1 16 Try.underlying22 hi hi0 hi1 hi2 rfl (by decide) _ _ _ rfl (World.ownsRow.alloc hOl _) ⟨w3.heap.size, 0, none⟩ 1 1 [.string t] rfl rfl (cell_one_new _ _ _) (by simp [Value.oneCell']) (by unfold maxLen; omega) (by omega) (by first | omega | (simp; done) | (simp; omega)) (by decide) ?_; intro v' w1' hown1 hgrow1 hnew1)
      have hOn := OwnS.snoc hown1 (by rw [HL.out])
      have HOn := Lib.hid hOn
      have hvb : ∀ k, vo.ownBlock = some k → w.heap.size ≤ k := fun k e => (World.ownsRow.lt hOl k e).1
      have HSn := Lib.hid ((HS4.out.alloc (.cells #[.string t] 9)).own hgrow1 hvb hlt0 HRA.out)
      have HGn := Lib.hid (grown_own (grown_alloc HG4.out _) hgrow1 hvb)
      have HLn : Hid (∀ s ∈ P ++ [t], s.size = m ∧ onlyB s = true) := Lib.hid (fun s hs => by
        rcases List.mem_append.1 hs with h | h
        · exact HLp.out s h
        · rw [List.mem_singleton.1 h]; exact HT.out)
      clear hown1 hgrow1 hnew1 hOn hOl hvb
      go_wp2
      go_roundw
      case rel => exact ⟨k + 1, _, P ++ [t], _, by omega, rfl, by go_num, by simp [HL.out], HLn.out, HOn.out, HSn.out, by omega, by omega, HGn.out⟩
      case measure => first | (simp [intOf]; done) | (simp [intOf]; omega)
    · obtain rfl : k = n := by omega
      have HO := Lib.hid hO
      have HS := Lib.hid hS
      have HG := Lib.hid hG
      have HLp := Lib.hid hLp
      have HL := Lib.hid hL
      clear hO hS hG hLp hL
      go_wp2
      go_ret
      exact ⟨_, P, M, rfl, HL.out, HLp.out, HO.out, HS.out, by omega, by omega, HG.out⟩
set_option maxRecDepth 100000 in
set_option maxHeartbeats 2000000 in
theorem one_any (b : Nat) (a : Option Addr) (len cap : Nat) (zs : List Int) (N n : Int) (w : World) (h : Src w b a len cap zs N) (hN : N ≤ 1000000) (hn : 1 ≤ n) (hn' : n ≤ 1000000000) :
    Calls Try.prog 82 #[.pointer (some ⟨b, 0, none⟩), .int .i64 n] w fun e w' => ∃ x : Bool, e = .returned (.bool x) ∧ Src w' b a len cap zs (N + 2) ∧ w.grownBy w' (some b) := by
  have HP := Lib.hid (pick_any b a len cap zs N n w h hN hn hn')
  clear h
  go_enter Try.func82, Try.ntmps82
  go_wp2_with fail
  refine HP.out.mono ?_
  rintro e w3 ⟨r, rfl, hr0, hr1, hS3, hG3⟩
  go_wp2
  go_ret
  exact ⟨_, rfl, hS3, hG3⟩
/-- A drawn pattern. -/
def DrewP (w : World) (b : Nat) (e : Ending) (w' : World) : Prop := ∃ (v : Value) (ss : List ByteArray), e = .returned v ∧ patB ss = true ∧ OwnS w' w.heap.size v ss ∧ w.grownBy w' (some b)
set_option maxRecDepth 100000 in
set_option maxHeartbeats 2000000 in
theorem l14Draw_any (b : Nat) (a : Option Addr) (len cap : Nat) (zs : List Int) (w : World) (h : Src w b a len cap zs 0) :
    Calls Try.prog 67 #[.pointer (some ⟨b, 0, none⟩)] w (DrewP w b) := by
  have H1 := Lib.hid (pick_any b a len cap zs 0 4 w h (by omega) (by omega) (by omega))
  clear h
  go_enter Try.func67, Try.ntmps67
  go_wp2_with fail
  refine H1.out.mono ?_
  rintro e w1 ⟨r1, rfl, a1, a2, hS1, hG1⟩
  have H2 := Lib.hid (pick_any b a len cap zs _ 3 w1 hS1 (by omega) (by omega) (by omega))
  clear hS1
  go_wp2_with fail
  refine H2.out.mono ?_
  rintro e w2 ⟨r2, rfl, b1, b2, hS2, hG2⟩
  obtain ⟨m, hm⟩ : ∃ m : Nat, 1 + r1 = (m : Int) := ⟨(1 + r1).toNat, by omega⟩
  obtain ⟨n, hn⟩ : ∃ n : Nat, 1 + r2 = (n : Int) := ⟨(1 + r2).toNat, by omega⟩
  have H3 := Lib.hid (l14Some_any b a len cap zs _ m n w2 hS2 (by omega) (by omega) (by omega) (by omega) (by omega) (by omega))
  have HG2 := Lib.hid (grown_trans hG1 hG2)
  have hlt2 := hS2.lt
  have hz2 := HG2.out.size
  have hlt0 : b < w2.heap.size := hlt2
  have hmb : 1 ≤ m ∧ m ≤ 4 := by omega
  have hnb : 1 ≤ n ∧ n ≤ 3 := by omega
  clear hS2 hG1 hG2
  go_wp2_with fail
  refine H3.out.mono ?_
  rintro e w3 ⟨v3, ss, M, rfl, hl3, hp3, hO3, hS3, hM1, hM2, hG3⟩
  have H4 := Lib.hid (one_any b a len cap zs M 2 w3 hS3 (by omega) (by omega) (by omega))
  have HG3 := Lib.hid (grown_trans HG2.out hG3)
  have HO3 := Lib.hid hO3
  have HP3 := Lib.hid hp3
  have HL3 := Lib.hid hl3
  have HMM := Lib.hid (And.intro hM1 hM2)
  have hz3 := hG3.size
  clear hS3 hG3 hO3 hp3 hl3 hM1 hM2
  go_wp2_with fail
  refine H4.out.mono ?_
  rintro e w4 ⟨x, rfl, hS4, hG4⟩
  have HO4 := Lib.hid (own_src HO3.out hG4 hlt0)
  have HG4 := Lib.hid (grown_trans HG3.out hG4)
  have hz4 := hG4.size
  have HPB := Lib.hid (patB_of (ss := ss) (m := m) (by have := HL3.out; omega) (by have := HL3.out; omega) (by omega) (by omega) HP3.out)
  cases x
  · clear hS4 hG4
    go_wp2
    go_ret
    exact ⟨_, ss, rfl, HPB.out.1, OwnS.base HO4.out hz2, HG4.out⟩
  · have H5 := Lib.hid (pick_any b a len cap zs _ 3 w4 hS4 (by have := HMM.out; omega) (by omega) (by omega))
    clear hS4 hG4
    go_wp2_with fail
    refine H5.out.mono ?_
    rintro e w5 ⟨r5, rfl, c1, c2, hS5, hG5⟩
    have H6 := Lib.hid (pick_any b a len cap zs _ 3 w5 hS5 (by have := HMM.out; omega) (by omega) (by omega))
    have HO5 := Lib.hid (own_src HO4.out hG5 hlt0)
    have HG5 := Lib.hid (grown_trans HG4.out hG5)
    clear hS5 hG5
    go_wp2_with fail
    refine H6.out.mono ?_
    rintro e w6 ⟨r6, rfl, d1, d2, hS6, hG6⟩
    obtain ⟨A, hA⟩ : ∃ A : Nat, 1 + r5 = (A : Int) := ⟨(1 + r5).toNat, by omega⟩
    obtain ⟨U, hU⟩ : ∃ U : Nat, 1 + r6 = (U : Int) := ⟨(1 + r6).toNat, by omega⟩
    have hO6 : OwnS w6 w2.heap.size v3 ss := own_src HO5.out hG6 hlt0
    have HG6 := Lib.hid (grown_trans HG5.out hG6)
    obtain ⟨x3, c3, rfl⟩ := hO6.shape
    have hrow := hO6.row (fun s hs => by rw [(HP3.out s hs).1]; unfold maxLen; omega)
    have hAb : 1 ≤ A ∧ A ≤ 3 := by omega
    have hUb : 1 ≤ U ∧ U ≤ 3 := by omega
    have H7 := Lib.hid (l14Repeat_any x3 ss.length c3 ss A U w6 hrow (fun s hs => by rw [(HP3.out s hs).1]; omega) (by have := HL3.out; omega) (by omega) (by omega))
    have hz6 := HG6.out.size
    have HPR := Lib.hid (patB_of (ss := rpU ss A U) (m := A * m) (by rw [rpU_len]; exact Nat.mul_pos (by omega) (by have := HL3.out; omega)) (by rw [rpU_len]; exact Nat.le_trans (Nat.mul_le_mul hUb.2 (show ss.length ≤ 3 by have := HL3.out; omega)) (by omega)) (Nat.mul_pos (by omega) (by omega)) (Nat.le_trans (Nat.mul_le_mul hAb.2 hmb.2) (by omega)) (fun s hs => by
      obtain ⟨t, ht, rfl⟩ := rpU_mem hs
      obtain ⟨g1, g2⟩ := HP3.out t ht
      exact ⟨by rw [rpS_size, g1], rpS_only g2 A⟩))
    clear hS6 hG6 hO6 hrow
    go_wp2_with fail
    refine H7.out.mono ?_
    rintro e w7 ⟨x7, c7, rfl, hO7, hb7⟩
    have HO7 := Lib.hid (OwnS.base hO7 hz6)
    have HG7 := Lib.hid (grown_below HG6.out hb7)
    clear hO7 hb7
    go_wp2
    go_ret
    exact ⟨_, rpU ss A U, rfl, HPR.out.1, HO7.out, HG7.out⟩
set_option maxHeartbeats 1000000 in
theorem a2Pattern_any (a : Option Addr) (len cap : Nat) (zs : List Int) (w : World) (h : IsRow .u8 w a len cap zs) :
    Calls Try.prog 42 #[.slice a len cap] w fun e w' => ∃ (x : Option Addr) (n c : Nat) (ss : List ByteArray), e = .returned (.slice x n c) ∧ patB ss = true ∧ IsStrs w' x n c ss ∧ Below w.heap.size w w' := by
  have HS := Lib.hid (l14Draw_any w.heap.size a len cap zs _ (src_new h))
  clear h
  go_enter Try.func42, Try.ntmps42
  go_wp2_with fail
  refine (l00From_any _ _ _ _).mono ?_
  rintro e w1 ⟨rfl, rfl⟩
  go_wp2_with fail
  refine HS.out.mono ?_
  rintro e w2 ⟨v, ss, rfl, hp, hO, hG⟩
  obtain ⟨x, c, rfl⟩ := hO.shape
  have hR := hO.row (fun s hs => by have := pat_small hp s hs; unfold maxLen; omega)
  have hB : Below w.heap.size w w2 := below_of_grown ((Below.refl _ _).alloc (Nat.le_refl _) _) hG (Nat.le_refl _)
  have HP := Lib.hid hp
  have HR := Lib.hid hR
  clear hO hG hp hR
  go_wp2
  go_ret
  exact ⟨x, _, c, ss, rfl, HP.out, HR.out, hB⟩
end Go.Proofs.Ytlkdkidpbjpkhaa
