/- Contracts of the reference's drawing of blocks (l13Draw, A2Blocks): valid blocks come out, in new memory; condition: the bytes can be read. -/
import Derived.Deep.RegionLaw
import Derived.Deep.AppendLies
import Derived.OwnWalk
import Derived.Test.YtklhaanapembdaaM15
import Derived.Test.YtklhaanapembdaaBuild
import Derived.Test.YtklhaanapembdaaM02

namespace Go.Proofs.Ytklhaanapembdaa
set_option linter.unusedVariables false
open Go.RowKit

/-- The source stays behind a change to a block of the call's own. -/
theorem Src.own {w w' : World} {b B : Nat} {a : Option Addr} {len cap : Nat} {zs : List Int} {N : Int} {v : Value} (h : Src w b a len cap zs N) (hg : w.grownBy w' v.ownBlock) (hv : ∀ k, v.ownBlock = some k → B ≤ k) (hb : b < B) (ha : 0 < len → ∀ x, a = some x → x.block < B) : Src w' b a len cap zs N := by
  obtain ⟨hr, hne, i, sd, h0, h1, hbk⟩ := h
  refine ⟨?_, hne, i, sd, h0, h1, (hg.block b (blk_lt hbk) (fun e => by have := hv b e.symm; omega)).trans hbk⟩
  obtain ⟨g1, g2, g3, g4, g5⟩ := hr
  refine ⟨g1, g2, g3, g4, fun hl => ?_⟩
  obtain ⟨rb, o, hx, hlt, hc⟩ := g5 hl
  have hrb := ha hl _ hx
  simp at hrb
  refine ⟨rb, o, hx, Nat.lt_of_lt_of_le hlt hg.size, fun i n hi => ?_⟩
  have e : w'.heap[rb]? = w.heap[rb]? := hg.block rb hlt (fun e => by have := hv rb e.symm; omega)
  rw [← hc i n hi]
  unfold World.cell?
  simp only [e]
theorem grown_own {a w w' : World} {r : Option Nat} {v : Value} (h : a.grownBy w r) (hg : w.grownBy w' v.ownBlock) (hv : ∀ k, v.ownBlock = some k → a.heap.size ≤ k) : a.grownBy w' r :=
  ⟨hg.os.trans h.os, hg.tape.trans h.tape, hg.output.trans h.output, Nat.le_trans h.size hg.size, fun i hi hne => (hg.block i (Nat.lt_of_lt_of_le hi h.size) (fun e => by have := hv i e.symm; omega)).trans (h.block i hi hne)⟩
theorem grown_below {a w w' : World} {r : Option Nat} (h : a.grownBy w r) (hb : Below w.heap.size w w') : a.grownBy w' r :=
  ⟨hb.os.trans h.os, hb.tape.trans h.tape, hb.output.trans h.output, Nat.le_trans h.size hb.size, fun i hi hne => (hb.block i (Nat.lt_of_lt_of_le hi h.size)).trans (h.block i hi hne)⟩
theorem Src.below {w w' : World} {b : Nat} {a : Option Addr} {len cap : Nat} {zs : List Int} {N : Int} (h : Src w b a len cap zs N) (hb : Below w.heap.size w w') : Src w' b a len cap zs N := by
  obtain ⟨hr, hne, i, sd, h0, h1, hbk⟩ := h
  exact ⟨hr.below hb, hne, i, sd, h0, h1, blk_call hbk hb⟩
theorem own_src {w w' : World} {base size n : Nat} {e : TypeId} {v : Value} {xs : List Value} {b : Nat} (h : w.ownsRow base e size v n xs) (hg : w.grownBy w' (some b)) (hb : b < base) : w'.ownsRow base e size v n xs :=
  World.ownsRow.kept h hg (by
    rcases ho : v.ownBlock with _ | k
    · exact .inl rfl
    · exact .inr (by have := (World.ownsRow.lt h k ho).1; simp; omega))
theorem OwnI.src {w w' : World} {base b : Nat} {v : Value} {zs : List Int} (h : OwnI w base v zs) (hg : w.grownBy w' (some b)) (hb : b < base) : OwnI w' base v zs := own_src h hg hb
/-- What is built is as it was behind a draw. -/
theorem Build.src {W W' : World} {g b : Nat} {v0 v1 v2 : Value} {z0 z1 z2 : List Int} (h : Build W g v0 v1 v2 z0 z1 z2) (hg : W.grownBy W' (some b)) (hb : b < g) : Build W' g v0 v1 v2 z0 z1 z2 :=
  ⟨blk_grown h.blk hg (by omega), h.o0.src hg (by omega), h.o1.src hg (by omega), h.o2.src hg (by omega), h.a01, h.a02, h.a12⟩
theorem Src.drew {w : World} {b : Nat} {a : Option Addr} {len cap : Nat} {zs : List Int} {N : Int} (h : Src w b a len cap zs N) : Src w.drew b a len cap zs N := h.below (by repeat (first | exact Below.refl _ _ | assumption | refine Below.drew ?_ | refine below_drewN ?_ _ | refine Below.alloc ?_ (by first | omega | (simp; done) | (simp; omega)) _ | refine Below.setCell ?_ (by first | omega | (simp; done) | (simp; omega)) _))
theorem grown_setF {a w : World} {r : Option Nat} (h : a.grownBy w r) {g i : Nat} (hg : a.heap.size ≤ g) (u : Value) : a.grownBy (w.setCell ⟨g, i, none⟩ u) r := grown_new h (p := ⟨g, i, none⟩) hg u
theorem Src.setG {w : World} {b g i : Nat} {a : Option Addr} {len cap : Nat} {zs : List Int} {N : Int} (h : Src w b a len cap zs N) (hb : b < g) (ha : 0 < len → ∀ x, a = some x → x.block < g) (u : Value) : Src (w.setCell ⟨g, i, none⟩ u) b a len cap zs N :=
  h.setCell (p := ⟨g, i, none⟩) (by simp; omega) (fun h0 x hx => by have := ha h0 x hx; simp; omega) u
theorem snoc_all {p : Int → Prop} {l : List Int} {x : Int} (h : ∀ y ∈ l, p y) (hx : p x) : ∀ y ∈ l ++ [x], p y := fun y hy => by
  rcases List.mem_append.1 hy with h1 | h1
  · exact h y h1
  · rw [List.mem_singleton.1 h1]; exact hx
/-- The state of the drawing: what is built, the result's block, the source. -/
structure St (w W : World) (b : Nat) (a : Option Addr) (len cap : Nat) (zs : List Int) (N : Int) (v0 v1 v2 : Value) (z0 z1 z2 : List Int) : Prop where
  bd : Build W (w.heap.size + 1) v0 v1 v2 z0 z1 z2
  rs : W.heap[w.heap.size]? = some (.cells #[.slice none 0 0, .slice none 0 0, .slice none 0 0] 26 (0, 0))
  sr : Src W b a len cap zs N
  gr : w.grownBy W (some b)
theorem St.pick {w W W' : World} {b : Nat} {a : Option Addr} {len cap : Nat} {zs : List Int} {N N' : Int} {v0 v1 v2 : Value} {z0 z1 z2 : List Int} (h : St w W b a len cap zs N v0 v1 v2 z0 z1 z2) (hb : b < w.heap.size) (hs : Src W' b a len cap zs N') (hg : W.grownBy W' (some b)) : St w W' b a len cap zs N' v0 v1 v2 z0 z1 z2 :=
  ⟨h.bd.src hg (by omega), blk_grown h.rs hg (by omega), hs, grown_trans h.gr hg⟩
theorem St.drew {w W : World} {b : Nat} {a : Option Addr} {len cap : Nat} {zs : List Int} {N : Int} {v0 v1 v2 : Value} {z0 z1 z2 : List Int} (h : St w W b a len cap zs N v0 v1 v2 z0 z1 z2) : St w W.drew b a len cap zs N v0 v1 v2 z0 z1 z2 :=
  ⟨h.bd.drew, h.rs, h.sr.drew, grown_drew h.gr⟩
theorem St.app0 {w W W' : World} {b g' n cp H : Nat} {a : Option Addr} {len cap : Nat} {zs : List Int} {N : Int} {v0 v1 v2 : Value} {z0 z1 z2 : List Int} {x : Int} {o : Obj} (h : St w W b a len cap zs N v0 v1 v2 z0 z1 z2) (hb : b < w.heap.size) (ha : 0 < len → ∀ x, a = some x → x.block < w.heap.size) (hl : z0.length = n)
    (hown : W'.ownsRow (w.heap.size + 1 + 1) 2 1 (.slice (some ⟨g', 0, none⟩) (n + 1) cp) (n + 1) (z0.map (Value.int .i64) ++ [.int .i64 x])) (hg : (W.alloc o).grownBy W' v0.ownBlock) (hat : v0.ownBlock = some g' ∨ g' = H) (hH : (W.alloc o).heap.size = H) :
    St w (W'.setCell ⟨w.heap.size + 1, 0, none⟩ (.slice (some ⟨g', 0, none⟩) (n + 1) cp)) b a len cap zs N (.slice (some ⟨g', 0, none⟩) (n + 1) cp) v1 v2 (z0 ++ [x]) z1 z2 := by
  have hv : ∀ k, v0.ownBlock = some k → w.heap.size ≤ k := fun k e => by have := (h.bd.o0.lt k e).1; omega
  refine ⟨(h.bd.alloc o).app0 hl hown hg hat hH, blk_far (blk_own (blk_alloc h.rs) (h.bd.alloc o).o0 hg (by omega)) (p := ⟨w.heap.size + 1, 0, none⟩) (show w.heap.size ≠ w.heap.size + 1 by omega) _, ?_, ?_⟩
  · exact ((h.sr.alloc o).own hg hv hb ha).setG (by omega) (fun h0 x hx => Nat.lt_succ_of_lt (ha h0 x hx)) _
  · exact grown_setF (grown_own (grown_alloc h.gr o) hg hv) (Nat.le_succ _) _
theorem St.app1 {w W W' : World} {b g' n cp H : Nat} {a : Option Addr} {len cap : Nat} {zs : List Int} {N : Int} {v0 v1 v2 : Value} {z0 z1 z2 : List Int} {x : Int} {o : Obj} (h : St w W b a len cap zs N v0 v1 v2 z0 z1 z2) (hb : b < w.heap.size) (ha : 0 < len → ∀ x, a = some x → x.block < w.heap.size) (hl : z1.length = n)
    (hown : W'.ownsRow (w.heap.size + 1 + 1) 2 1 (.slice (some ⟨g', 0, none⟩) (n + 1) cp) (n + 1) (z1.map (Value.int .i64) ++ [.int .i64 x])) (hg : (W.alloc o).grownBy W' v1.ownBlock) (hat : v1.ownBlock = some g' ∨ g' = H) (hH : (W.alloc o).heap.size = H) :
    St w (W'.setCell ⟨w.heap.size + 1, 1, none⟩ (.slice (some ⟨g', 0, none⟩) (n + 1) cp)) b a len cap zs N v0 (.slice (some ⟨g', 0, none⟩) (n + 1) cp) v2 z0 (z1 ++ [x]) z2 := by
  have hv : ∀ k, v1.ownBlock = some k → w.heap.size ≤ k := fun k e => by have := (h.bd.o1.lt k e).1; omega
  refine ⟨(h.bd.alloc o).app1 hl hown hg hat hH, blk_far (blk_own (blk_alloc h.rs) (h.bd.alloc o).o1 hg (by omega)) (p := ⟨w.heap.size + 1, 1, none⟩) (show w.heap.size ≠ w.heap.size + 1 by omega) _, ?_, ?_⟩
  · exact ((h.sr.alloc o).own hg hv hb ha).setG (by omega) (fun h0 x hx => Nat.lt_succ_of_lt (ha h0 x hx)) _
  · exact grown_setF (grown_own (grown_alloc h.gr o) hg hv) (Nat.le_succ _) _
theorem St.app2 {w W W' : World} {b g' n cp H : Nat} {a : Option Addr} {len cap : Nat} {zs : List Int} {N : Int} {v0 v1 v2 : Value} {z0 z1 z2 : List Int} {x : Int} {o : Obj} (h : St w W b a len cap zs N v0 v1 v2 z0 z1 z2) (hb : b < w.heap.size) (ha : 0 < len → ∀ x, a = some x → x.block < w.heap.size) (hl : z2.length = n)
    (hown : W'.ownsRow (w.heap.size + 1 + 1) 2 1 (.slice (some ⟨g', 0, none⟩) (n + 1) cp) (n + 1) (z2.map (Value.int .i64) ++ [.int .i64 x])) (hg : (W.alloc o).grownBy W' v2.ownBlock) (hat : v2.ownBlock = some g' ∨ g' = H) (hH : (W.alloc o).heap.size = H) :
    St w (W'.setCell ⟨w.heap.size + 1, 2, none⟩ (.slice (some ⟨g', 0, none⟩) (n + 1) cp)) b a len cap zs N v0 v1 (.slice (some ⟨g', 0, none⟩) (n + 1) cp) z0 z1 (z2 ++ [x]) := by
  have hv : ∀ k, v2.ownBlock = some k → w.heap.size ≤ k := fun k e => by have := (h.bd.o2.lt k e).1; omega
  refine ⟨(h.bd.alloc o).app2 hl hown hg hat hH, blk_far (blk_own (blk_alloc h.rs) (h.bd.alloc o).o2 hg (by omega)) (p := ⟨w.heap.size + 1, 2, none⟩) (show w.heap.size ≠ w.heap.size + 1 by omega) _, ?_, ?_⟩
  · exact ((h.sr.alloc o).own hg hv hb ha).setG (by omega) (fun h0 x hx => Nat.lt_succ_of_lt (ha h0 x hx)) _
  · exact grown_setF (grown_own (grown_alloc h.gr o) hg hv) (Nat.le_succ _) _
/-- Few and small blocks. -/
def SmallB (ls lo hi : List Int) : Prop := ls.length ≤ 5 ∧ (∀ x ∈ ls, 1 ≤ x ∧ x ≤ 6) ∧ (∀ x ∈ lo, 0 ≤ x ∧ x ≤ 90) ∧ (∀ x ∈ hi, 0 ≤ x ∧ x ≤ 90)
/-- Drawn blocks. -/
def DrewB (w : World) (b : Nat) (e : Ending) (w' : World) : Prop := ∃ (a0 a1 a2 : Option Addr) (n0 c0 n1 c1 n2 c2 : Nat) (ls lo hi : List Int), e = .returned (.agg #[.slice a0 n0 c0, .slice a1 n1 c1, .slice a2 n2 c2]) ∧ blkB ls lo hi = true ∧ SmallB ls lo hi ∧ (OwnI w' w.heap.size (.slice a0 n0 c0) ls ∧ OwnI w' w.heap.size (.slice a1 n1 c1) lo ∧ OwnI w' w.heap.size (.slice a2 n2 c2) hi) ∧ w.grownBy w' (some b)
set_option maxRecDepth 100000 in
set_option maxHeartbeats 4000000 in
theorem l13Draw_any (b : Nat) (a : Option Addr) (len cap : Nat) (zs : List Int) (w : World) (h : Src w b a len cap zs 0) :
    Calls Try.prog 62 #[.pointer (some ⟨b, 0, none⟩)] w (DrewB w b) := by
  have hlt0 := h.lt
  have HRA := Lib.hid (fun h0 x hx => (h.row_ne h0 x hx).2)
  have H := Lib.hid h
  obtain ⟨i0, hi0', hi0, hi1, hi2⟩ := info_parts info_i64
  clear h
  go_enter Try.func62, Try.ntmps62
  go_wp2_with fail
  obtain ⟨W1, hW1⟩ : ∃ W1, (w.alloc (.cells #[.slice none 0 0, .slice none 0 0, .slice none 0 0] 26)).alloc (.cells #[.slice none 0 0, .slice none 0 0, .slice none 0 0] 26) = W1 := ⟨_, rfl⟩
  have HT1 : Hid (St w W1 b a len cap zs 0 (.slice none 0 0) (.slice none 0 0) (.slice none 0 0) [] [] []) := Lib.hid (by
    rw [← hW1]
    have := build_new (w.alloc (.cells #[.slice none 0 0, .slice none 0 0, .slice none 0 0] 26))
    exact ⟨by simpa using this, blk_alloc (blk_new _ _), (H.out.alloc _).alloc _, grown_alloc (grown_alloc (World.grownBy.refl _ _) _) _⟩)
  (try rw [hW1])
  clear hW1 H
  go_wp2_with fail
  refine (pick_any b a len cap zs 0 4 _ HT1.out.sr (by omega) (by omega) (by omega)).mono ?_
  rintro e1 w1 ⟨r1, rfl, lo1, hi1', hs1, hg1⟩
  obtain ⟨n, hn⟩ : ∃ n : Nat, 2 + r1 = (n : Int) := ⟨(2 + r1).toNat, by omega⟩
  have hn2 : 2 ≤ n := by omega
  have hn5 : n ≤ 5 := by omega
  have HT2 := Lib.hid (HT1.out.pick hlt0 hs1 hg1)
  clear HT1 hg1 hs1
  go_wp2_with fail
  (try rw [hn])
  clear hn lo1 hi1'
  go_loopw [5] (fun i wr => ∃ (k : Nat) (v0 : Value) (L : List Int), k ≤ n ∧ i = .int .i64 (k : Int) ∧ L.length = k ∧ (∀ x ∈ L, 1 ≤ x ∧ x ≤ 6) ∧ St w wr b a len cap zs (2 + 2 * k) v0 (.slice none 0 0) (.slice none 0 0) L [] []) (fun i _ => (n - intOf i).toNat)
  case atStart => exact ⟨0, _, [], by omega, rfl, rfl, (fun x hx => by cases hx), HT2.out⟩
  case round =>
    clear HT2
    obtain ⟨k, v0, L, hk, rfl, hL, hLp, hT⟩ := hrel
    obtain ⟨s0, s1, s2, sf⟩ := hT.bd.cells
    have HT := Lib.hid hT
    have HL := Lib.hid hL
    have HLp := Lib.hid hLp
    have hGz := hT.gr.size
    have hglt := blk_lt hT.bd.blk
    by_cases hlt : k < n
    · have hlt' : (k : Int) < (n : Int) := by omega
      have HPK := Lib.hid (fun W hW => pick_any b a len cap zs (2 + 2 * k) 6 W hW (by omega) (by omega) (by omega))
      clear hT hL hLp
      go_wp2_with fail
      go_region_law (first
        | (refine step_append_lies _ (by rfl) _ _ 24 (by rfl) (w.heap.size + 1 + 1) 2 i0 (.int .i64 0) 1 8 Try.underlying24 hi0' hi0 hi1 hi2 rfl (by decide) v0 k (L.map (Value.int .i64)) (by rfl) (World.ownsRow.alloc hOl3 _) ⟨w3.heap.size, 0, none⟩ 1 1 [.int .i64 (1 + r3)] (by rfl) rfl (cell_one_new _ _ _) (by simp [Value.oneCell']) (by decide) (by unfold maxLen; omega) (by omega) (by simp; omega) (w3.heap.size + 1) (by simp) ?_; intro g4 cap4 w4 hown4 hgrow4 hat4 hlt4; (have hblk4 := blk_own (hT3.bd.alloc _).blk (hT3.bd.alloc _).o0 hgrow4 (Nat.lt_succ_self _)); (have q4 := cellOf hblk4 0); (have qf4 := frozenOf hblk4 0); (simp at q4); clear hblk4)
        | (go_simp; go_at_call 78; refine (HPK.out _ HT.out.drew.sr).mono ?_; rintro e3 w3 ⟨r3, rfl, lo3, hi3, hs3, hg3⟩; (have hT3 := HT.out.drew.pick hlt0 hs3 hg3); (obtain ⟨p0, p1, p2, pf⟩ := hT3.bd.cells); (have p0' := keepA (o := .cells #[.int .i64 (1 + r3)] 2) p0); (have hOl3 := hT3.bd.o0); unfold OwnI at hOl3; rw [HL.out] at hOl3; have hz3 := hg3.size; simp at hz3; have j3 := IntWalk.i64_in (1 + r3) (by omega)))
      all_goals
        go_wp2
        have HTn := Lib.hid (hT3.app0 hlt0 HRA.out HL.out hown4 hgrow4 hat4 (by simp))
        have HLn := Lib.hid (snoc_all HLp.out (show 1 ≤ 1 + r3 ∧ 1 + r3 ≤ 6 by omega))
        clear hown4 hgrow4 hat4 hT3 hs3 hg3 hOl3
        go_roundw
        case rel => exact ⟨k + 1, _, _, by omega, by go_num, by simp [HL.out], HLn.out, by rw [show 2 + 2 * ((k + 1 : Nat) : Int) = 2 + 2 * (k : Int) + 2 by omega]; exact HTn.out⟩
        case measure => first | (simp [intOf]; done) | (simp [intOf]; omega)
    · obtain rfl : n = k := by omega
      have HTe := HT
      clear hT hL hLp s0 s1 s2 sf
      go_wp2_with fail
      refine (pick_any b a len cap zs _ 6 _ HTe.out.sr (by omega) (by omega) (by omega)).mono ?_
      rintro e5 w5 ⟨r5, rfl, lo5, hi5, hs5, hg5⟩
      have HT5 := Lib.hid (HTe.out.pick hlt0 hs5 hg5)
      clear hs5 hg5 HTe HT
      have j5 := IntWalk.i64_in (1 + r5) (by omega)
      go_wp2_with fail
      refine (pick_any b a len cap zs _ 4 _ HT5.out.sr (by omega) (by omega) (by omega)).mono ?_
      rintro e6 w6 ⟨r6, rfl, lo6, hi6, hs6, hg6⟩
      have HT6 := Lib.hid (HT5.out.pick hlt0 hs6 hg6)
      clear hs6 hg6 HT5 j5
      obtain ⟨N6, hN6⟩ : ∃ N6 : Int, 2 + 2 * (n : Int) + 2 + 2 = N6 := ⟨_, rfl⟩
      rw [hN6] at HT6
      have hN0 : 0 ≤ N6 ∧ N6 ≤ 100 := by omega
      clear hN6 hlt hGz hglt
      go_wp2_with fail
      go_loopw [8] (fun i wr => ∃ (k : Nat) (v1 v2 : Value) (LO HI : List Int), k ≤ n + 1 ∧ i = .int .i64 (k : Int) ∧ LO.length = k ∧ HI.length = k ∧ (∀ x ∈ LO, 0 ≤ x ∧ x ≤ 90) ∧ (∀ x ∈ HI, 0 ≤ x ∧ x ≤ 90) ∧ (∀ i, i < k → LO.getD i 0 ≤ HI.getD i 0) ∧ St w wr b a len cap zs (N6 + 4 * k) v0 v1 v2 L LO HI) (fun i _ => (n + 1 - intOf i).toNat)
      case atStart => exact ⟨0, _, _, [], [], by omega, rfl, rfl, rfl, (fun x hx => by cases hx), (fun x hx => by cases hx), (fun i hi => by omega), by simpa using HT6.out⟩
      case round =>
        clear HT6
        obtain ⟨k, v1, v2, LO, HI, hk, rfl, hLO, hHI, hLOb, hHIb, hLE, hT⟩ := hrel
        have HT := Lib.hid hT
        have HLO := Lib.hid hLO
        have HHI := Lib.hid hHI
        have HLOb := Lib.hid hLOb
        have HHIb := Lib.hid hHIb
        have HLE := Lib.hid hLE
        have hGz := hT.gr.size
        have hglt := blk_lt hT.bd.blk
        by_cases hlt : k ≤ n
        · have hlt' : (k : Int) ≤ (n : Int) := by omega
          have HPK := Lib.hid (fun W hW => pick_any b a len cap zs (N6 + 4 * k) 3 W hW (by omega) (by omega) (by omega))
          clear hT hLO hHI hLOb hHIb hLE
          obtain ⟨m1, m2⟩ := mul_bd (a := r6) (b := (k : Int)) (A := 3) (B := 5) (by omega) (by omega) (by omega) (by omega)
          obtain ⟨m3, m4⟩ := mul_bd (a := r6 * (k : Int)) (b := (n : Int) - (k : Int)) (A := 15) (B := 5) (by omega) (by omega) (by omega) (by omega)
          have y1 := IntWalk.i64_in (r6 * (k : Int)) (by omega)
          have y2 := IntWalk.i64_in ((n : Int) - (k : Int)) (by omega)
          have y3 := IntWalk.i64_in (r6 * (k : Int) * ((n : Int) - (k : Int))) (by omega)
          go_wp2_with fail
          refine (HPK.out _ HT.out.sr).mono ?_
          rintro e3 w3 ⟨r3, rfl, lo3, hi3, hs3, hg3⟩
          have hT3 := HT.out.pick hlt0 hs3 hg3
          obtain ⟨low, hlow⟩ : ∃ low : Int, r6 * (k : Int) * ((n : Int) - (k : Int)) + r3 = low := ⟨_, rfl⟩
          have hlo : 0 ≤ low ∧ low ≤ 80 := by omega
          have y4 : IntKind.i64.wrap (r6 * (k : Int) * ((n : Int) - (k : Int)) + r3) = low := by rw [hlow]; exact IntWalk.i64_in _ (by omega)
          obtain ⟨p0, p1, p2, pf⟩ := hT3.bd.cells
          have hOl3 := hT3.bd.o1
          unfold OwnI at hOl3
          rw [HLO.out] at hOl3
          have hz3 := hg3.size
          clear hlow hs3 hg3
          have HPK7 := Lib.hid (fun W hW => pick_any b a len cap zs (N6 + 4 * k + 2) (1 + r5 + 1) W hW (by omega) (by omega) (by omega))
          have y5 := IntWalk.i64_in (1 + r5 + 1) (by omega)
          have HT3 := Lib.hid hT3
          go_wp2_with (at_builtin; refine wpList_append_lies _ (by rfl) _ _ 24 (by rfl) (w.heap.size + 1 + 1) 2 i0 (.int .i64 0) 1 8 Try.underlying24 hi0' hi0 hi1 hi2 rfl (by decide) v1 k (LO.map (Value.int .i64)) (by rfl) (World.ownsRow.alloc hOl3 _) ⟨w3.heap.size, 0, none⟩ 1 1 [.int .i64 low] (by rfl) rfl (cell_one_new _ _ _) (by simp [Value.oneCell']) (by decide) (by unfold maxLen; omega) (by omega) (by simp; omega) (w3.heap.size + 1) (by simp) ?_; intro g4 cap4 w4 hown4 hgrow4 hat4 hlt4; (have hblk4 := blk_own (hT3.bd.alloc _).blk (hT3.bd.alloc _).o1 hgrow4 (Nat.lt_succ_self _)); (have q4 := cellOf hblk4 1); (have qf4 := frozenOf hblk4 1); (simp at q4); clear hblk4)
          have hT4 := HT3.out.app1 hlt0 HRA.out HLO.out hown4 hgrow4 hat4 (by simp)
          obtain ⟨W4, hW4⟩ : ∃ W4, w4.setCell ⟨w.heap.size + 1, 1, none⟩ (.slice (some ⟨g4, 0, none⟩) (k + 1) cap4) = W4 := ⟨_, rfl⟩
          rw [hW4] at hT4
          (try rw [hW4])
          have HT4 := Lib.hid hT4
          obtain ⟨t0, t1, t2, tf⟩ := hT4.bd.cells
          have hglt4 := blk_lt hT4.bd.blk
          clear hown4 hgrow4 hat4 hlt4 q4 qf4 hW4 hT4 hT3 HT3 hOl3 p0 p1 p2 pf hz3 HPK HT y1 y2 y3 y4 m1 m2 m3 m4
          go_wp2_with fail
          go_region_law (first
            | (refine step_append_lies _ (by rfl) _ _ 24 (by rfl) (w.heap.size + 1 + 1) 2 i0 (.int .i64 0) 1 8 Try.underlying24 hi0' hi0 hi1 hi2 rfl (by decide) v2 k (HI.map (Value.int .i64)) (by rfl) (World.ownsRow.alloc hOl7 _) ⟨w7.heap.size, 0, none⟩ 1 1 [.int .i64 (low + r7)] (by rfl) rfl (cell_one_new _ _ _) (by simp [Value.oneCell']) (by decide) (by unfold maxLen; omega) (by omega) (by simp; omega) (w7.heap.size + 1) (by simp) ?_; intro g8 cap8 w8 hown8 hgrow8 hat8 hlt8; (have hblk8 := blk_own (hT7.bd.alloc _).blk (hT7.bd.alloc _).o2 hgrow8 (Nat.lt_succ_self _)); (have q8 := cellOf hblk8 2); (have qf8 := frozenOf hblk8 2); (simp at q8); clear hblk8)
            | (go_simp; go_at_call 78; refine (HPK7.out _ HT4.out.drew.sr).mono ?_; rintro e7 w7 ⟨r7, rfl, lo7, hi7, hs7, hg7⟩; (have hT7 := HT4.out.drew.pick hlt0 hs7 hg7); (obtain ⟨p0, p1, p2, pf⟩ := hT7.bd.cells); (have p2' := keepA (o := .cells #[.int .i64 (low + r7)] 2) p2); (have hOl7 := hT7.bd.o2); unfold OwnI at hOl7; rw [HHI.out] at hOl7; have hz7 := hg7.size; simp at hz7; have j7 := IntWalk.i64_in (low + r7) (by omega)))
          all_goals
            go_wp2
            have HTn := Lib.hid (hT7.app2 hlt0 HRA.out HHI.out hown8 hgrow8 hat8 (by simp))
            have HLn := Lib.hid (snoc_all HLOb.out (show 0 ≤ low ∧ low ≤ 90 by omega))
            have HHn := Lib.hid (snoc_all HHIb.out (show 0 ≤ low + r7 ∧ low + r7 ≤ 90 by omega))
            have HEn : Hid (∀ i, i < k + 1 → (LO ++ [low]).getD i 0 ≤ (HI ++ [low + r7]).getD i 0) := Lib.hid (fun i hi => by
              by_cases e : i = k
              · subst e
                have e1 : (LO ++ [low]).getD i 0 = low := by rw [List.getD_eq_getElem?_getD, List.getElem?_append_right (by rw [HLO.out]; omega), HLO.out, Nat.sub_self]; rfl
                have e2 : (HI ++ [low + r7]).getD i 0 = low + r7 := by rw [List.getD_eq_getElem?_getD, List.getElem?_append_right (by rw [HHI.out]; omega), HHI.out, Nat.sub_self]; rfl
                rw [e1, e2]; omega
              · have e1 : (LO ++ [low]).getD i 0 = LO.getD i 0 := by rw [List.getD_eq_getElem?_getD, List.getElem?_append_left (by rw [HLO.out]; omega), List.getD_eq_getElem?_getD]
                have e2 : (HI ++ [low + r7]).getD i 0 = HI.getD i 0 := by rw [List.getD_eq_getElem?_getD, List.getElem?_append_left (by rw [HHI.out]; omega), List.getD_eq_getElem?_getD]
                rw [e1, e2]; exact HLE.out i (by omega))
            clear hown8 hgrow8 hat8 hT7 hs7 hg7 hOl7
            go_roundw
            case rel => exact ⟨k + 1, _, _, _, _, by omega, by go_num, by simp [HLO.out], by simp [HHI.out], HLn.out, HHn.out, HEn.out, by rw [show N6 + 4 * ((k + 1 : Nat) : Int) = N6 + 4 * (k : Int) + 2 + 2 by omega]; exact HTn.out⟩
            case measure => first | (simp [intOf]; done) | (simp [intOf]; omega)
        · have HB : Hid (blkB L LO HI = true) := Lib.hid (by
            have e1 := HL.out
            have e2 := HLO.out
            have e3 := HHI.out
            have hall : ∀ (l : List Int) (lo hi u v : Int), (∀ x ∈ l, u ≤ x ∧ x ≤ v) → lo ≤ u → v ≤ hi → insB l lo hi = true := fun l lo hi u v h hu hv => insB_mk fun i hi' => (fun q => ⟨Int.le_trans hu q.1, Int.le_trans q.2 hv⟩) (h _ (by rw [List.getD_eq_getElem?_getD, List.getElem?_eq_getElem hi']; exact List.getElem_mem hi'))
            unfold blkB
            rw [hall _ _ _ _ _ HLp.out (by omega) (by omega), hall _ _ _ _ _ HLOb.out (by omega) (by omega), hall _ _ _ _ _ HHIb.out (by omega) (by omega), inB_mk ⟨by omega, by omega⟩, leB_mk (fun i hi => HLE.out i (by omega)), decide_eq_true (show LO.length = L.length + 1 by omega), decide_eq_true (show HI.length = L.length + 1 by omega)]
            rfl)
          have hlt' : ¬ (k : Int) ≤ (n : Int) := by omega
          obtain ⟨x0, c0, e0⟩ := hT.bd.o0.shape
          obtain ⟨x1, c1, e1⟩ := hT.bd.o1.shape
          obtain ⟨x2, c2, e2⟩ := hT.bd.o2.shape
          subst e0 e1 e2
          have HT9 := Lib.hid (((hT.bd.setFar (Nat.lt_succ_self _) 0 (.slice x0 L.length c0)).setFar (Nat.lt_succ_self _) 1 (.slice x1 LO.length c1)).setFar (Nat.lt_succ_self _) 2 (.slice x2 HI.length c2))
          have HG9 := Lib.hid (grown_setF (grown_setF (grown_setF hT.gr (g := w.heap.size) (i := 0) (Nat.le_refl _) (.slice x0 L.length c0)) (g := w.heap.size) (i := 1) (Nat.le_refl _) (.slice x1 LO.length c1)) (g := w.heap.size) (i := 2) (Nat.le_refl _) (.slice x2 HI.length c2))
          have r0 := cellOf hT.rs 0
          have r1 := cellOf hT.rs 1
          have r2 := cellOf hT.rs 2
          have rf := frozenOf hT.rs
          obtain ⟨t0, t1, t2, tf⟩ := hT.bd.cells
          simp at r0 r1 r2
          clear hT hLO hHI hLOb hHIb hLE
          go_wp2
          refine bodyPost_ret (v := .agg #[.slice x0 L.length c0, .slice x1 LO.length c1, .slice x2 HI.length c2]) (by simp [results, Try.results62, go_sem, *]) rfl
            ⟨x0, x1, x2, _, c0, _, c1, _, c2, L, LO, HI, rfl, HB.out, ⟨by have := HL.out; omega, HLp.out, HLOb.out, HHIb.out⟩, ⟨HT9.out.o0.base (by omega), HT9.out.o1.base (by omega), HT9.out.o2.base (by omega)⟩, HG9.out⟩
/-- Drawn blocks, in new memory. -/
def NewBl (w : World) (e : Ending) (w' : World) : Prop := ∃ (a0 a1 a2 : Option Addr) (n0 c0 n1 c1 n2 c2 : Nat) (ls lo hi : List Int), e = .returned (.agg #[.slice a0 n0 c0, .slice a1 n1 c1, .slice a2 n2 c2]) ∧ blkB ls lo hi = true ∧ SmallB ls lo hi ∧ IsB a0 a1 a2 n0 c0 n1 c1 n2 c2 ls lo hi w' ∧ Below w.heap.size w w'
set_option maxHeartbeats 1000000 in
theorem a2Blocks_any (a : Option Addr) (len cap : Nat) (zs : List Int) (w : World) (h : IsRow .u8 w a len cap zs) :
    Calls Try.prog 18 #[.slice a len cap] w (NewBl w) := by
  have H := Lib.hid h
  clear h
  go_enter Try.func18, Try.ntmps18
  go_wp2_with fail
  refine (l00From_any _ _ _ _).mono ?_
  rintro e1 w1 ⟨rfl, rfl⟩
  go_wp2_with fail
  refine (l13Draw_any _ _ _ _ zs _ (src_new' (H.out.below (by repeat (first | exact Below.refl _ _ | assumption | refine Below.drew ?_ | refine below_drewN ?_ _ | refine Below.alloc ?_ (by first | omega | (simp; done) | (simp; omega)) _ | refine Below.setCell ?_ (by first | omega | (simp; done) | (simp; omega)) _))) (by simp))).mono ?_
  rintro e2 w2 ⟨a0, a1, a2, n0, c0, n1, c1, n2, c2, ls, lo, hi, rfl, hb, hsm, ⟨o0, o1, o2⟩, hg⟩
  have HR := Lib.hid (blk_grown (blk_alloc (blk_new w _)) hg (by simp))
  have p0 := cellOf HR.out 0
  have p1 := cellOf HR.out 1
  have p2 := cellOf HR.out 2
  have pf := frozenOf HR.out
  simp at p0 p1 p2
  have ha : Below w.heap.size w w2 := below_of_grown (((Below.refl _ _).alloc (Nat.le_refl _) _).alloc (by simp) _) hg (by simp)
  have hz : w.heap.size < w2.heap.size := blk_lt HR.out
  replace o0 := o0.base (b' := w.heap.size + 1) (by simp)
  replace o1 := o1.base (b' := w.heap.size + 1) (by simp)
  replace o2 := o2.base (b' := w.heap.size + 1) (by simp)
  have HO : Hid (∀ x y z : Value, IsB a0 a1 a2 n0 c0 n1 c1 n2 c2 ls lo hi (((w2.setCell ⟨w.heap.size, 0, none⟩ x).setCell ⟨w.heap.size, 1, none⟩ y).setCell ⟨w.heap.size, 2, none⟩ z)) := Lib.hid (fun x y z =>
    ⟨(((o0.setFar (Nat.lt_succ_self _) 0 x).setFar (Nat.lt_succ_self _) 1 y).setFar (Nat.lt_succ_self _) 2 z).row, (((o1.setFar (Nat.lt_succ_self _) 0 x).setFar (Nat.lt_succ_self _) 1 y).setFar (Nat.lt_succ_self _) 2 z).row, (((o2.setFar (Nat.lt_succ_self _) 0 x).setFar (Nat.lt_succ_self _) 1 y).setFar (Nat.lt_succ_self _) 2 z).row⟩)
  have HB := Lib.hid hb
  have HSM := Lib.hid hsm
  clear hg hb hsm o0 o1 o2
  go_wp2
  refine bodyPost_ret (v := .agg #[.slice a0 n0 c0, .slice a1 n1 c1, .slice a2 n2 c2]) (by simp [results, Try.results18, go_sem, *]) rfl
    ⟨a0, a1, a2, _, c0, _, c1, _, c2, ls, lo, hi, rfl, HB.out, HSM.out, HO.out _ _ _, (by repeat (first | exact Below.refl _ _ | assumption | refine Below.drew ?_ | refine below_drewN ?_ _ | refine Below.alloc ?_ (by first | omega | (simp; done) | (simp; omega)) _ | refine Below.setCell ?_ (by first | omega | (simp; done) | (simp; omega)) _))⟩
end Go.Proofs.Ytklhaanapembdaa
