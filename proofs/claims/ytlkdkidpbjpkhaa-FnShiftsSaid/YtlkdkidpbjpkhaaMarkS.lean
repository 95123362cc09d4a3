/- Contracts of the laws' markText, markStringS and heldStringS: what each call returns and which memory turns; condition: lengths that memory holds. -/
import Derived.Test.YtlkdkidpbjpkhaaOwnS
import Derived.Laws.IdiomStrings
namespace Go.Proofs.Ytlkdkidpbjpkhaa
open Go.RowKit

/-- The digits of a mark, at most f, ahead of out. -/
def mtF : Nat → Nat → ByteArray → ByteArray
  | 0, _, out => out
  | f + 1, k, out => if k = 0 then out else mtF f (k / 10) (⟨#[UInt8.ofNat (48 + k % 10)]⟩ ++ out)
theorem mtF_zero (f : Nat) (out : ByteArray) : mtF f 0 out = out := by cases f <;> simp [mtF]
theorem mtF_size (f k : Nat) (out : ByteArray) : (mtF f k out).size ≤ out.size + f := by
  induction f generalizing k out with
  | zero => simp [mtF]
  | succ f ih =>
    simp only [mtF]
    split
    · omega
    · have := ih (k / 10) (⟨#[UInt8.ofNat (48 + k % 10)]⟩ ++ out)
      have e : (ByteArray.mk #[UInt8.ofNat (48 + k % 10)] ++ out).size = 1 + out.size := by rw [ByteArray.size_append]; rfl
      omega
/-- A mark. -/
def mT (k : Nat) : ByteArray := if k = 0 then ⟨#[109, 48]⟩ else ⟨#[109]⟩ ++ mtF k k ByteArray.empty
theorem mT_size (k : Nat) : (mT k).size ≤ k + 2 := by
  unfold mT
  split
  · have : (ByteArray.mk #[109, 48]).size = 2 := rfl
    omega
  · have h := mtF_size k k ByteArray.empty
    have e : (ByteArray.mk #[109] ++ mtF k k ByteArray.empty).size = 1 + (mtF k k ByteArray.empty).size := by rw [ByteArray.size_append]; rfl
    have e2 : ByteArray.empty.size = 0 := rfl
    omega
theorem below_callB {B : Nat} {a W w1 : World} (h : Below B a W) (hW : B ≤ W.heap.size) (hb : Below W.heap.size W w1) : Below B a w1 := h.trans (hb.mono hW)
set_option maxRecDepth 100000 in
set_option maxHeartbeats 2000000 in
theorem markText_any (k : Nat) (w : World) (hk : k ≤ 2000000000) :
    Calls Try.prog 61 #[.int .i64 (k : Int)] w fun e w' => e = .returned (.string (mT k)) ∧ Below w.heap.size w w' := by
  by_cases h0 : k = 0
  · subst h0
    go_enter Try.func61, Try.ntmps61
    go_wp2
    go_ret
    exact ⟨rfl, (by repeat (first | exact Below.refl _ _ | assumption | refine Below.drew ?_ | refine below_drewN ?_ _ | refine Below.alloc ?_ (by first | omega | (simp; done) | (simp; omega)) _ | refine Below.setCell ?_ (by first | omega | (simp; done) | (simp; omega)) _))⟩
  · have hk0 : ¬ (k : Int) ≤ 0 := by omega
    have HM : Hid (mT k = ⟨#[109]⟩ ++ mtF k k ByteArray.empty) := Lib.hid (by unfold mT; rw [if_neg h0])
    clear h0
    rw [HM.out]
    go_enter Try.func61, Try.ntmps61
    go_wp2_with fail
    go_loopw [0, 3] (fun kv ov wr => ∃ (j f : Nat) (out : ByteArray), j ≤ f ∧ j ≤ k ∧ out.size + f = k ∧ kv = .int .i64 (j : Int) ∧ ov = .string out ∧ mtF f j out = mtF k k ByteArray.empty ∧ Below w.heap.size w wr) (fun kv _ _ => (intOf kv).toNat)
    case atStart => exact ⟨k, k, ByteArray.empty, Nat.le_refl _, Nat.le_refl _, by simp, rfl, rfl, rfl, (by repeat (first | exact Below.refl _ _ | assumption | refine Below.drew ?_ | refine below_drewN ?_ _ | refine Below.alloc ?_ (by first | omega | (simp; done) | (simp; omega)) _ | refine Below.setCell ?_ (by first | omega | (simp; done) | (simp; omega)) _))⟩
    case round =>
      obtain ⟨j, f, out, hj, hjk, hs, rfl, rfl, hm, hB⟩ := hrel
      by_cases hj0 : j = 0
      · subst hj0
        have HF : Hid (mtF k k ByteArray.empty = out) := Lib.hid (by rw [← hm, mtF_zero])
        have hsz : ¬ 9223372036854775807 < 1 + out.size := by omega
        have HB := Lib.hid hB
        clear hm hB
        go_wp2
        go_ret
        rw [HF.out]
        exact ⟨rfl, HB.out⟩
      · have hj1 : (0 : Int) < (j : Int) := by omega
        have HB := Lib.hid hB
        have hd1 : (j : Int).tmod 10 = ((j % 10 : Nat) : Int) := by rw [Int.tmod_eq_emod_of_nonneg (by omega)]; omega
        have hd2 : (j : Int).tdiv 10 = ((j / 10 : Nat) : Int) := by rw [Int.tdiv_eq_ediv_of_nonneg (by omega)]; omega
        obtain ⟨d, hd⟩ : ∃ d : Nat, j % 10 = d := ⟨_, rfl⟩
        obtain ⟨q, hq⟩ : ∃ q : Nat, j / 10 = q := ⟨_, rfl⟩
        rw [hd] at hd1
        rw [hq] at hd2
        have hd9 : d ≤ 9 := by omega
        have hqj : q < j := by omega
        have i1 := IntWalk.u8_in (48 + (d : Int)) (by omega)
        have HD := Lib.hid hd
        have HQ := Lib.hid hq
        clear hd hq hB
        have hcv : (convert 40 9 (.slice (some ⟨wr.heap.size, 0, none⟩) 1 1)).run Try.prog (wr.alloc (.cells #[.int .u8 (48 + (d : Int))] 5)) = .ok (.string ⟨#[UInt8.ofNat (48 + d)]⟩) (wr.alloc (.cells #[.int .u8 (48 + (d : Int))] 5)) :=
          run_convert_bytes_back _ 40 9 5 ⟨wr.heap.size, 0, none⟩ 1 [UInt8.ofNat (48 + d)] Try.underlying40 Try.underlying5 Try.underlying9 (fun j hj => by
            obtain rfl : j = 0 := by simpa using hj
            simp [Addr.add, cellOf (blk_new wr _)]; omega)
        obtain ⟨f', rfl⟩ : ∃ f', f = f' + 1 := ⟨f - 1, by omega⟩
        have HMN : Hid (mtF f' q (⟨#[UInt8.ofNat (48 + d)]⟩ ++ out) = mtF k k ByteArray.empty) := Lib.hid (by
          rw [← hm]
          show _ = (if j = 0 then out else mtF f' (j / 10) (⟨#[UInt8.ofNat (48 + j % 10)]⟩ ++ out))
          rw [if_neg hj0, HD.out, HQ.out])
        have hsz : ¬ 9223372036854775807 < 1 + out.size := by omega
        have HSN : Hid ((ByteArray.mk #[UInt8.ofNat (48 + d)] ++ out).size + f' = k) := Lib.hid (by rw [ByteArray.size_append]; show 1 + out.size + f' = k; omega)
        generalize UInt8.ofNat (48 + d) = u at *
        clear hm
        go_wp2
        go_roundw
        case rel => exact ⟨q, f', _, by omega, by omega, HSN.out, rfl, rfl, HMN.out, HB.out.alloc HB.out.size _⟩
        case measure => first | (simp [intOf]; done) | (simp [intOf]; omega)
/-- The marks of a slice. -/
def mTs (k0 : Nat) (n : Nat) : List ByteArray := (List.range n).map fun i => mT (k0 + i)
theorem mTs_len (k0 n : Nat) : (mTs k0 n).length = n := by simp [mTs]
theorem mTs_get (k0 n i : Nat) (h : i < n) : (mTs k0 n).getD i ByteArray.empty = mT (k0 + i) := by simp [mTs, List.getD_eq_getElem?_getD, h]
theorem mTs_step (k0 : Nat) (ss : List ByteArray) (k : Nat) (h : k < ss.length) : (mTs k0 k ++ ss.drop k).set k (mT (k0 + k)) = mTs k0 (k + 1) ++ ss.drop (k + 1) := by
  rw [List.set_append_right _ _ (by rw [mTs_len]; omega), mTs_len, Nat.sub_self, List.drop_eq_getElem_cons h, List.set_cons_zero]
  simp [mTs, List.range_succ]
theorem mTs_size (k0 n : Nat) (hk : k0 ≤ 1000000000) (hn : n ≤ 1000000000) : ∀ s ∈ mTs k0 n, s.size ≤ maxLen := by
  intro s hs
  obtain ⟨i, hi, rfl⟩ := List.mem_map.1 hs
  have := mT_size (k0 + i)
  simp at hi
  unfold maxLen; omega
set_option maxHeartbeats 2000000 in
theorem markStringS_any (base : Nat) (a : Option Addr) (n c : Nat) (ss : List ByteArray) (k0 : Nat) (w : World) (h : OwnS w base (.slice a n c) ss) (hss : ss.length = n) (hk1 : k0 ≤ 1000000000) (hn : n ≤ 1000000000) :
    Calls Try.prog 29 #[.slice a n c, .int .i64 (k0 : Int)] w fun e w' => e = .returned (.int .i64 ((k0 : Int) + n)) ∧ OwnS w' base (.slice a n c) (mTs k0 n) ∧ w.grownBy w' (Value.slice a n c).ownBlock := by
  have H := Lib.hid h
  have HL := Lib.hid hss
  clear h hss
  go_enter Try.func29, Try.ntmps29
  go_wp2
  go_loopw [1, 5] (fun m i wr => ∃ k : Nat, k ≤ n ∧ i = .int .i64 (k : Int) ∧ m = .int .i64 ((k0 : Int) + k) ∧ OwnS wr base (.slice a n c) (mTs k0 k ++ ss.drop k) ∧ w.grownBy wr (Value.slice a n c).ownBlock) (fun _ i _ => (n - intOf i).toNat)
  case atStart => exact ⟨0, by omega, rfl, by simp, H.out, World.grownBy.refl _ _⟩
  case round =>
    obtain ⟨k, hk, rfl, rfl, hO, hG⟩ := hrel
    have hlen : (mTs k0 k ++ ss.drop k).length = n := by rw [List.length_append, mTs_len, List.length_drop, HL.out]; omega
    by_cases hlt : k < n
    · have HG := Lib.hid hG
      have hGz := hG.size
      have hlt' : (k : Int) < (n : Int) := by omega
      have HMT := Lib.hid (fun W => markText_any (k0 + k) W (by omega))
      have HKK : Hid (((k0 + k : Nat) : Int) = (k0 : Int) + (k : Int)) := Lib.hid (by omega)
      rw [HKK.out] at HMT
      have HM := Lib.hid (mTs_step k0 ss k (by rw [HL.out]; exact hlt))
      rcases hO.2 with ⟨_, hz⟩ | ⟨g, cap, cur, hv, hb, hh, hrest⟩
      · omega
      · injection hv with h1 h2 h3
        subst h1 h3
        have he : ((mTs k0 k ++ ss.drop k).map Value.string)[k]? = some (Value.string (ss.getD k ByteArray.empty)) := by
          rw [List.getElem?_map, List.getElem?_append_right (by rw [mTs_len]; omega), mTs_len, Nat.sub_self]
          simp [List.getD_eq_getElem?_getD, List.getElem?_drop, show k < ss.length by rw [HL.out]; exact hlt]
        have HO := Lib.hid hO
        have hglt := blk_lt hh
        clear hO hG hh h2 hrest
        go_wp2_with fail
        refine (HMT.out _).mono ?_
        rintro e w1 ⟨rfl, hb1⟩
        have hz1 := hb1.size
        have hO1 := HO.out.below hb1
        have HG1 : Hid (w.grownBy w1 (some g)) := Lib.hid ⟨hb1.os.trans HG.out.os, hb1.tape.trans HG.out.tape, hb1.output.trans HG.out.output, Nat.le_trans hGz hz1, fun i hi hne => (hb1.block i (Nat.lt_of_lt_of_le hi hGz)).trans (HG.out.block i hi hne)⟩
        have HO1 := Lib.hid hO1
        unfold OwnS at hO1
        rw [hlen] at hO1
        have hc := hO1.cellAt k (by omega)
        have hf := hO1.frozenAt k
        have hS := (hO1.stored k (.string (mT (k0 + k)))).1
        rw [← List.map_set, HM.out] at hS
        have HON := Lib.hid (ownS_of (by rw [List.length_append, mTs_len, List.length_drop, HL.out]; omega) hS)
        rw [he] at hc
        clear he hO1 hlen hb1 hS
        generalize mT (k0 + k) = x at *
        go_wp2
        go_roundw
        case rel =>
          refine ⟨k + 1, by omega, by go_num, by go_num, HON.out, ?_⟩
          exact ⟨HG1.out.os, HG1.out.tape, HG1.out.output, by simpa [World.setCell] using HG1.out.size, fun i hi hne => (Below.heap_setCell _ ⟨g, k, none⟩ _ i (fun e => hne (by rw [e]; rfl))).trans (HG1.out.block i hi hne)⟩
        case measure => first | (simp [intOf]; done) | (simp [intOf]; omega)
    · obtain rfl : k = n := by omega
      have HF : Hid (OwnS wr base (.slice a k c) (mTs k0 k)) := by
        have : ss.drop k = [] := by rw [← HL.out]; simp
        rw [this, List.append_nil] at hO
        exact hO
      have HG := Lib.hid hG
      clear hO hG hlen
      go_wp2
      go_ret
      exact ⟨rfl, HF.out, HG.out⟩
set_option maxHeartbeats 2000000 in
theorem heldStringS_any (a : Option Addr) (n c : Nat) (k0 : Nat) (w : World) (h : IsStrs w a n c (mTs k0 n)) (hk1 : k0 ≤ 1000000000) (hn : n ≤ 1000000000) :
    Calls Try.prog 30 #[.slice a n c, .int .i64 (k0 : Int)] w fun e w' => e = .returned (.int .i64 ((k0 : Int) + n)) ∧ Below w.heap.size w w' := by
  have H := Lib.hid h
  clear h
  go_enter Try.func30, Try.ntmps30
  go_wp2
  go_loopw [1, 5] (fun m i wr => ∃ k : Nat, k ≤ n ∧ i = .int .i64 (k : Int) ∧ m = .int .i64 ((k0 : Int) + k) ∧ Below w.heap.size w wr) (fun _ i _ => (n - intOf i).toNat)
  case atStart => exact ⟨0, by omega, rfl, by simp, Below.refl _ _⟩
  case round =>
    obtain ⟨k, hk, rfl, rfl, hB⟩ := hrel
    by_cases hlt : k < n
    · obtain ⟨b, o, rfl, hb, hc0⟩ := (H.out.below hB).cell hlt
      rw [mTs_get _ _ _ hlt] at hc0
      have hlt' : (k : Int) < (n : Int) := by omega
      have HMT := Lib.hid (fun W => markText_any (k0 + k) W (by omega))
      have HKK : Hid (((k0 + k : Nat) : Int) = (k0 : Int) + (k : Int)) := Lib.hid (by omega)
      rw [HKK.out] at HMT
      have hBz := hB.size
      have HB := Lib.hid hB
      clear hB
      generalize mT (k0 + k) = x at *
      have q9 : wr.drew.cell? ⟨b, o + k, none⟩ = some (.string x) := hc0
      go_wp2_with fail
      go_region_held3 (fun w' => w'.cell? ⟨b, o + k, none⟩ = some (.string x)) (first | (with_reducible assumption) | (with_reducible exact q9))
        ((go_at_call 61; (with_reducible refine (HMT.out _).mono ?_); rintro e wy ⟨rfl, hby⟩; have hS : wy.cell? ⟨b, o + k, none⟩ = some (.string x) := keep1 hby q9; have hBy : Below w.heap.size w wy := below_callB (HB.out.drew) (by first | omega | (simp; done) | (simp; omega)) hby))
      all_goals
        have HB2 := Lib.hid hBy
        clear q9 hS hc0
        go_wp2
        go_roundw
        case rel => exact ⟨k + 1, by omega, by go_num, by go_num, HB2.out⟩
        case measure => first | (simp [intOf]; done) | (simp [intOf]; omega)
    · obtain rfl : k = n := by omega
      go_wp2
      go_ret
      exact ⟨rfl, hB⟩
/-! ### In stretches of block numbers -/
/-- A slice of strings of the call's own that lies in [b, t), its strings no longer than memory holds. -/
def OwnTS (w : World) (b t : Nat) (v : Value) (ss : List ByteArray) : Prop := OwnS w b v ss ∧ (∀ g, v.ownBlock = some g → g < t) ∧ ∀ s ∈ ss, s.size ≤ maxLen
/-- Blocks outside [b, t) are as before. -/
def Outs (w w' : World) (b t : Nat) : Prop := w'.os = w.os ∧ w'.tape = w.tape ∧ w'.output = w.output ∧ w.heap.size ≤ w'.heap.size ∧ ∀ k, k < w.heap.size → (k < b ∨ t ≤ k) → w'.heap[k]? = w.heap[k]?
theorem Outs.size {w w' : World} {b t : Nat} (h : Outs w w' b t) : w.heap.size ≤ w'.heap.size := h.2.2.2.1
theorem below_outs {a w w' : World} {b t : Nat} (h : Below a.heap.size a w) (hb : a.heap.size ≤ b) (hO : Outs w w' b t) : Below a.heap.size a w' :=
  ⟨hO.1.trans h.os, hO.2.1.trans h.tape, hO.2.2.1.trans h.output, Nat.le_trans h.size hO.size, fun k hk => (hO.2.2.2.2 k (Nat.lt_of_lt_of_le hk h.size) (.inl (Nat.lt_of_lt_of_le hk hb))).trans (h.block k hk)⟩
theorem blk_outs {w w' : World} {g b t : Nat} {o : Obj} (h : w.heap[g]? = some o) (hO : Outs w w' b t) (hd : g < b ∨ t ≤ g) : w'.heap[g]? = some o := (hO.2.2.2.2 g (blk_lt h) hd).trans h
theorem ownS_lt {w : World} {b g : Nat} {v : Value} {ss : List ByteArray} (h : OwnS w b v ss) (e : v.ownBlock = some g) : b ≤ g ∧ g < w.heap.size := World.ownsRow.lt h g e
theorem OwnS.toT {w : World} {b : Nat} {v : Value} {ss : List ByteArray} (h : OwnS w b v ss) (hs : ∀ s ∈ ss, s.size ≤ maxLen) : OwnTS w b w.heap.size v ss := ⟨h, fun _ e => (ownS_lt h e).2, hs⟩
theorem OwnTS.below {w w' : World} {b t : Nat} {v : Value} {ss : List ByteArray} (h : OwnTS w b t v ss) (hb : Below w.heap.size w w') : OwnTS w' b t v ss := ⟨h.1.below hb, h.2⟩
theorem OwnTS.alloc {w : World} {b t : Nat} {v : Value} {ss : List ByteArray} (h : OwnTS w b t v ss) (o : Obj) : OwnTS (w.alloc o) b t v ss := ⟨h.1.alloc o, h.2⟩
theorem OwnTS.row {w : World} {b t : Nat} {a : Option Addr} {n c : Nat} {ss : List ByteArray} (h : OwnTS w b t (.slice a n c) ss) : IsStrs w a n c ss := h.1.row h.2.2
theorem OwnTS.base {w : World} {b b' t : Nat} {v : Value} {ss : List ByteArray} (h : OwnTS w b t v ss) (hb : b' ≤ b) : OwnTS w b' t v ss := ⟨h.1.base hb, h.2⟩
theorem OwnTS.outs {w w' : World} {b t b' t' : Nat} {v : Value} {ss : List ByteArray} (h : OwnTS w b t v ss) (hO : Outs w w' b' t') (hd : t ≤ b' ∨ t' ≤ b) : OwnTS w' b t v ss := by
  obtain ⟨⟨h1, h2⟩, h3, h4⟩ := h
  refine ⟨⟨h1, ?_⟩, h3, h4⟩
  rcases h2 with h2 | ⟨g, cap, cur, rfl, hb, hg, hr⟩
  · exact .inl h2
  · have := h3 g rfl
    exact .inr ⟨g, cap, cur, rfl, hb, blk_outs hg hO (by omega), hr⟩
theorem OwnTS.marked {w w' : World} {b t : Nat} {v : Value} {ss : List ByteArray} (h : OwnTS w b t v ss) (hG : w.grownBy w' v.ownBlock) : Outs w w' b t :=
  ⟨hG.os, hG.tape, hG.output, hG.size, fun k hk hd => hG.block k hk (fun e => by
    have h1 := (ownS_lt h.1 e.symm).1
    have h2 := h.2.1 k e.symm
    omega)⟩
theorem markTS (b t : Nat) (a : Option Addr) (n c : Nat) (ss : List ByteArray) (w : World) (h : OwnTS w b t (.slice a n c) ss) (hn : n ≤ 1000000000) :
    Calls Try.prog 29 #[.slice a n c, .int .i64 1] w fun e w' => e = .returned (.int .i64 (1 + n)) ∧ OwnTS w' b t (.slice a n c) (mTs 1 n) ∧ Outs w w' b t := by
  refine (markStringS_any b a n c ss 1 w h.1 h.row.1 (by omega) hn).mono ?_
  rintro e w' ⟨rfl, hO, hG⟩
  exact ⟨rfl, ⟨hO, h.2.1, mTs_size 1 n (by omega) hn⟩, h.marked hG⟩
theorem heldTS (a : Option Addr) (n c : Nat) (w : World) (h : IsStrs w a n c (mTs 1 n)) (hn : n ≤ 1000000000) :
    Calls Try.prog 30 #[.slice a n c, .int .i64 1] w fun e w' => e = .returned (.int .i64 (1 + n)) ∧ Below w.heap.size w w' := heldStringS_any a n c 1 w h (by omega) hn
theorem toTS (a : Option Addr) (len cap : Nat) (ss : List ByteArray) (w : World) (h : IsStrs w a len cap ss) (hlen : len ≤ 1048576) :
    Calls Try.prog 18 #[.slice a len cap] w fun e w' => ∃ x c, e = .returned (.slice x len c) ∧ OwnTS w' w.heap.size w'.heap.size (.slice x len c) ss ∧ Below w.heap.size w w' := by
  have hl := h.1
  have hs := h.2.2.2.1
  refine (toStringS_any a len cap ss w h hlen).mono ?_
  rintro e w' ⟨rfl, rfl⟩
  subst hl
  exact ⟨_, _, rfl, (ownS_made (blk_new _ _) (Nat.le_refl _) (by unfold maxLen; omega)).toT hs, (Below.refl _ _).alloc (Nat.le_refl _) _⟩
/-- A call that hands back a new slice of strings and a code. -/
def NewSC (w : World) (ss : List ByteArray) (code : Int) (e : Ending) (w' : World) : Prop :=
  ∃ a c, e = .returned (.tuple #[.slice a ss.length c, .int .i64 code]) ∧ OwnS w' w.heap.size (.slice a ss.length c) ss ∧ (∀ s ∈ ss, s.size ≤ maxLen) ∧ Below w.heap.size w w'
theorem newSC_mk {w w' : World} {v : Value} {ss : List ByteArray} {code : Int} (h : OwnS w' w.heap.size v ss) (hs : ∀ s ∈ ss, s.size ≤ maxLen) (hb : Below w.heap.size w w') : NewSC w ss code (.returned (.tuple #[v, .int .i64 code])) w' := by
  obtain ⟨a, c, rfl⟩ := h.shape
  exact ⟨a, c, rfl, h, hs, hb⟩
theorem NewSC.toldT {w w' : World} {ss : List ByteArray} {code : Int} {e : Ending} {n : Nat} (h : NewSC w ss code e w') (hn : ss.length = n) :
    ∃ a c, e = .returned (.tuple #[.slice a n c, .int .i64 code]) ∧ OwnTS w' w.heap.size w'.heap.size (.slice a n c) ss ∧ Below w.heap.size w w' := by
  subst hn
  obtain ⟨a, c, rfl, hO, hs, hB⟩ := h
  exact ⟨a, c, rfl, hO.toT hs, hB⟩
end Go.Proofs.Ytlkdkidpbjpkhaa
