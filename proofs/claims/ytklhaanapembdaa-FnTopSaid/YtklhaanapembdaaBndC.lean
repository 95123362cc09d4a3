/- Contracts of the reference's l04Check, ReadBond and l04Library: a valid bond is read; condition: the text is one of a valid bond, at most 100 bytes long. -/
import Derived.Test.YtklhaanapembdaaM44
import Derived.Test.YtklhaanapembdaaDrawB

namespace Go.Proofs.Ytklhaanapembdaa
set_option linter.unusedVariables false
open Go.RowKit

theorem txt_parts {s : ByteArray} (h : txtB s = true) : s.size ≤ 100 ∧ namU ((spl s 32).getD 0 ByteArray.empty) = true ∧ 2 ≤ (spl s 32).length ∧ (spl s 32).length ≤ 9 ∧ ∀ k, 1 ≤ k → k < (spl s 32).length → wrdB ((spl s 32).getD k ByteArray.empty) = true := by
  simp only [txtB, Bool.and_eq_true, decide_eq_true_eq, List.all_eq_true] at h
  obtain ⟨h1, h2, h3, h4, h5⟩ := h
  refine ⟨h1, h2, h3, h4, fun k k1 k2 => h5 _ ?_⟩
  rw [List.getD_eq_getElem?_getD, List.getElem?_eq_getElem k2]
  refine List.mem_iff_getElem.2 ⟨k - 1, by simp; omega, ?_⟩
  simp only [List.getElem_drop]
  congr 1
  omega
theorem wrd_size {w : ByteArray} (h : wrdB w = true) : w.size ≤ 100 := (wrd_parts h).1
theorem IsStrs.grown {w w' : World} {a : Option Addr} {len cap b : Nat} {ss : List ByteArray} (h : IsStrs w a len cap ss) (hne : ∀ x, a = some x → x.block ≠ b) (hg : w.grownBy w' (some b)) : IsStrs w' a len cap ss := by
  obtain ⟨h1, h2, h3, h4, h5⟩ := h
  refine ⟨h1, h2, h3, h4, fun h0 => ?_⟩
  obtain ⟨rb, o, ha, hlt, hc⟩ := h5 h0
  exact ⟨rb, o, ha, Nat.lt_of_lt_of_le hlt hg.size, fun i n hi => hg.cell (hc i n hi) (fun e => hne _ ha (by injection e))⟩
theorem own_set {w : World} {base size n : Nat} {e : TypeId} {v : Value} {xs : List Value} (h : w.ownsRow base e size v n xs) {b o : Nat} (u : Value) (hne : v.ownBlock ≠ some b) : (w.setCell ⟨b, o, none⟩ u).ownsRow base e size v n xs :=
  World.ownsRow.kept h (grown_store (World.grownBy.refl _ _) o u) (.inr hne)
theorem own_ne {w : World} {base size n : Nat} {e : TypeId} {v : Value} {xs : List Value} (h : w.ownsRow base e size v n xs) {b : Nat} (hb : b < base) : v.ownBlock ≠ some b := fun e => by have := (World.ownsRow.lt h b e).1; omega
theorem B6s1 {w : World} {g : Nat} {t : TypeId} {x v : Value} (h : w.heap[g]? = some (.cells #[x, v] t (0, 0))) : w.cell? ⟨g, 1, none⟩ = some v := by rw [cellOf h]; rfl
theorem own_shape {w : World} {base size n : Nat} {e : TypeId} {v : Value} {xs : List Value} (h : w.ownsRow base e size v n xs) : ∃ a c, v = .slice a n c := by
  rcases h.2 with ⟨rfl, h0⟩ | ⟨g, cap, _, rfl, _⟩
  · exact ⟨none, 0, by rw [h0]⟩
  · exact ⟨_, _, rfl⟩
theorem own_base {w : World} {base base' size n : Nat} {e : TypeId} {v : Value} {xs : List Value} (h : w.ownsRow base e size v n xs) (hb : base' ≤ base) : w.ownsRow base' e size v n xs := by
  obtain ⟨h1, h2⟩ := h
  refine ⟨h1, ?_⟩
  rcases h2 with h2 | ⟨g, cap, cur, h3, h4, h5⟩
  · exact .inl h2
  · exact .inr ⟨g, cap, cur, h3, Nat.le_trans hb h4, h5⟩
/-- A valid bond, its courses in memory of the call's own. -/
structure OBond (w : World) (base : Nat) (nm : ByteArray) (v : Value) (ps : List (ByteArray × ByteArray)) : Prop where
  nm : namU nm = true
  cs : OwnC w base v ps
  ok : bndB ps = true
theorem OBond.bond {w : World} {base : Nat} {nm : ByteArray} {a : Option Addr} {n cap : Nat} {ps : List (ByteArray × ByteArray)} (h : OBond w base nm (.slice a n cap) ps) : Bond w nm a n cap ps := ⟨h.nm, h.cs.row, h.ok⟩
theorem OBond.below {w w' : World} {base : Nat} {nm : ByteArray} {v : Value} {ps : List (ByteArray × ByteArray)} (h : OBond w base nm v ps) (hb : Below w.heap.size w w') : OBond w' base nm v ps := ⟨h.nm, own_below h.cs hb, h.ok⟩
theorem OBond.set {w : World} {base b o : Nat} {nm : ByteArray} {v : Value} {ps : List (ByteArray × ByteArray)} (h : OBond w base nm v ps) (u : Value) (hb : b < base) : OBond (w.setCell ⟨b, o, none⟩ u) base nm v ps := ⟨h.nm, own_set h.cs u (own_ne h.cs hb), h.ok⟩
theorem OBond.base {w : World} {base base' : Nat} {nm : ByteArray} {v : Value} {ps : List (ByteArray × ByteArray)} (h : OBond w base nm v ps) (hb : base' ≤ base) : OBond w base' nm v ps := ⟨h.nm, own_base h.cs hb, h.ok⟩
/-- What reading a bond hands back. -/
def CheckR (w : World) (e : Ending) (w' : World) : Prop := ∃ (nm : ByteArray) (a : Option Addr) (n cap : Nat) (ps : List (ByteArray × ByteArray)) (g : Nat), e = .returned (.tuple #[.agg #[.string nm, .slice a n cap], .slice (some ⟨g, 0, none⟩) 0 0]) ∧ OBond w' w.heap.size nm (.slice a n cap) ps ∧ Below w.heap.size w w'
set_option maxRecDepth 100000 in
set_option maxHeartbeats 8000000 in
theorem l04Check_any (s : ByteArray) (w : World) (h : txtB s = true) :
    Calls Try.prog 132 #[.string s] w (CheckR w) := by
  obtain ⟨i0, hi, hi0, hi1, hi2⟩ := info_parts info_crs
  obtain ⟨hs, hnm, hn2, hn9, hwd⟩ := txt_parts h
  obtain ⟨W0, hW0⟩ : ∃ W0, w.alloc (.cells #[.string ⟨#[]⟩, .slice none 0 0] 45) = W0 := ⟨_, rfl⟩
  have HSP := Lib.hid (l01Split_any s 32 W0 (by omega))
  rw [utf_lit.2] at HSP
  have HB0 : Hid (Below w.heap.size w W0) := Lib.hid (by rw [← hW0]; exact (by repeat (first | exact Below.refl _ _ | assumption | refine Below.drew ?_ | refine below_drewN ?_ _ | refine Below.alloc ?_ (by first | omega | (simp; done) | (simp; omega)) _ | refine Below.setCell ?_ (by first | omega | (simp; done) | (simp; omega)) _)))
  have H0 : Hid (W0.heap[w.heap.size]? = some (.cells #[.string ⟨#[]⟩, .slice none 0 0] 45 (0, 0))) := Lib.hid (by rw [← hW0]; exact blk_new _ _)
  have HW0 := Lib.hid hW0
  generalize hws : spl s 32 = ws at *
  obtain ⟨n, hn⟩ : ∃ n, ws.length = n := ⟨_, rfl⟩
  rw [hn] at hn2 hn9 hwd
  have HN := Lib.hid hn
  obtain ⟨nm, hnme⟩ : ∃ nm, ws.getD 0 ByteArray.empty = nm := ⟨_, rfl⟩
  rw [hnme] at hnm
  have HIN := Lib.hid (fun W => specIsName_yes nm W hnm)
  have HNM := Lib.hid (And.intro hnm hnme)
  have HWD := Lib.hid hwd
  have hnsz := (namU_t hnm).2.1
  clear h hW0 hwd hn hnm hnme hws
  go_enter Try.func132, Try.ntmps132
  go_wp2_with fail
  rw [HW0.out]
  refine HSP.out.mono ?_
  rintro e3 w1 ⟨a, c, rfl, hO, hb⟩
  rw [HN.out] at hO ⊢
  have hR := hO.row (fun x hx => by
    obtain ⟨k, hk, rfl⟩ := List.getElem_of_mem hx
    unfold maxLen
    rw [HN.out] at hk
    rcases Nat.eq_zero_or_pos k with h | h
    · subst h
      have := HNM.out.2
      rw [List.getD_eq_getElem?_getD, List.getElem?_eq_getElem (by rw [HN.out]; exact hk)] at this
      have h2 : ws[0] = nm := this
      rw [h2]; omega
    · have := wrd_size (HWD.out k h hk)
      rw [List.getD_eq_getElem?_getD, List.getElem?_eq_getElem (by rw [HN.out]; exact hk)] at this
      have h2 : (some (ws[k])).getD ByteArray.empty = ws[k] := rfl
      rw [h2] at this
      omega)
  obtain ⟨r, o, rfl, hr, hc⟩ := hR.cell (i := 0) (by omega)
  simp only [Nat.add_zero] at hc
  rw [HNM.out.2] at hc
  have B0 := Lib.hid (blk_call H0.out hb)
  have HR := Lib.hid hR
  have HB1 := Lib.hid (below_call HB0.out hb)
  have hz1 : w.heap.size < w1.heap.size := blk_lt B0.out
  clear hO hb hR HSP H0 HW0 HB0
  have hn1' : ((n : Int) == 1) = false := by simp; omega
  have hn0' : (0 : Int) < (n : Int) := by omega
  go_wp2_with fail
  obtain ⟨W2, hW2⟩ : ∃ W2, (w1.alloc (.cells #[.string nm, .slice none 0 0] 45)).alloc (.cells #[] 166) = W2 := ⟨_, rfl⟩
  have C0 : Hid (W2.heap[w.heap.size]? = some (.cells #[.string ⟨#[]⟩, .slice none 0 0] 45 (0, 0))) := Lib.hid (by rw [← hW2]; exact blk_alloc (blk_alloc B0.out))
  have C5 : Hid (W2.heap[w1.heap.size]? = some (.cells #[.string nm, .slice none 0 0] 45 (0, 0))) := Lib.hid (by rw [← hW2]; exact blk_alloc (blk_new _ _))
  have HB2 : Hid (Below w1.heap.size w1 W2) := Lib.hid (by rw [← hW2]; exact (by repeat (first | exact Below.refl _ _ | assumption | refine Below.drew ?_ | refine below_drewN ?_ _ | refine Below.alloc ?_ (by first | omega | (simp; done) | (simp; omega)) _ | refine Below.setCell ?_ (by first | omega | (simp; done) | (simp; omega)) _)))
  have hz2 : W2.heap.size = w1.heap.size + 2 := by rw [← hW2]; simp
  have HR2 := Lib.hid (HR.out.below HB2.out)
  rw [hW2]
  clear hW2 hc
  refine (HIN.out _).mono ?_
  rintro e4 w4 ⟨rfl, rfl⟩
  go_wp2_with fail
  have hg5 : w1.heap.size < W2.heap.size := by omega
  clear hz2
  have hrb : ∀ x : Addr, some (⟨r, o, none⟩ : Addr) = some x → x.block ≠ w1.heap.size := fun x hx => by
    injection hx with hx
    subst hx
    exact Nat.ne_of_lt hr
  have HRB := Lib.hid hrb
  clear hrb
  go_loopw [6, 7, 8, 9] (fun bs iv _ _ wr => ∃ (k : Nat) (vo : Value) (ps : List (ByteArray × ByteArray)), (1 ≤ k ∧ k ≤ n) ∧ iv = .int .i64 (k : Int) ∧ bs = .slice (some ⟨w1.heap.size + 1, 0, none⟩) 0 0 ∧ ps.length + 1 = k ∧ (∀ p ∈ ps, crsB p = true) ∧ wr.heap[w1.heap.size]? = some (.cells #[.string nm, vo] 45 (0, 0)) ∧ OwnC wr W2.heap.size vo ps ∧ W2.grownBy wr (some w1.heap.size)) (fun _ iv _ _ _ => (n - intOf iv).toNat)
  case atStart => exact ⟨1, _, [], ⟨by omega, by omega⟩, rfl, rfl, rfl, (fun p hp => by cases hp), C5.out, ownC_nil _ _, World.grownBy.refl _ _⟩
  case round =>
    clear C5
    obtain ⟨k, vo, ps, ⟨hk1, hk⟩, rfl, rfl, hpl, hpo, hB5, hO, hG⟩ := hrel
    have hz := hG.size
    by_cases hlt : k < n
    · have hlt' : (k : Int) < (n : Int) := by omega
      have hk8 : ¬ (8 : Int) < (k : Int) := by omega
      have hck := (HR2.out.grown HRB.out hG).same hlt
      have HWk := Lib.hid (l04Word_any (ws.getD k ByteArray.empty) wr (HWD.out k hk1 hlt))
      have HCR : Hid (crsB (wrdC (ws.getD k ByteArray.empty)) = true) := Lib.hid (crsB_mk (wrd_parts (HWD.out k hk1 hlt)).2.1)
      generalize ws.getD k ByteArray.empty = wd at *
      have HB5 := Lib.hid hB5
      have HO := Lib.hid hO
      have HG := Lib.hid hG
      have HPL := Lib.hid hpl
      have HPO := Lib.hid hpo
      clear hB5 hO hG hpl hpo
      go_wp2_with fail
      refine HWk.out.mono ?_
      rintro e5 w5 ⟨rfl, hb5⟩
      obtain ⟨⟨l, c5⟩, hlc⟩ : ∃ q, wrdC wd = q := ⟨_, rfl⟩
      rw [hlc] at HCR ⊢
      simp only
      have B5 := Lib.hid (blk_call HB5.out hb5)
      have O5 : Hid (OwnC w5 W2.heap.size vo ps) := Lib.hid (own_below HO.out hb5)
      have G5 := Lib.hid (grown_below HG.out hb5)
      have hz5 := G5.out.size
      have hl5 : w1.heap.size < w5.heap.size := by omega
      have f0 := cellOf B5.out 0
      have f1 := cellOf B5.out 1
      simp at f0 f1
      clear hb5 hck HB5 HO HG HWk hlc
      have hOl := World.ownsRow.alloc O5.out (.cells #[.string l, .string c5] 137)
      have HNW : Hid (∀ (j : Nat) (u : Value), ([.string l, .string c5] : List Value)[j]? = some u → ((w5.alloc (.cells #[.string l, .string c5] 137)).alloc (.cells #[.string l, .string c5] 137)).cell? ((⟨w5.heap.size + 1, 0, none⟩ : Addr).add j) = some u) := Lib.hid (fun j u hu => World.news_of_block (blk_new' (w5.alloc (.cells #[.string l, .string c5] 137)) (.cells #[.string l, .string c5] 137) (by simp)) j u hu)
      obtain ⟨m, hm⟩ : ∃ m, ps.length = m := ⟨_, rfl⟩
      rw [hm] at hOl
      have hm9 : m ≤ 9 := by have := HPL.out; omega
      have HM := Lib.hid hm
      clear hm
      go_wp2_with (at_builtin; refine wpList_append_new _ rfl _ _ 43 rfl _ 137 i0 (.agg #[.string ByteArray.empty, .string ByteArray.empty]) 2 32 Try.underlying43 hi hi0 hi1 hi2 rfl (by decide) _ _ _ rfl (World.ownsRow.alloc hOl _) ⟨w5.heap.size + 1, 0, none⟩ 1 1 [.string l, .string c5] rfl rfl HNW.out (by simp [Value.oneCell']) (by unfold maxLen; omega) (by omega) (by first | omega | (simp; done) | (simp; omega)) (by decide) ?_; intro v' w1' hown1 hgrow1 hnew1; (obtain ⟨xa, ca, rfl⟩ := own_shape hown1); (have B6 : w1'.heap[w1.heap.size]? = some (.cells #[.string nm, vo] 45 (0, 0)) := blk_row (blk_alloc (blk_alloc B5.out)) (World.ownsRow.alloc hOl _) hgrow1 hg5); (have h1 := B6s1 B6); (have k1 := frozenOf B6 1))
      have hvo := own_ne O5.out hg5
      have hvb : ∀ k, vo.ownBlock = some k → W2.heap.size ≤ k := fun k e => (World.ownsRow.lt O5.out k e).1
      have O6 : OwnC w1' W2.heap.size (.slice xa (m + 1) ca) (ps ++ [(l, c5)]) := OwnC.snoc hown1 (by rw [HM.out])
      have G6 := grown_own (grown_alloc (grown_alloc G5.out (.cells #[.string l, .string c5] 137)) (.cells #[.string l, .string c5] 137)) hgrow1 hvb
      have B7 := Lib.hid (blk_set B6 1 (.slice xa (m + 1) ca))
      simp at B7
      have O7 : Hid (OwnC (w1'.setCell ⟨w1.heap.size, 1, none⟩ (.slice xa (m + 1) ca)) W2.heap.size (.slice xa (m + 1) ca) (ps ++ [(l, c5)])) := Lib.hid (own_set O6 (.slice xa (m + 1) ca) (own_ne O6 hg5))
      have G7 := Lib.hid (grown_store G6 1 (.slice xa (m + 1) ca))
      have P7 : Hid (∀ p ∈ ps ++ [(l, c5)], crsB p = true) := Lib.hid (fun p hp => by
        rcases List.mem_append.1 hp with h | h
        · exact HPO.out p h
        · rw [List.mem_singleton.1 h]; exact HCR.out)
      clear hown1 hgrow1 hnew1 hOl hvo hvb B6 O6 G6 B5 O5 G5 f0 f1
      go_wp2
      go_roundw
      case rel => exact ⟨k + 1, _, ps ++ [(l, c5)], ⟨by omega, by omega⟩, by go_num, rfl, by simp [HPL.out], P7.out, B7.out, O7.out, G7.out⟩
      case measure => first | (simp [intOf]; done) | (simp [intOf]; omega)
    · obtain rfl : k = n := by omega
      obtain ⟨x, cc, rfl⟩ := hO.shape
      have C0' := blk_grown C0.out hG (by omega)
      have hlt1 := blk_lt C0'
      have r0 := cellOf C0' 0
      have r1 := cellOf C0' 1
      have q0 := frozenOf C0' 0
      have q1 := frozenOf C0' 1
      have f0 := cellOf hB5 0
      have f1 := cellOf hB5 1
      simp at r0 r1 f0 f1
      have hne : w1.heap.size ≠ w.heap.size := by omega
      have hbd := bndB_mk (by omega) (by omega) hpo
      have O8 := own_set (o := 1) (own_set (o := 0) hO (.string nm) (own_ne hO (show w.heap.size < W2.heap.size by omega))) (.slice x ps.length cc) (own_ne hO (show w.heap.size < W2.heap.size by omega))
      have HBd : Hid (OBond ((wr.setCell ⟨w.heap.size, 0, none⟩ (.string nm)).setCell ⟨w.heap.size, 1, none⟩ (.slice x ps.length cc)) w.heap.size nm (.slice x ps.length cc) ps) := Lib.hid ⟨HNM.out.1, own_base O8 (by omega), hbd⟩
      have HBw : Hid (Below w.heap.size w ((wr.setCell ⟨w.heap.size, 0, none⟩ (.string nm)).setCell ⟨w.heap.size, 1, none⟩ (.slice x ps.length cc))) := Lib.hid (((below_of_grown (below_call HB1.out HB2.out) hG (by omega)).setCell (p := ⟨w.heap.size, 0, none⟩) (Nat.le_refl _) _).setCell (p := ⟨w.heap.size, 1, none⟩) (Nat.le_refl _) _)
      clear hO hG hB5 C0' O8 hbd hpo
      generalize ps.length = nn at *
      go_wp2
      refine bodyPost_ret (v := .tuple #[.agg #[.string nm, .slice x nn cc], .slice (some ⟨w1.heap.size + 1, 0, none⟩) 0 0]) (by simp [results, Try.results132, go_sem, *]) rfl ?_
      exact ⟨nm, x, nn, cc, ps, _, rfl, HBd.out, HBw.out⟩
/-- A bond that has been read. -/
def ReadR (w : World) (e : Ending) (w' : World) : Prop := ∃ (nm : ByteArray) (a : Option Addr) (n cap : Nat) (ps : List (ByteArray × ByteArray)), e = .returned (.tuple #[.agg #[.string nm, .slice a n cap], .bool true]) ∧ OBond w' w.heap.size nm (.slice a n cap) ps ∧ Below w.heap.size w w'
set_option maxRecDepth 100000 in
set_option maxHeartbeats 2000000 in
theorem readBond_any (s : ByteArray) (w : World) (h : txtB s = true) :
    Calls Try.prog 111 #[.string s] w (ReadR w) := by
  have hs := (txt_parts h).1
  obtain ⟨W0, hW0⟩ : ∃ W0, w.alloc (.cells #[.string ⟨#[]⟩, .slice none 0 0] 45) = W0 := ⟨_, rfl⟩
  have HC := Lib.hid (l04Check_any s W0 h)
  have HB0 : Hid (Below w.heap.size w W0) := Lib.hid (by rw [← hW0]; exact (by repeat (first | exact Below.refl _ _ | assumption | refine Below.drew ?_ | refine below_drewN ?_ _ | refine Below.alloc ?_ (by first | omega | (simp; done) | (simp; omega)) _ | refine Below.setCell ?_ (by first | omega | (simp; done) | (simp; omega)) _)))
  have H0 : Hid (W0.heap[w.heap.size]? = some (.cells #[.string ⟨#[]⟩, .slice none 0 0] 45 (0, 0))) := Lib.hid (by rw [← hW0]; exact blk_new _ _)
  have hz0 : w.heap.size < W0.heap.size := blk_lt H0.out
  have HW0 := Lib.hid hW0
  clear h hW0
  go_enter Try.func111, Try.ntmps111
  go_wp2_with fail
  rw [HW0.out]
  refine HC.out.mono ?_
  rintro e1 w1 ⟨nm, a, n, cap, ps, g, rfl, hbd, hb⟩
  have B0 := blk_call H0.out hb
  have r0 := cellOf B0 0
  have r1 := cellOf B0 1
  have q0 := frozenOf B0 0
  have q1 := frozenOf B0 1
  simp at r0 r1
  have hlt := blk_lt B0
  have HB1 := below_call HB0.out hb
  have HF := Lib.hid ((((HB1.setCell (p := ⟨w.heap.size, 0, none⟩) (Nat.le_refl _) (.string nm)).setCell (p := ⟨w.heap.size, 1, none⟩) (Nat.le_refl _) (.slice a n cap))).alloc (by simpa [World.setCell] using Nat.le_of_lt hlt) (.cells #[.string nm, .slice a n cap] 45))
  have HD := Lib.hid ((((hbd.set (o := 0) (.string nm) hz0).set (o := 1) (.slice a n cap) hz0).below ((Below.refl _ _).alloc (Nat.le_refl _) (.cells #[.string nm, .slice a n cap] 45))).base (Nat.le_of_lt hz0))
  have hne : w1.heap.size ≠ w.heap.size := by omega
  clear hbd hb B0 HB1 H0 HB0 HC HW0
  go_wp2
  refine bodyPost_ret (v := .tuple #[.agg #[.string nm, .slice a n cap], .bool true]) (by simp [results, Try.results111, go_sem, *]) rfl ?_
  exact ⟨nm, a, n, cap, ps, rfl, HD.out, HF.out⟩
set_option maxHeartbeats 1000000 in
theorem l04Library_any (w : World) : Calls Try.prog 110 #[] w fun e w' => e = .returned (.slice (some ⟨w.heap.size, 0, none⟩) 5 5) ∧ w.alloc (.cells (strsA libT) 9) = w' := by
  go_enter Try.func110, Try.ntmps110
  go_wp2
  go_ret
  exact ⟨rfl, rfl⟩
theorem libT_at {q : Nat} (h : q < 5) : txtB (libT.getD q ByteArray.empty) = true := by
  have := List.all_eq_true.1 libT_ok (libT.getD q ByteArray.empty)
  refine this ?_
  have hl : q < libT.length := h
  rw [List.getD_eq_getElem?_getD, List.getElem?_eq_getElem hl]
  exact List.getElem_mem _
theorem libT_size : ∀ s ∈ libT, s.size ≤ maxLen := fun s hs => by
  have := (txt_parts (List.all_eq_true.1 libT_ok s hs)).1
  unfold maxLen
  omega
end Go.Proofs.Ytklhaanapembdaa
