/- The plain law of courses, second part: a course that is laid, courses that clash, the table of best courses; no program in sight. -/
import Derived.Shelf.Small.Strs
import Derived.Test.YtklhaanapembdaaM34
import Derived.Test.YtklhaanapembdaaBase

namespace Go.Proofs.Ytklhaanapembdaa
set_option linter.unusedVariables false

/-- What has been laid so far of a course. -/
structure Laid (L : Int) (out : List UInt8) : Prop where
  pc : Pcs out
  le : sumU out ≤ L
theorem laid_nil {L : Int} (h : 0 ≤ L) : Laid L [] := ⟨(fun c hc => by cases hc), h⟩
theorem Laid.snoc {L : Int} {out : List UInt8} {c : UInt8} (h : Laid L out) (h1 : 1 ≤ qU c) (h2 : sumU out + qU c ≤ L) : Laid L (out ++ [c]) :=
  ⟨h.pc.append (Pcs.one h1), by rw [sumU_append]; simp [sumU]; omega⟩
theorem Laid.len {L : Int} {out : List UInt8} (h : Laid L out) : (out.length : Int) ≤ sumU out ∧ 0 ≤ sumU out ∧ sumU out ≤ L := ⟨pcs_len h.pc, (sumU_bd out).1, h.le⟩
theorem sum_snoc (out : List UInt8) (c : UInt8) : sumU (out ++ [c]) = sumU out + qU c := by rw [sumU_append]; simp [sumU]
/-- It is whole. -/
theorem Laid.done {L : Int} {out : List UInt8} (h : Laid L out) (hs : sumU out = L) (h1 : 1 ≤ L) (h2 : L ≤ 40) : Cour L (⟨out.toArray⟩ : ByteArray) :=
  cour_mk (s := ⟨out.toArray⟩) (by simpa using h.pc) (by simpa using hs) h1 h2
theorem Laid.done1 {L : Int} {out : List UInt8} {c : UInt8} (h : Laid L out) (hq : qU c = L - sumU out) (hc : 1 ≤ qU c) (h1 : 1 ≤ L) (h2 : L ≤ 40) : Cour L (⟨(out ++ [c]).toArray⟩ : ByteArray) :=
  (h.snoc hc (by omega)).done (by rw [sum_snoc]; omega) h1 h2
/-! ### Clashes -/
/-- All courses keep the lap. -/
def AllApart (ws : List ByteArray) (lap : Int) : Prop := ∀ k, k + 1 < ws.length → ApartU (perpU (ws.getD k ByteArray.empty)) (perpU (ws.getD (k + 1) ByteArray.empty)) lap
/-- A clash. -/
structure ClashAt (ws : List ByteArray) (lap : Int) (k : Nat) (x y : Int) : Prop where
  k1 : k + 1 < ws.length
  xm : x ∈ perpU (ws.getD k ByteArray.empty)
  ym : y ∈ perpU (ws.getD (k + 1) ByteArray.empty)
  lt : max (x - y) (y - x) < lap
theorem ClashAt.no {ws : List ByteArray} {lap : Int} {k : Nat} {x y : Int} (h : ClashAt ws lap k x y) : ¬ AllApart ws lap := fun ha => by
  have := ha k h.k1 x h.xm y h.ym
  have := h.lt
  omega
/-! ### The best course -/
theorem qU_lit : qU 67 = 1 ∧ qU 72 = 2 ∧ qU 83 = 4 ∧ qU 84 = 3 ∧ cU 67 = 1 ∧ cU 72 = 0 ∧ cU 83 = 0 ∧ cU 84 = 1 ∧ qU 66 = 2 ∧ cU 66 = 1 := by decide
/-- What the table says of one place: a text of the rest with so many cut pieces. -/
structure Ent (r : Int) (t : ByteArray) (c p : Int) : Prop where
  g : Good r c t
  p0 : 0 ≤ p
  p1 : p ≤ r
theorem Ent.ct {r : Int} {t : ByteArray} {c p : Int} (h : Ent r t c p) : r % 2 ≤ c ∧ 0 ≤ c ∧ c ≤ r := by
  have h1 := odd_cut t.data.toList
  have h2 := cutU_bd t.data.toList
  have h3 := pcs_len h.g.pc
  rw [h.g.sm, h.g.ct] at h1
  rw [h.g.ct] at h2
  rw [h.g.sm] at h3
  omega
theorem Ent.size {r : Int} {t : ByteArray} {c p : Int} (h : Ent r t c p) : (t.size : Int) ≤ r := h.g.size
theorem ent_nil : Ent 0 ByteArray.empty 0 0 := ⟨good_nil, by omega, by omega⟩
theorem Ent.cons {r : Int} {t s : ByteArray} {c p : Int} {x : UInt8} (h : Ent r t c p) (hs : s.data.toList = [x]) (hx : 1 ≤ qU x) : Ent (r + qU x) (s ++ t) (c + cU x) (p + 1) :=
  ⟨h.g.cons hs hx, by have := h.p0; omega, by have := h.p1; omega⟩
/-- Which cuts the four letters have brought it down to. -/
def bestU (r : Int) (i : Nat) (c : Int) : Prop := 1 ≤ i ∧ (r = 1 → c ≤ 1) ∧ (2 ≤ i → 2 ≤ r → c ≤ r % 2)
theorem best_done {r : Int} {t : ByteArray} {c p : Int} (h : Ent r t c p) (hb : bestU r 4 c) (h1 : 1 ≤ r) : c = r % 2 := by
  have := h.ct
  obtain ⟨_, b1, b2⟩ := hb
  rcases Int.lt_or_le r 2 with h2 | h2
  · have : r = 1 := by omega
    have := b1 this
    omega
  · have := b2 (by omega) h2
    omega
theorem best_first {r : Int} {c : Int} (h : c = 0 % 2 + 1 ∨ True) (hc : r = 1 → c ≤ 1) : bestU r 1 c := ⟨by omega, hc, by omega⟩
theorem best_less {r c c' : Int} {i : Nat} (h : bestU r i c) (hc : c' ≤ c) (hi : 2 ≤ i) : bestU r (i + 1) c' := ⟨by omega, fun e => by have := h.2.1 e; omega, fun _ h2 => by have := h.2.2 hi h2; omega⟩
theorem best_head {r c c' : Int} (h : bestU r 1 c) (hc : c' ≤ c) (hr : 2 ≤ r → c' ≤ r % 2) : bestU r 2 c' := ⟨by omega, fun e => by have := h.2.1 e; omega, fun _ h2 => hr h2⟩
/-- The table's row of one place. -/
def BRow (L : Nat) (T : List ByteArray) (C : List (Int × Int)) (K : List Bool) (j : Nat) : Prop :=
  K.getD j false = true ∧ Ent ((L : Int) - (j : Int)) (T.getD j ByteArray.empty) (C.getD j (0, 0)).1 (C.getD j (0, 0)).2
/-- The table is done from a place on. -/
structure BTab (L : Nat) (T : List ByteArray) (C : List (Int × Int)) (K : List Bool) (a : Nat) : Prop where
  tl : T.length = L + 1
  cl : C.length = L + 1
  kl : K.length = L + 1
  ok : ∀ j, a ≤ j → j ≤ L → BRow L T C K j ∧ (C.getD j (0, 0)).1 = ((L : Int) - (j : Int)) % 2
  no : ∀ j, j < a → K.getD j false = false
/-- .. and at the place before, i letters have been tried. -/
def BInn (L : Nat) (T : List ByteArray) (C : List (Int × Int)) (K : List Bool) (a i : Nat) : Prop :=
  (i = 0 → K.getD a false = false) ∧ (1 ≤ i → BRow L T C K a ∧ bestU ((L : Int) - (a : Int)) i (C.getD a (0, 0)).1)
/-- .. with the place's own row left open. -/
structure BPart (L : Nat) (T : List ByteArray) (C : List (Int × Int)) (K : List Bool) (a i : Nat) : Prop where
  tl : T.length = L + 1
  cl : C.length = L + 1
  kl : K.length = L + 1
  ok : ∀ j, a + 1 ≤ j → j ≤ L → BRow L T C K j ∧ (C.getD j (0, 0)).1 = ((L : Int) - (j : Int)) % 2
  no : ∀ j, j < a → K.getD j false = false
  inn : BInn L T C K a i
theorem bpart_start {L : Nat} {T : List ByteArray} {C : List (Int × Int)} {K : List Bool} {a : Nat} (h : BTab L T C K (a + 1)) : BPart L T C K a 0 :=
  ⟨h.tl, h.cl, h.kl, h.ok, fun j hj => h.no j (by omega), fun _ => h.no a (by omega), fun h => absurd h (by omega)⟩
theorem bpart_done {L : Nat} {T : List ByteArray} {C : List (Int × Int)} {K : List Bool} {a : Nat} (h : BPart L T C K a 4) (ha : a < L) : BTab L T C K a := by
  refine ⟨h.tl, h.cl, h.kl, fun j h1 h2 => ?_, h.no⟩
  by_cases e : j = a
  · subst e
    obtain ⟨h3, h4⟩ := h.inn.2 (by omega)
    exact ⟨h3, best_done h3.2 h4 (by omega)⟩
  · exact h.ok j (by omega) h2
def ltrU (i : Nat) : UInt8 := if i = 0 then 67 else if i = 1 then 72 else if i = 2 then 83 else 84
theorem getD_set_same {α : Type} (l : List α) (i : Nat) (x d : α) (h : i < l.length) : (l.set i x).getD i d = x := by
  simp [List.getD_eq_getElem?_getD, h]
theorem getD_set_other {α : Type} (l : List α) (i j : Nat) (x d : α) (h : i ≠ j) : (l.set i x).getD j d = l.getD j d := by
  simp [List.getD_eq_getElem?_getD, List.getElem?_set_ne h]
def lessB (c p c' p' : Int) : Bool := decide (c < c') || (decide (c = c') && decide (p < p'))
theorem lessB_t {c p c' p' : Int} (h : lessB c p c' p' = true) : c ≤ c' := by
  simp only [lessB, Bool.or_eq_true, Bool.and_eq_true, decide_eq_true_eq] at h; omega
theorem lessB_f {c p c' p' : Int} (h : lessB c p c' p' = false) : c' ≤ c := by
  simp only [lessB, Bool.or_eq_false_iff, decide_eq_false_iff_not] at h; omega
/-- A letter is taken. -/
theorem bpart_set {L : Nat} {T : List ByteArray} {C : List (Int × Int)} {K : List Bool} {a i e : Nat} {s : ByteArray} (h : BPart L T C K a i) (hi : i < 4) (he : (e : Int) = (a : Int) + qU (ltrU i)) (hle : e ≤ L) (hs : s.data.toList = [ltrU i])
    (hl : i = 0 ∨ lessB ((C.getD e (0, 0)).1 + cU (ltrU i)) ((C.getD e (0, 0)).2 + 1) (C.getD a (0, 0)).1 (C.getD a (0, 0)).2 = true) :
    BPart L (T.set a (s ++ T.getD e ByteArray.empty)) (C.set a ((C.getD e (0, 0)).1 + cU (ltrU i), (C.getD e (0, 0)).2 + 1)) (K.set a true) a (i + 1) := by
  have hq : 1 ≤ qU (ltrU i) ∧ qU (ltrU i) ≤ 4 := by
    unfold ltrU; repeat' split
    all_goals decide
  have hea : a + 1 ≤ e := by omega
  obtain ⟨he1, he2⟩ := h.ok e hea hle
  have haL : a < L := by omega
  have hx := he1.2.cons hs hq.1
  rw [show (L : Int) - (e : Int) + qU (ltrU i) = (L : Int) - (a : Int) by omega] at hx
  have t1 := getD_set_same T a (s ++ T.getD e ByteArray.empty) ByteArray.empty (by rw [h.tl]; omega)
  have t2 := getD_set_same C a ((C.getD e (0, 0)).1 + cU (ltrU i), (C.getD e (0, 0)).2 + 1) (0, 0) (by rw [h.cl]; omega)
  have t3 := getD_set_same K a true false (by rw [h.kl]; omega)
  refine ⟨by rw [List.length_set]; exact h.tl, by rw [List.length_set]; exact h.cl, by rw [List.length_set]; exact h.kl, fun j h1 h2 => ?_, fun j hj => ?_, fun h0 => by omega, fun _ => ⟨?_, ?_⟩⟩
  · unfold BRow
    rw [getD_set_other _ _ _ _ _ (show a ≠ j by omega), getD_set_other _ _ _ _ _ (show a ≠ j by omega), getD_set_other _ _ _ _ _ (show a ≠ j by omega)]
    exact h.ok j h1 h2
  · rw [getD_set_other _ _ _ _ _ (show a ≠ j by omega)]
    exact h.no j hj
  · unfold BRow
    rw [t1, t2, t3]
    exact ⟨rfl, hx⟩
  · rw [t2]
    show bestU _ _ ((C.getD e (0, 0)).1 + cU (ltrU i))
    rw [he2]
    rw [he2] at hl
    match i, hi with
    | 0, _ =>
      have e1 : qU (ltrU 0) = 1 := by decide
      have e2 : cU (ltrU 0) = 1 := by decide
      rw [e1] at he
      rw [e2]
      refine ⟨by omega, fun _ => by omega, fun h2 => by omega⟩
    | 1, _ =>
      have e1 : qU (ltrU 1) = 2 := by decide
      have e2 : cU (ltrU 1) = 0 := by decide
      rw [e1] at he
      rw [e2]
      refine ⟨by omega, fun _ => by omega, fun _ _ => by omega⟩
    | 2, _ =>
      obtain ⟨_, hb⟩ := h.inn.2 (by omega)
      rcases hl with hl | hl
      · omega
      · exact best_less hb (lessB_t hl) (by omega)
    | 3, _ =>
      obtain ⟨_, hb⟩ := h.inn.2 (by omega)
      rcases hl with hl | hl
      · omega
      · exact best_less hb (lessB_t hl) (by omega)
/-- A letter is not taken. -/
theorem bpart_keep {L : Nat} {T : List ByteArray} {C : List (Int × Int)} {K : List Bool} {a i e : Nat} (h : BPart L T C K a i) (hi : i < 4) (h1 : 1 ≤ i) (he : (e : Int) = (a : Int) + qU (ltrU i)) 
    (hl : L < e ∨ (e ≤ L ∧ lessB ((C.getD e (0, 0)).1 + cU (ltrU i)) ((C.getD e (0, 0)).2 + 1) (C.getD a (0, 0)).1 (C.getD a (0, 0)).2 = false)) : BPart L T C K a (i + 1) := by
  obtain ⟨hr, hb⟩ := h.inn.2 h1
  refine ⟨h.tl, h.cl, h.kl, h.ok, h.no, fun h0 => by omega, fun _ => ⟨hr, ?_⟩⟩
  match i, hi with
  | 0, _ => omega
  | 1, _ =>
    have e1 : qU (ltrU 1) = 2 := by decide
    have e2 : cU (ltrU 1) = 0 := by decide
    rw [e1] at he
    rcases hl with hl | ⟨hl, hf⟩
    · exact ⟨by omega, hb.2.1, fun _ h2 => by omega⟩
    · have := lessB_f hf
      obtain ⟨_, he2⟩ := h.ok e (by omega) hl
      rw [he2, e2] at this
      exact ⟨by omega, fun _ => by omega, fun _ h2 => by omega⟩
  | 2, _ => exact best_less hb (Int.le_refl _) (by omega)
  | 3, _ => exact best_less hb (Int.le_refl _) (by omega)
theorem btab_start (L : Nat) : BTab L (List.replicate (L + 1) ByteArray.empty) (List.replicate (L + 1) (0, 0)) ((List.replicate (L + 1) false).set L true) L := by
  refine ⟨by simp, by simp, by simp, fun j h1 h2 => ?_, fun j hj => ?_⟩
  · obtain rfl : j = L := by omega
    have e1 : (List.replicate (j + 1) ByteArray.empty).getD j ByteArray.empty = ByteArray.empty := by simp [List.getD_eq_getElem?_getD]
    have e2 : (List.replicate (j + 1) ((0, 0) : Int × Int)).getD j (0, 0) = (0, 0) := by simp [List.getD_eq_getElem?_getD]
    have e3 : ((List.replicate (j + 1) false).set j true).getD j false = true := getD_set_same _ _ _ _ (by simp)
    unfold BRow
    rw [e1, e2, e3, show (j : Int) - (j : Int) = 0 by omega]
    exact ⟨⟨rfl, ent_nil⟩, rfl⟩
  · rw [getD_set_other _ _ _ _ _ (show L ≠ j by omega)]
    rw [List.getD_eq_getElem?_getD, List.getElem?_replicate]
    split <;> rfl
/-- The first row is a best course. -/
theorem btab_best {L : Nat} {T : List ByteArray} {C : List (Int × Int)} {K : List Bool} (h : BTab L T C K 0) (h1 : 1 ≤ L) (h2 : L ≤ 40) :
    K.getD 0 false = true ∧ Cour L (T.getD 0 ByteArray.empty) ∧ cutU (T.getD 0 ByteArray.empty).data.toList = (L : Int) % 2 := by
  obtain ⟨⟨hk, he⟩, hc⟩ := h.ok 0 (by omega) (by omega)
  rw [show (L : Int) - ((0 : Nat) : Int) = (L : Int) by omega] at he hc
  exact ⟨hk, cour_mk he.g.pc he.g.sm (by omega) (by omega), he.g.ct.trans hc⟩
/-- No course has fewer cut pieces. -/
theorem best_least {L : Int} {s t : ByteArray} (hs : cutU s.data.toList = L % 2) (ht : Cour L t) : cutU s.data.toList ≤ cutU t.data.toList := by
  have := odd_cut t.data.toList
  rw [ht.sm] at this
  omega
end Go.Proofs.Ytklhaanapembdaa
/- The library's IndexByte, by the kit's contract laid at this seat (after the kit's tool); no condition. -/
namespace Go.Proofs.Ytklhaanapembdaa
open Go.Shelf
def shelfIB_ren : Go.Shelf.Ren := ⟨fun | 137 => 134 | 217 => 143 | 266 => 148 | n => n, fun | 9 => 9 | 5 => 5 | 3 => 3 | n => n, fun | n => n⟩
theorem shelfIB : Go.Proofs.Lays.n137 Try.prog shelfIB_ren := {
  mixed := by kernel_rfl
  f137 := Try.func134.trans (congrArg some (by kernel_rfl))
  f217 := Try.func143.trans (congrArg some (by kernel_rfl))
  f266 := Try.func148.trans (congrArg some (by kernel_rfl))
  t3 := Try.underlying3
  a3 := Try.isAgg3
  z3 := Try.sizeOf3
  v3 := Try.zeroValue3
  t5 := Try.underlying5
  a5 := Try.isAgg5
  z5 := Try.sizeOf5
  v5 := Try.zeroValue5
  t9 := Try.underlying9
  a9 := Try.isAgg9
  z9 := Try.sizeOf9
  v9 := Try.zeroValue9 }
open Go.RowKit in
theorem indexByte_any (s : ByteArray) (c : Int) (w : World) :
    Calls Try.prog 134 #[.string s, .int .u8 c] w fun e w' => e = .returned (.int .i64 (Lib.indexByte s.data.toList c.toNat.toUInt8)) ∧ w' = w := Go.Proofs.Any.strings_IndexByte shelfIB s c w
/-- Letters that are among the pieces', and among the whole ones. -/
theorem ixPcs (c : UInt8) (h : c = 83 ∨ c = 72 ∨ c = 84 ∨ c = 66 ∨ c = 67) : 0 ≤ Lib.indexByte [83, 72, 84, 66, 67] c ∧ Lib.indexByte [83, 72, 84, 66, 67] c ≤ 4 := by
  rcases h with rfl | rfl | rfl | rfl | rfl <;> decide
theorem ixPln (c : UInt8) (h : c = 83 ∨ c = 72) : 0 ≤ Lib.indexByte [83, 72] c ∧ Lib.indexByte [83, 72] c ≤ 4 := by
  rcases h with rfl | rfl <;> decide
end Go.Proofs.Ytklhaanapembdaa
