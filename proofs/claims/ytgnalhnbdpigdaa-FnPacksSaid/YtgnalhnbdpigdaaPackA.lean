/- Arrays of integers of a call's own, as whole blocks; the reference's l00Rises: whether a slice's integers are within two limits and rise; memory as before; condition: the slice can be read. -/
import Derived.Test.YtgnalhnbdpigdaaPackP
import Derived.Test.YtgnalhnbdpigdaaOutside
import Derived.Test.YtgnalhnbdpigdaaOwnT
namespace Go.Proofs.Ytgnalhnbdpigdaa
open Go.RowKit
set_option linter.unusedVariables false

def rises (zs : List Int) : Bool := (List.range (zs.length - 1)).all fun k => decide (zs.getD k 0 < zs.getD (k + 1) 0)
theorem rises_t {zs : List Int} (h : rises zs = true) (k : Nat) (hk : k + 1 < zs.length) : zs.getD k 0 < zs.getD (k + 1) 0 := by
  have := List.all_eq_true.1 h k (by simp; omega)
  simpa using this
theorem rises_mk {zs : List Int} (h : ∀ k, k + 1 < zs.length → zs.getD k 0 < zs.getD (k + 1) 0) : rises zs = true := by
  refine List.all_eq_true.2 fun k hk => ?_
  have hk' : k < zs.length - 1 := by simpa using hk
  exact decide_eq_true (h k (by omega))
theorem rises_no {zs : List Int} {k : Nat} (hk : k + 1 < zs.length) (h : ¬ zs.getD k 0 < zs.getD (k + 1) 0) : rises zs = false := by
  cases e : rises zs
  · rfl
  · exact absurd (rises_t e k hk) h
theorem IsRow.cell2 {k : IntKind} {w : World} {a : Option Addr} {len cap : Nat} {zs : List Int} (h : IsRow k w a len cap zs) {i j : Nat} (hi : i < len) (hj : j < len) :
    ∃ b o, a = some ⟨b, o, none⟩ ∧ b < w.heap.size ∧ w.cell? ⟨b, o + i, none⟩ = some (.int k (zs.getD i 0)) ∧ w.cell? ⟨b, o + j, none⟩ = some (.int k (zs.getD j 0)) := by
  obtain ⟨b, o, ha, hb, h1⟩ := h.cell hi
  obtain ⟨b', o', ha', _, h2⟩ := h.cell hj
  rw [ha] at ha'
  injection ha' with e
  injection e with e1 e2
  subst e1 e2
  exact ⟨b, o, ha, hb, h1, h2⟩
set_option maxHeartbeats 2000000 in
theorem l00Rises_any (a : Option Addr) (len cap : Nat) (zs : List Int) (lo hi : Int) (w : World) (h : IsRow .i64 w a len cap zs) :
    Calls Try.prog 83 #[.slice a len cap, .int .i64 lo, .int .i64 hi] w fun e w' => e = .returned (.bool (insB zs lo hi && rises zs)) ∧ Below w.heap.size w w' := by
  have hl := h.1
  have hm : len ≤ maxLen := Nat.le_trans h.2.1 h.2.2.1
  unfold maxLen at hm
  have H := Lib.hid h
  have HL := Lib.hid hl
  clear h hl
  go_enter Try.func83, Try.ntmps83
  go_wp2
  go_loopw [7] (fun i wr => ∃ k : Nat, k ≤ len ∧ i = .int .i64 (k : Int) ∧ (∀ m, m < k → lo ≤ zs.getD m 0 ∧ zs.getD m 0 ≤ hi) ∧ (∀ m, m + 1 < k → zs.getD m 0 < zs.getD (m + 1) 0) ∧ Below w.heap.size w wr) (fun i _ => (len - intOf i).toNat)
  case atStart => exact ⟨0, by omega, rfl, fun m hm => by omega, fun m hm => by omega, Below.refl _ _⟩
  case round =>
    obtain ⟨k, hk, rfl, hI, hJ, hB⟩ := hrel
    have HI := Lib.hid hI
    have HJ := Lib.hid hJ
    clear hI hJ
    by_cases hlt : k < len
    · have hlt' : (k : Int) < (len : Int) := by omega
      cases hx : inB (zs.getD k 0) lo hi
      · obtain ⟨b, o, rfl, hb, hc⟩ := (H.out.below hB).cell hlt
        have HR := Lib.hid (insB_no (by rw [HL.out]; exact hlt) hx)
        have HX := Lib.hid hx
        clear hx
        generalize zs.getD k 0 = x at *
        go_wp2_with fail
        go_quiet ((go_at_call 52; exact Calls.quiet_of_same ((l00In_any _ _ _ _).mono fun _ _ h => ⟨h.1.trans (by rw [HX.out]), h.2.symm⟩)))
        go_wp2
        go_ret
        exact ⟨ret_bool (by rw [HR.out]; rfl), (by repeat (first | exact Below.refl _ _ | assumption | refine Below.drew ?_ | refine below_drewN ?_ _ | refine Below.alloc ?_ (by first | omega | (simp; done) | (simp; omega)) _ | refine Below.setCell ?_ (by first | omega | (simp; done) | (simp; omega)) _))⟩
      · have HX := Lib.hid hx
        have HS : Hid (∀ m, m < k + 1 → lo ≤ zs.getD m 0 ∧ zs.getD m 0 ≤ hi) := Lib.hid fun m hm => by
          rcases Nat.lt_succ_iff_lt_or_eq.1 hm with h | rfl
          · exact HI.out m h
          · exact inB_t hx
        clear hx
        by_cases h0 : 0 < k
        · obtain ⟨b, o, rfl, hb, hc, hp⟩ := (H.out.below hB).cell2 hlt (show k - 1 < len by omega)
          by_cases hy : zs.getD (k - 1) 0 < zs.getD k 0
          · have HT : Hid (∀ m, m + 1 < k + 1 → zs.getD m 0 < zs.getD (m + 1) 0) := Lib.hid fun m hm => by
              by_cases e : m + 1 < k
              · exact HJ.out m e
              · obtain rfl : m = k - 1 := by omega
                rw [show k - 1 + 1 = k by omega]; exact hy
            generalize zs.getD k 0 = x at *
            generalize zs.getD (k - 1) 0 = y at *
            have hy' : ¬ x ≤ y := by omega
            have h0' : (0 : Int) < (k : Int) := by omega
            have j1 : IntKind.i64.wrap ((k : Int) - 1) = (k : Int) - 1 := IntWalk.i64_in _ (by omega)
            have j2 : 0 ≤ (k : Int) - 1 := by omega
            have j3 : ((k : Int) - 1).toNat = k - 1 := by omega
            have j4 : (k : Int) - 1 < (len : Int) := by omega
            go_wp2_with fail
            go_quiet ((go_at_call 52; exact Calls.quiet_of_same ((l00In_any _ _ _ _).mono fun _ _ h => ⟨h.1.trans (by rw [HX.out]), h.2.symm⟩)))
            clear j1 j2 j3 j4
            go_wp2
            go_roundw
            case rel => exact ⟨k + 1, by omega, by go_num, HS.out, HT.out, (by repeat (first | exact Below.refl _ _ | assumption | refine Below.drew ?_ | refine below_drewN ?_ _ | refine Below.alloc ?_ (by first | omega | (simp; done) | (simp; omega)) _ | refine Below.setCell ?_ (by first | omega | (simp; done) | (simp; omega)) _))⟩
            case measure => simp [intOf]; omega
          · have HR := Lib.hid (rises_no (zs := zs) (k := k - 1) (by rw [HL.out]; omega) (by rw [show k - 1 + 1 = k by omega]; exact hy))
            generalize zs.getD k 0 = x at *
            generalize zs.getD (k - 1) 0 = y at *
            have hy' : x ≤ y := by omega
            have h0' : (0 : Int) < (k : Int) := by omega
            have j1 : IntKind.i64.wrap ((k : Int) - 1) = (k : Int) - 1 := IntWalk.i64_in _ (by omega)
            have j2 : 0 ≤ (k : Int) - 1 := by omega
            have j3 : ((k : Int) - 1).toNat = k - 1 := by omega
            have j4 : (k : Int) - 1 < (len : Int) := by omega
            go_wp2_with fail
            go_quiet ((go_at_call 52; exact Calls.quiet_of_same ((l00In_any _ _ _ _).mono fun _ _ h => ⟨h.1.trans (by rw [HX.out]), h.2.symm⟩)))
            clear j1 j2 j3 j4
            go_wp2
            go_ret
            exact ⟨ret_bool (by rw [HR.out]; simp), (by repeat (first | exact Below.refl _ _ | assumption | refine Below.drew ?_ | refine below_drewN ?_ _ | refine Below.alloc ?_ (by first | omega | (simp; done) | (simp; omega)) _ | refine Below.setCell ?_ (by first | omega | (simp; done) | (simp; omega)) _))⟩
        · obtain ⟨b, o, rfl, hb, hc⟩ := (H.out.below hB).cell hlt
          have h0' : decide ((0 : Int) < (k : Int)) = false := decide_eq_false (by omega)
          have HT : Hid (∀ m, m + 1 < k + 1 → zs.getD m 0 < zs.getD (m + 1) 0) := Lib.hid fun m hm => by omega
          generalize zs.getD k 0 = x at *
          go_wp2_with fail
          go_quiet ((go_at_call 52; exact Calls.quiet_of_same ((l00In_any _ _ _ _).mono fun _ _ h => ⟨h.1.trans (by rw [HX.out]), h.2.symm⟩)))
          go_wp2
          go_roundw
          case rel => exact ⟨k + 1, by omega, by go_num, HS.out, HT.out, (by repeat (first | exact Below.refl _ _ | assumption | refine Below.drew ?_ | refine below_drewN ?_ _ | refine Below.alloc ?_ (by first | omega | (simp; done) | (simp; omega)) _ | refine Below.setCell ?_ (by first | omega | (simp; done) | (simp; omega)) _))⟩
          case measure => simp [intOf]; omega
    · obtain rfl : k = len := by omega
      have HR : Hid ((insB zs lo hi && rises zs) = true) := Lib.hid (by
        rw [insB_mk (fun m hm => HI.out m (by rw [HL.out] at hm; exact hm)), rises_mk (fun m hm => HJ.out m (by rw [HL.out] at hm; exact hm))]; rfl)
      go_wp2
      go_ret
      exact ⟨ret_bool (by rw [HR.out]), (by repeat (first | exact Below.refl _ _ | assumption | refine Below.drew ?_ | refine below_drewN ?_ _ | refine Below.alloc ?_ (by first | omega | (simp; done) | (simp; omega)) _ | refine Below.setCell ?_ (by first | omega | (simp; done) | (simp; omega)) _))⟩
/-- An array of integers, as a whole block. -/
def Arr (W : World) (g : Nat) (e : TypeId) (zs : List Int) : Prop := W.heap[g]? = some (.cells (ints zs) e (0, 0))
theorem Arr.cell {W : World} {g : Nat} {e : TypeId} {zs : List Int} (h : Arr W g e zs) {i : Nat} (hi : i < zs.length) : W.cell? ⟨g, i, none⟩ = some (.int .i64 (zs.getD i 0)) := by
  rw [cellOf h, ints_get]; simp [List.getD_eq_getElem?_getD, hi]
theorem Arr.fz {W : World} {g : Nat} {e : TypeId} {zs : List Int} (h : Arr W g e zs) (i : Nat) : W.frozen? ⟨g, i, none⟩ = false := frozenOf h i
theorem Arr.set {W : World} {g : Nat} {e : TypeId} {zs zs' : List Int} (h : Arr W g e zs) (i : Nat) (v : Int) (hz : zs.set i v = zs') : Arr (W.setCell ⟨g, i, none⟩ (.int .i64 v)) g e zs' := by
  have := blk_set h i (.int .i64 v)
  rw [ints_set, hz] at this
  exact this
theorem Arr.far {W : World} {g g' i : Nat} {e : TypeId} {zs : List Int} {v : Value} (h : Arr W g e zs) (hne : g ≠ g') : Arr (W.setCell ⟨g', i, none⟩ v) g e zs := blk_far h hne v
theorem Arr.lt {W : World} {g : Nat} {e : TypeId} {zs : List Int} (h : Arr W g e zs) : g < W.heap.size := blk_lt h
theorem Arr.alloc {W : World} {g : Nat} {e : TypeId} {zs : List Int} {o : Obj} (h : Arr W g e zs) : Arr (W.alloc o) g e zs := blk_alloc h
theorem Arr.drew {W : World} {g : Nat} {e : TypeId} {zs : List Int} (h : Arr W g e zs) : Arr W.drew g e zs := h
theorem arr_new (W : World) (e : TypeId) (zs : List Int) : Arr (W.alloc (.cells (ints zs) e (0, 0))) W.heap.size e zs := blk_new W _
theorem Arr.own {W : World} {g base : Nat} {zs : List Int} {n : Nat} (h : Arr W g 2 zs) (hb : base ≤ g) (hl : zs.length = n) (hm : n ≤ maxLen) : OwnI W base (.slice (some ⟨g, 0, none⟩) n n) zs := by
  subst hl
  exact ownI_made h hb hm
theorem info_int : (Try.prog.info? 3).map (fun i => (i.zero, i.size, i.bytes)) = some (some (.int .i64 0), 1, 8) := by kernel_rfl
theorem make_int (n : Nat) (hn : n ≤ 1048576) (W : World) : (Instr.makeSlice 90 (.int .i64 (n : Int)) (.int .i64 (n : Int))).run Try.prog W = .ok (.slice (some ⟨W.heap.size, 0, none⟩) n n) (W.alloc (.cells (ints (List.replicate n 0)) 3)) := by
  obtain ⟨i, hi, hz, hs, hb⟩ := info_parts info_int
  have hr := run_make (P := Try.prog) W 90 3 i (.int .i64 0) Try.underlying90 hi hz .i64 .i64 n n (by omega) (Int.le_refl _) (by rw [hb]; omega) (by omega)
  rw [hs] at hr
  simp only [Int.toNat_natCast, Nat.mul_one, made_ints] at hr
  exact hr
theorem below_setA {a W : World} {g i : Nat} {v : Value} (h : Below a.heap.size a W) (hg : a.heap.size ≤ g) : Below a.heap.size a (W.setCell ⟨g, i, none⟩ v) := h.setCell hg v
theorem NewI.toldT {w w' : World} {zs : List Int} {code : Int} {e : Ending} {n : Nat} (h : NewI w zs code e w') (hn : zs.length = n) :
    ∃ a c, e = .returned (.tuple #[.slice a n c, .int .i64 code]) ∧ OwnT w' w.heap.size w'.heap.size (.slice a n c) zs ∧ Below w.heap.size w w' := by
  obtain ⟨a, c, rfl, hO, hB⟩ := h.told hn
  exact ⟨a, c, rfl, hO.toT, hB⟩

/-- What the packs of n bricks are; the code. -/
def pkOk (S P : List Int) (B : Int) : Bool := inB (S.length : Int) 1 5 && (decide (P.length = S.length) && (insB S 1 1000 && (insB P 1 100000 && (inB B 0 3000 && rises S))))
def pkI (S P : List Int) (B : Int) : List Int := if pkOk S P B then pkN S P S.length B.toNat B.toNat (List.replicate S.length 0) else []
def pkC (S P : List Int) (B : Int) : Int := if pkOk S P B then 0 else 2
theorem pk_no {S P : List Int} {B : Int} (h : pkOk S P B = false) : pkI S P B = [] ∧ pkC S P B = 2 := by simp [pkI, pkC, h]
theorem pk_yes {S P : List Int} {B : Int} (h : pkOk S P B = true) : pkI S P B = pkN S P S.length B.toNat B.toNat (List.replicate S.length 0) ∧ pkC S P B = 0 := by simp [pkI, pkC, h]
theorem pkOk_t {S P : List Int} {B : Int} (h : pkOk S P B = true) : 1 ≤ S.length ∧ S.length ≤ 5 ∧ P.length = S.length ∧ insB S 1 1000 = true ∧ insB P 1 100000 = true ∧ 0 ≤ B ∧ B ≤ 3000 ∧ rises S = true := by
  simp only [pkOk, Bool.and_eq_true, decide_eq_true_eq] at h
  obtain ⟨h1, h2, h3, h4, h5, h6⟩ := h
  have := inB_t h1
  have := inB_t h5
  exact ⟨by omega, by omega, h2, h3, h4, by omega, by omega, h6⟩
theorem pkN_len (S P : List Int) (n f k : Nat) (out : List Int) : (pkN S P n f k out).length = out.length := by
  induction f generalizing k out with
  | zero => rfl
  | succ f ih => simp only [pkN]; split
                 · rfl
                 · rw [ih]; simp
theorem pkI_len5 (S P : List Int) (B : Int) : (pkI S P B).length ≤ 5 := by
  cases h : pkOk S P B
  · rw [(pk_no h).1]; simp
  · rw [(pk_yes h).1, pkN_len]; simp; exact (pkOk_t h).2.1
theorem pkI_len (S P : List Int) (B : Int) : (pkI S P B).length ≤ 1000000 := by have := pkI_len5 S P B; omega
/-- The last sizes. -/
def lasT (S P : List Int) (n : Nat) : Nat → List Int
  | 0 => [0]
  | k + 1 => lasT S P n k ++ [(pkL S P n (k + 1) : Int)]
theorem lasT_len (S P : List Int) (n k : Nat) : (lasT S P n k).length = k + 1 := by
  induction k with
  | zero => rfl
  | succ k ih => simp [lasT, ih]
theorem lasT_get (S P : List Int) (n : Nat) {j m : Nat} (h1 : 1 ≤ j) (hj : j ≤ m) : (lasT S P n m).getD j 0 = (pkL S P n j : Int) := by
  induction m with
  | zero => omega
  | succ m ih =>
    simp only [lasT, List.getD_eq_getElem?_getD]
    by_cases e : j = m + 1
    · subst e
      rw [List.getElem?_append_right (by rw [lasT_len]; omega), lasT_len]; simp
    · rw [List.getElem?_append_left (by rw [lasT_len]; omega), ← List.getD_eq_getElem?_getD]
      exact ih (by omega)
/-- The arrays within a round: a table, what stands at the next place, and zeros. -/
def tabA (t : List Int) (x : Int) (m : Nat) : List Int := t ++ x :: List.replicate m 0
theorem tabA_len (t : List Int) (x : Int) (m : Nat) : (tabA t x m).length = t.length + 1 + m := by simp [tabA]; omega
theorem tabA_set (t : List Int) (x y : Int) (m : Nat) : (tabA t x m).set t.length y = tabA t y m := by
  unfold tabA
  rw [List.set_append_right _ _ (Nat.le_refl _), Nat.sub_self, List.set_cons_zero]
theorem tabA_at (t : List Int) (x : Int) (m : Nat) : (tabA t x m).getD t.length 0 = x := by
  unfold tabA
  rw [List.getD_eq_getElem?_getD, List.getElem?_append_right (Nat.le_refl _), Nat.sub_self]; rfl
theorem tabA_old (t : List Int) (x : Int) (m : Nat) {j : Nat} (h : j < t.length) : (tabA t x m).getD j 0 = t.getD j 0 := by
  unfold tabA
  rw [List.getD_eq_getElem?_getD, List.getElem?_append_left h, List.getD_eq_getElem?_getD]
theorem tabA_zero (t : List Int) (m : Nat) : tabA t 0 m = t ++ List.replicate (m + 1) 0 := rfl
theorem tabA_next (t : List Int) (x : Int) (m : Nat) : tabA t x m = (t ++ [x]) ++ List.replicate m 0 := by simp [tabA]
theorem lasT_next {S P : List Int} {n k : Nat} (hS : ∀ i, i < n → 1 ≤ S.getD i 0) : lasT S P n (k + 1) = lasT S P n k ++ [((pkM (pkO S P (pkT S P n k) (k + 1)) n).2 : Int)] := by
  simp only [lasT, pkL]
  rw [pkM_ext n fun i hi => (pkO_is (P := P) (k := k) (hS i hi) (Nat.le_refl _)).symm]
theorem pkL_lt {S P : List Int} {n : Nat} (hn : 0 < n) (k : Nat) : pkL S P n k < n := (pkM_last _ n hn).1
end Go.Proofs.Ytgnalhnbdpigdaa
