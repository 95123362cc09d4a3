/- Contracts of BestCourse and the functions under it: the course has as few cut pieces as its length allows; condition: the length is from 1 to 40. -/
import Derived.BigRegion
import Derived.Deep.DeepCutAuto
import Derived.StillTailTactics
import Derived.IntWalk
import Derived.Test.YtklhaanapembdaaCourS
import Derived.Test.YtklhaanapembdaaM37

namespace Go.Proofs.Ytklhaanapembdaa
set_option linter.unusedVariables false
open Go.RowKit

/-- Costs as a row of cells. -/
def costV : List (Int × Int) → List Value
  | [] => []
  | p :: ps => .int .i64 p.1 :: .int .i64 p.2 :: costV ps
theorem costV_len (ps : List (Int × Int)) : (costV ps).length = ps.length * 2 := by
  induction ps with
  | nil => rfl
  | cons p ps ih => simp [costV, ih]; omega
theorem costV_get (ps : List (Int × Int)) (i : Nat) (h : i < ps.length) :
    (costV ps)[i * 2]? = some (.int .i64 (ps.getD i (0, 0)).1) ∧ (costV ps)[i * 2 + 1]? = some (.int .i64 (ps.getD i (0, 0)).2) := by
  induction ps generalizing i with
  | nil => simp at h
  | cons q ps ih =>
    cases i with
    | zero => exact ⟨rfl, rfl⟩
    | succ i =>
      have := ih i (by simpa using h)
      have e : (i + 1) * 2 = i * 2 + 1 + 1 := by omega
      rw [e]
      exact this
theorem costV_set (ps : List (Int × Int)) (i : Nat) (x y : Int) (h : i < ps.length) :
    ((costV ps).set (i * 2) (.int .i64 x)).set (i * 2 + 1) (.int .i64 y) = costV (ps.set i (x, y)) := by
  induction ps generalizing i with
  | nil => simp at h
  | cons q ps ih =>
    cases i with
    | zero => rfl
    | succ i =>
      have := ih i (by simpa using h)
      have e : (i + 1) * 2 = i * 2 + 1 + 1 := by omega
      rw [e]
      show _ = _ :: _ :: costV (ps.set i (x, y))
      rw [← this]
      rfl
def ArrS (W : World) (g : Nat) (T : List ByteArray) : Prop := W.heap[g]? = some (.cells (strsA T) 9 (0, 0))
def ArrC (W : World) (g : Nat) (C : List (Int × Int)) : Prop := W.heap[g]? = some (.cells (costV C).toArray 150 (0, 0))
def boolA (K : List Bool) : Array Value := (K.map Value.bool).toArray
def ArrB (W : World) (g : Nat) (K : List Bool) : Prop := W.heap[g]? = some (.cells (boolA K) 4 (0, 0))
theorem ArrS.cell {W : World} {g : Nat} {T : List ByteArray} (h : ArrS W g T) {i : Nat} (hi : i < T.length) : W.cell? ⟨g, i, none⟩ = some (.string (T.getD i ByteArray.empty)) := by
  rw [cellOf h, strsA_get]; simp [List.getD_eq_getElem?_getD, hi]
theorem ArrC.cell {W : World} {g : Nat} {C : List (Int × Int)} (h : ArrC W g C) {i : Nat} (hi : i < C.length) : W.cell? ⟨g, i * 2, none⟩ = some (.int .i64 (C.getD i (0, 0)).1) ∧ W.cell? ⟨g, i * 2 + 1, none⟩ = some (.int .i64 (C.getD i (0, 0)).2) := by
  obtain ⟨g1, g2⟩ := costV_get C i hi
  rw [cellOf h, cellOf h]
  exact ⟨by simpa using g1, by simpa using g2⟩
theorem ArrB.cell {W : World} {g : Nat} {K : List Bool} (h : ArrB W g K) {i : Nat} (hi : i < K.length) : W.cell? ⟨g, i, none⟩ = some (.bool (K.getD i false)) := by
  rw [cellOf h]; simp [boolA, List.getD_eq_getElem?_getD, hi]
theorem ArrS.set {W : World} {g : Nat} {T : List ByteArray} (h : ArrS W g T) (i : Nat) (s : ByteArray) : ArrS (W.setCell ⟨g, i, none⟩ (.string s)) g (T.set i s) := by
  have := blk_set h i (.string s)
  rw [strsA_set] at this
  exact this
theorem ArrC.set {W : World} {g : Nat} {C : List (Int × Int)} (h : ArrC W g C) {i : Nat} (hi : i < C.length) (x y : Int) : ArrC ((W.setCell ⟨g, i * 2, none⟩ (.int .i64 x)).setCell ⟨g, i * 2 + 1, none⟩ (.int .i64 y)) g (C.set i (x, y)) := by
  have := blk_set (blk_set h (i * 2) (.int .i64 x)) (i * 2 + 1) (.int .i64 y)
  unfold ArrC
  rw [this, ← costV_set C i x y hi]
  simp
theorem ArrB.set {W : World} {g : Nat} {K : List Bool} (h : ArrB W g K) (i : Nat) (b : Bool) : ArrB (W.setCell ⟨g, i, none⟩ (.bool b)) g (K.set i b) := by
  have := blk_set h i (.bool b)
  unfold ArrB
  rw [this]
  simp [boolA, List.map_set]
theorem info_cost : (Try.prog.info? 150).map (fun i => (i.zero, i.size, i.bytes)) = some (some (.agg #[.int .i64 0, .int .i64 0]), 2, 16) := by kernel_rfl
theorem info_bool : (Try.prog.info? 4).map (fun i => (i.zero, i.size, i.bytes)) = some (some (.bool false), 1, 1) := by kernel_rfl
theorem costV_rep (n : Nat) (j : Nat) (h : j < n * 2) : (costV (List.replicate n (0, 0)))[j]? = some (.int .i64 0) := by
  induction n generalizing j with
  | zero => omega
  | succ n ih =>
    rw [List.replicate_succ]
    match j with
    | 0 => rfl
    | 1 => rfl
    | j + 2 => exact ih j (by omega)
theorem made_cost (n : Nat) : madeCells (Value.agg #[.int .i64 0, .int .i64 0]).cells (n * 2) = (costV (List.replicate n (0, 0))).toArray := by
  apply Array.ext
  · simp [madeCells, costV_len]
  · intro i h1 h2
    have h3 : i < n * 2 := by simp [costV_len] at h2; exact h2
    have e := costV_rep n i h3
    have e2 : (costV (List.replicate n (0, 0))).toArray[i] = .int .i64 0 := by
      rw [List.getElem_toArray]
      rw [List.getElem?_eq_getElem (by rw [costV_len]; simpa using h3)] at e
      exact Option.some.inj e
    rw [e2]
    have h4 : i % 2 = 0 ∨ i % 2 = 1 := by omega
    rcases h4 with h4 | h4 <;> simp [madeCells, Value.cells, h4]
theorem made_bool (n : Nat) : madeCells (Value.bool false).cells n = boolA (List.replicate n false) := by
  apply Array.ext
  · simp [madeCells, boolA]
  · intro i h1 h2
    simp [madeCells, boolA, Value.cells, Nat.mod_one]
theorem make_cost (n : Nat) (hn : n ≤ 1048576) (W : World) : (Instr.makeSlice 147 (.int .i64 (n : Int)) (.int .i64 (n : Int))).run Try.prog W = .ok (.slice (some ⟨W.heap.size, 0, none⟩) n n) (W.alloc (.cells (costV (List.replicate n (0, 0))).toArray 150)) := by
  obtain ⟨i, hi, hz, hs, hb⟩ := info_parts info_cost
  have hr := run_make (P := Try.prog) W 147 150 i (.agg #[.int .i64 0, .int .i64 0]) Try.underlying147 hi hz .i64 .i64 n n (by omega) (Int.le_refl _) (by rw [hb]; omega) (by omega)
  rw [hs] at hr
  simp only [Int.toNat_natCast, made_cost] at hr
  exact hr
theorem make_bool (n : Nat) (hn : n ≤ 1048576) (W : World) : (Instr.makeSlice 148 (.int .i64 (n : Int)) (.int .i64 (n : Int))).run Try.prog W = .ok (.slice (some ⟨W.heap.size, 0, none⟩) n n) (W.alloc (.cells (boolA (List.replicate n false)) 4)) := by
  obtain ⟨i, hi, hz, hs, hb⟩ := info_parts info_bool
  have hr := run_make (P := Try.prog) W 148 4 i (.bool false) Try.underlying148 hi hz .i64 .i64 n n (by omega) (Int.le_refl _) (by rw [hb]; omega) (by omega)
  rw [hs] at hr
  simp only [Int.toNat_natCast, Nat.mul_one, made_bool] at hr
  exact hr
set_option maxHeartbeats 1000000 in
theorem with_any (c p : Int) (x : UInt8) (w : World) (c0 : 0 ≤ c) (c1 : c ≤ 1000) (p0 : 0 ≤ p) (p1 : p ≤ 1000) :
    Calls Try.prog 126 #[.agg #[.int .i64 c, .int .i64 p], .int .u8 (x.toNat : Int)] w fun e w' => e = .returned (.agg #[.int .i64 (c + cU x), .int .i64 (p + 1)]) ∧ Below w.heap.size w w' := by
  have HC := Lib.hid (show cU x = if kU x then 1 else 0 from rfl)
  go_enter Try.func126, Try.ntmps126
  go_wp2_with fail
  refine (isCut_any x _).mono ?_
  rintro e1 w1 ⟨rfl, rfl⟩
  cases hk : kU x
  · have HE : Hid (cU x = 0) := Lib.hid (by rw [HC.out, hk]; rfl)
    clear hk
    go_wp2
    refine bodyPost_ret (v := .agg #[.int .i64 c, .int .i64 (p + 1)]) (by simp [results, Try.results126, go_sem]) rfl ⟨by rw [HE.out, Int.add_zero], ?_⟩
    exact (by repeat (first | exact Below.refl _ _ | assumption | refine Below.drew ?_ | refine below_drewN ?_ _ | refine Below.alloc ?_ (by first | omega | (simp; done) | (simp; omega)) _ | refine Below.setCell ?_ (by first | omega | (simp; done) | (simp; omega)) _))
  · have HE : Hid (cU x = 1) := Lib.hid (by rw [HC.out, hk]; rfl)
    clear hk
    go_wp2
    refine bodyPost_ret (v := .agg #[.int .i64 (c + 1), .int .i64 (p + 1)]) (by simp [results, Try.results126, go_sem]) rfl ⟨by rw [HE.out], ?_⟩
    exact (by repeat (first | exact Below.refl _ _ | assumption | refine Below.drew ?_ | refine below_drewN ?_ _ | refine Below.alloc ?_ (by first | omega | (simp; done) | (simp; omega)) _ | refine Below.setCell ?_ (by first | omega | (simp; done) | (simp; omega)) _))
set_option maxHeartbeats 1000000 in
theorem lessC_any (c p c' p' : Int) (w : World) :
    Calls Try.prog 127 #[.agg #[.int .i64 c, .int .i64 p], .agg #[.int .i64 c', .int .i64 p']] w fun e w' => e = .returned (.bool (lessB c p c' p')) ∧ Below w.heap.size w w' := by
  by_cases h1 : c < c'
  · have HE := Lib.hid (show lessB c p c' p' = true by simp [lessB, h1])
    go_enter Try.func127, Try.ntmps127
    go_wp2
    go_ret
    exact ⟨ret_bool (by rw [HE.out]), (by repeat (first | exact Below.refl _ _ | assumption | refine Below.drew ?_ | refine below_drewN ?_ _ | refine Below.alloc ?_ (by first | omega | (simp; done) | (simp; omega)) _ | refine Below.setCell ?_ (by first | omega | (simp; done) | (simp; omega)) _))⟩
  · by_cases h2 : c = c'
    · subst h2
      by_cases h3 : p < p'
      · have HE := Lib.hid (show lessB c p c p' = true by simp [lessB, h3])
        go_enter Try.func127, Try.ntmps127
        go_wp2
        go_ret
        exact ⟨ret_bool (by rw [HE.out]), (by repeat (first | exact Below.refl _ _ | assumption | refine Below.drew ?_ | refine below_drewN ?_ _ | refine Below.alloc ?_ (by first | omega | (simp; done) | (simp; omega)) _ | refine Below.setCell ?_ (by first | omega | (simp; done) | (simp; omega)) _))⟩
      · have HE := Lib.hid (show lessB c p c p' = false by simp [lessB, h3])
        go_enter Try.func127, Try.ntmps127
        go_wp2
        go_ret
        exact ⟨ret_bool (by rw [HE.out]), (by repeat (first | exact Below.refl _ _ | assumption | refine Below.drew ?_ | refine below_drewN ?_ _ | refine Below.alloc ?_ (by first | omega | (simp; done) | (simp; omega)) _ | refine Below.setCell ?_ (by first | omega | (simp; done) | (simp; omega)) _))⟩
    · have h2' : (c == c') = false := by simpa using h2
      have HE := Lib.hid (show lessB c p c' p' = false by simp [lessB, h1, h2])
      clear h2
      go_enter Try.func127, Try.ntmps127
      go_wp2
      go_ret
      exact ⟨ret_bool (by rw [HE.out]), (by repeat (first | exact Below.refl _ _ | assumption | refine Below.drew ?_ | refine below_drewN ?_ _ | refine Below.alloc ?_ (by first | omega | (simp; done) | (simp; omega)) _ | refine Below.setCell ?_ (by first | omega | (simp; done) | (simp; omega)) _))⟩
set_option maxHeartbeats 400000 in
theorem allowed_any (n : Int) (w : World) : Calls Try.prog 88 #[.int .i64 n] w fun e w' => e = .returned (.bool true) ∧ w = w' := by
  go_enter Try.func88, Try.ntmps88
  go_wp2
  go_ret
  exact ⟨rfl, rfl⟩
theorem ArrS.far {W : World} {g g' i : Nat} {T : List ByteArray} {v : Value} (h : ArrS W g T) (hne : g ≠ g') : ArrS (W.setCell ⟨g', i, none⟩ v) g T := blk_far h hne v
theorem ArrC.far {W : World} {g g' i : Nat} {T : List (Int × Int)} {v : Value} (h : ArrC W g T) (hne : g ≠ g') : ArrC (W.setCell ⟨g', i, none⟩ v) g T := blk_far h hne v
theorem ArrB.far {W : World} {g g' i : Nat} {T : List Bool} {v : Value} (h : ArrB W g T) (hne : g ≠ g') : ArrB (W.setCell ⟨g', i, none⟩ v) g T := blk_far h hne v
theorem ltr_at (i : Nat) (hi : i < 4) (h : i < (⟨#[67, 72, 83, 84]⟩ : ByteArray).size) : (⟨#[67, 72, 83, 84]⟩ : ByteArray)[i] = ltrU i := by
  match i, hi with
  | 0, _ => rfl
  | 1, _ => rfl
  | 2, _ => rfl
  | 3, _ => rfl
theorem ltr_one (i : Nat) (hi : i < 4) : ((⟨#[67, 72, 83, 84]⟩ : ByteArray).extract i (i + 1)).data.toList = [ltrU i] := by
  match i, hi with
  | 0, _ => rfl
  | 1, _ => rfl
  | 2, _ => rfl
  | 3, _ => rfl
theorem ltr_q (i : Nat) : 1 ≤ qU (ltrU i) ∧ qU (ltrU i) ≤ 4 ∧ (i = 0 → qU (ltrU i) = 1) := by
  refine ⟨?_, ?_, fun h => by subst h; decide⟩
  · unfold ltrU; repeat' split
    all_goals decide
  · unfold ltrU; repeat' split
    all_goals decide
theorem keep3n {W : World} {p a0 a1 a2 : Addr} {u v0 v1 v2 : Value} (h : W.cell? a0 = some v0 ∧ W.cell? a1 = some v1 ∧ W.cell? a2 = some v2) (h0 : p ≠ a0) (h1 : p ≠ a1) (h2 : p ≠ a2) :
    (W.setCell p u).cell? a0 = some v0 ∧ (W.setCell p u).cell? a1 = some v1 ∧ (W.setCell p u).cell? a2 = some v2 :=
  ⟨by rw [World.cell?_setCell_other _ _ _ _ h0]; exact h.1, by rw [World.cell?_setCell_other _ _ _ _ h1]; exact h.2.1, by rw [World.cell?_setCell_other _ _ _ _ h2]; exact h.2.2⟩
theorem addr_ne {b b' o o' : Nat} (h : b ≠ b' ∨ o ≠ o') : (⟨b, o, none⟩ : Addr) ≠ ⟨b', o', none⟩ := fun e => by
  injection e with e1 e2
  omega
theorem ext_size (i : Nat) (hi : i < 4) : ((⟨#[67, 72, 83, 84]⟩ : ByteArray).extract i (i + 1)).size = 1 := by
  match i, hi with
  | 0, _ => rfl
  | 1, _ => rfl
  | 2, _ => rfl
  | 3, _ => rfl
theorem drew3 {W : World} {a0 a1 a2 : Addr} {v0 v1 v2 : Value} (h : W.cell? a0 = some v0 ∧ W.cell? a1 = some v1 ∧ W.cell? a2 = some v2) : W.drew.cell? a0 = some v0 ∧ W.drew.cell? a1 = some v1 ∧ W.drew.cell? a2 = some v2 := h
theorem bset_all {w W : World} {g1 g2 g3 a : Nat} {T : List ByteArray} {C : List (Int × Int)} {K : List Bool} {s : ByteArray} {c p : Int} (h1 : ArrS W g1 T) (h2 : ArrC W g2 C) (h3 : ArrB W g3 K) (h4 : Below w.heap.size w W) (hC : a < C.length) (n12 : g1 ≠ g2) (n13 : g1 ≠ g3) (n23 : g2 ≠ g3) (b1 : w.heap.size ≤ g1) (b2 : w.heap.size ≤ g2) (b3 : w.heap.size ≤ g3) :
    ArrS ((((W.setCell ⟨g1, a, none⟩ (.string s)).setCell ⟨g2, a * 2, none⟩ (.int .i64 c)).setCell ⟨g2, a * 2 + 1, none⟩ (.int .i64 p)).setCell ⟨g3, a, none⟩ (.bool true)).drew g1 (T.set a s) ∧
    ArrC ((((W.setCell ⟨g1, a, none⟩ (.string s)).setCell ⟨g2, a * 2, none⟩ (.int .i64 c)).setCell ⟨g2, a * 2 + 1, none⟩ (.int .i64 p)).setCell ⟨g3, a, none⟩ (.bool true)).drew g2 (C.set a (c, p)) ∧
    ArrB ((((W.setCell ⟨g1, a, none⟩ (.string s)).setCell ⟨g2, a * 2, none⟩ (.int .i64 c)).setCell ⟨g2, a * 2 + 1, none⟩ (.int .i64 p)).setCell ⟨g3, a, none⟩ (.bool true)).drew g3 (K.set a true) ∧
    Below w.heap.size w ((((W.setCell ⟨g1, a, none⟩ (.string s)).setCell ⟨g2, a * 2, none⟩ (.int .i64 c)).setCell ⟨g2, a * 2 + 1, none⟩ (.int .i64 p)).setCell ⟨g3, a, none⟩ (.bool true)).drew :=
  ⟨((((h1.set a s).far n12).far n12).far n13 : ArrS _ g1 _), (((h2.far (Ne.symm n12)).set hC c p).far n23 : ArrC _ g2 _), ((((h3.far (Ne.symm n13)).far (Ne.symm n23)).far (Ne.symm n23)).set a true : ArrB _ g3 _), ((((h4.setCell b1 _).setCell b2 _).setCell b2 _).setCell b3 _).drew⟩
/-- What bestCourse hands back. -/
def BestR (w : World) (L : Int) (e : Ending) (w' : World) : Prop := ∃ s : ByteArray, e = .returned (.tuple #[.string s, .bool true]) ∧ Cour L s ∧ cutU s.data.toList = L % 2 ∧ Below w.heap.size w w'
set_option maxRecDepth 100000 in
set_option maxHeartbeats 16000000 in
theorem bestCourse_any (L : Nat) (w : World) (l1 : 1 ≤ L) (l2 : L ≤ 40) :
    Calls Try.prog 87 #[.int .i64 (L : Int), .func (Fn.func 88) #[] #[]] w (BestR w (L : Int)) := by
  have hm1 : ∀ W, (Instr.makeSlice 48 (.int .i64 ((L : Int) + 1)) (.int .i64 ((L : Int) + 1))).run Try.prog W = .ok (.slice (some ⟨W.heap.size, 0, none⟩) (L + 1) (L + 1)) (W.alloc (.cells (strsA (List.replicate (L + 1) ByteArray.empty)) 9)) := fun W => make_str (L + 1) (by omega) W
  have hm2 : ∀ W, (Instr.makeSlice 147 (.int .i64 ((L : Int) + 1)) (.int .i64 ((L : Int) + 1))).run Try.prog W = .ok (.slice (some ⟨W.heap.size, 0, none⟩) (L + 1) (L + 1)) (W.alloc (.cells (costV (List.replicate (L + 1) (0, 0))).toArray 150)) := fun W => make_cost (L + 1) (by omega) W
  have hm3 : ∀ W, (Instr.makeSlice 148 (.int .i64 ((L : Int) + 1)) (.int .i64 ((L : Int) + 1))).run Try.prog W = .ok (.slice (some ⟨W.heap.size, 0, none⟩) (L + 1) (L + 1)) (W.alloc (.cells (boolA (List.replicate (L + 1) false)) 4)) := fun W => make_bool (L + 1) (by omega) W
  have i1 := IntWalk.i64_in ((L : Int) + 1) (by omega)
  go_enter Try.func87, Try.ntmps87
  go_wp2_with fail
  go_cut [6, 7, 8] (fun s6 s7 s8 wx => ∃ g1 g2 g3 : Nat, s6 = .slice (some ⟨g1, 0, none⟩) (L + 1) (L + 1) ∧ s7 = .slice (some ⟨g2, 0, none⟩) (L + 1) (L + 1) ∧ s8 = .slice (some ⟨g3, 0, none⟩) (L + 1) (L + 1) ∧ ArrS wx g1 (List.replicate (L + 1) ByteArray.empty) ∧ ArrC wx g2 (List.replicate (L + 1) (0, 0)) ∧ ArrB wx g3 (List.replicate (L + 1) false) ∧ (g1 ≠ g2 ∧ g1 ≠ g3 ∧ g2 ≠ g3) ∧ (w.heap.size ≤ g1 ∧ w.heap.size ≤ g2 ∧ w.heap.size ≤ g3) ∧ Below w.heap.size w wx)
  case first =>
    go_region
    all_goals
      go_wp2
      go_meet
    all_goals
      refine ⟨_, _, _, rfl, rfl, rfl, ?_, ?_, ?_, ⟨by omega, by omega, by omega⟩, ⟨?_, ?_, ?_⟩, ?_⟩
      all_goals first | omega | exact blk_alloc (blk_alloc (blk_new _ _)) | exact blk_alloc (blk_new' _ _ (by simp)) | exact blk_new' _ _ (by simp) | exact ((((Below.refl _ _).alloc (Nat.le_refl _) _).alloc (by simp) _).alloc (by simp; omega) _).drew
  case rest =>
    obtain ⟨g1, g2, g3, rfl, rfl, rfl, hA1, hA2, hA3, ⟨ne12, ne13, ne23⟩, ⟨hg1, hg2, hg3⟩, hB⟩ := hcut
    clear hm1 hm2 hm3 i1
    have f3 : wc.frozen? ⟨g3, L, none⟩ = false := frozenOf hA3 L
    have e3 := hA3.cell (i := L) (by simp)
    have HT := Lib.hid (btab_start L)
    have HA1 := Lib.hid (hA1.far (i := L) (v := .bool true) ne13)
    have HA2 := Lib.hid (hA2.far (i := L) (v := .bool true) ne23)
    have HA3 := Lib.hid (hA3.set L true)
    have HB := Lib.hid (hB.setCell (p := ⟨g3, L, none⟩) hg3 (.bool true))
    have hlI : (L : Int) < (L : Int) + 1 := by omega
    have hlN : L < L + 1 := by omega
    clear hA1 hA2 hA3 hB
    generalize (List.replicate (L + 1) false).getD L false = b0 at *
    generalize List.replicate (L + 1) ByteArray.empty = T0 at *
    generalize List.replicate (L + 1) ((0, 0) : Int × Int) = C0 at *
    generalize (List.replicate (L + 1) false).set L true = K0 at *
    go_wp2_with fail
    clear e3 f3
    go_loopw [9, 10, 11, 12, 13] (fun av _ _ _ _ wr => ∃ (q : Int) (a : Nat) (T : List ByteArray) (C : List (Int × Int)) (K : List Bool), av = .int .i64 q ∧ q = (a : Int) - 1 ∧ a ≤ L ∧ BTab L T C K a ∧ ArrS wr g1 T ∧ ArrC wr g2 C ∧ ArrB wr g3 K ∧ Below w.heap.size w wr) (fun av _ _ _ _ _ => (intOf av + 1).toNat)
    case atStart => exact ⟨_, L, T0, C0, K0, rfl, rfl, Nat.le_refl _, HT.out, HA1.out, HA2.out, HA3.out, HB.out⟩
    case round =>
      clear HT HA1 HA2 HA3 HB
      obtain ⟨q, a, T, C, K, rfl, hq, ha, hT, hA1, hA2, hA3, hB⟩ := hrel
      cases a with
      | zero =>
        have hqn : ¬ (0 : Int) ≤ q := by omega
        clear hq
        obtain ⟨hK, hCo, hcu⟩ := btab_best hT l1 l2
        have e1 := hA1.cell (i := 0) (by rw [hT.tl]; omega)
        have e3 := hA3.cell (i := 0) (by rw [hT.kl]; omega)
        rw [hK] at e3
        have HD := Lib.hid (And.intro hCo hcu)
        have hl0 : (0 : Int) < (L : Int) + 1 := by omega
        clear hA1 hA2 hA3 hT hK hCo hcu
        generalize T.getD 0 ByteArray.empty = s at *
        go_wp2_with fail
        go_quiet (fail)
        go_wp2
        go_ret2
        exact ⟨s, rfl, HD.out.1, HD.out.2, (by repeat (first | exact Below.refl _ _ | assumption | refine Below.drew ?_ | refine below_drewN ?_ _ | refine Below.alloc ?_ (by first | omega | (simp; done) | (simp; omega)) _ | refine Below.setCell ?_ (by first | omega | (simp; done) | (simp; omega)) _))⟩
      | succ a =>
        obtain rfl : q = (a : Int) := by omega
        have HP := Lib.hid (bpart_start hT)
        have HA1 := Lib.hid hA1
        have HA2 := Lib.hid hA2
        have HA3 := Lib.hid hA3
        have HB := Lib.hid hB
        have hq0 : (0 : Int) ≤ (a : Int) := by omega
        clear hT hA1 hA2 hA3 hB hq
        go_wp2_with fail
        go_loopw [32, 10, 11, 12, 13] (fun iv _ _ _ _ wr => ∃ (i : Nat) (T : List ByteArray) (C : List (Int × Int)) (K : List Bool), i ≤ 4 ∧ iv = .int .i64 (i : Int) ∧ BPart L T C K a i ∧ ArrS wr g1 T ∧ ArrC wr g2 C ∧ ArrB wr g3 K ∧ Below w.heap.size w wr) (fun iv _ _ _ _ _ => (4 - intOf iv).toNat)
        case atStart => exact ⟨0, T, C, K, by omega, rfl, HP.out, HA1.out, HA2.out, HA3.out, HB.out⟩
        case round =>
          clear HP HA1 HA2 HA3 HB
          obtain ⟨i, T, C, K, hi, rfl, hP, hA1, hA2, hA3, hB⟩ := hrel
          by_cases hi4 : i < 4
          · have hi4' : (i : Int) < 4 := by omega
            have HP := Lib.hid hP
            have HA1 := Lib.hid hA1
            have HA2 := Lib.hid hA2
            have HA3 := Lib.hid hA3
            have HB := Lib.hid hB
            clear hP hA1 hA2 hA3 hB
            obtain ⟨q1, q4, qz⟩ := ltr_q i
            obtain ⟨e, he⟩ : ∃ e : Nat, (a : Int) + qU (ltrU i) = (e : Int) := ⟨((a : Int) + qU (ltrU i)).toNat, by omega⟩
            have HE := Lib.hid he
            have HQZ := Lib.hid qz
            clear qz
            go_wp2_with fail
            generalize hcc : (⟨#[67, 72, 83, 84]⟩ : ByteArray)[i] = x at *
            have HX : Hid (x = ltrU i) := Lib.hid (by rw [← hcc]; exact ltr_at i hi4 _)
            refine (quarters_any x _).mono ?_
            rintro e1 w1 ⟨rfl, rfl⟩
            rw [← HX.out] at he q1 q4
            clear hcc
            generalize hqv : qU x = qv at *
            have HQV := Lib.hid hqv
            clear hqv
            by_cases hLe : L < e
            · have hLe' : (L : Int) < (e : Int) := by omega
              have HPn : Hid (BPart L T C K a (i + 1)) := Lib.hid (bpart_keep HP.out hi4 (by
                rcases Nat.eq_zero_or_pos i with h | h
                · have := HQZ.out h
                  have := HE.out
                  omega
                · exact h) HE.out.symm (.inl hLe))
              go_wp2
              go_roundw
              case rel => exact ⟨i + 1, T, C, K, by omega, by go_num, HPn.out, HA1.out, HA2.out, HA3.out, HB.out⟩
              case measure => first | (simp [intOf]; done) | (simp [intOf]; omega)
            · have hLe1 : e ≤ L := by omega
              have hae : a < e := by omega
              obtain ⟨⟨hKe, hEe⟩, hCe⟩ := HP.out.ok e (by omega) hLe1
              have k1 := HA3.out.cell (i := e) (by rw [HP.out.kl]; omega)
              rw [hKe] at k1
              obtain ⟨k2, k3⟩ := HA2.out.cell (i := e) (by rw [HP.out.cl]; omega)
              obtain ⟨b0', b1', b2'⟩ := hEe.ct
              have b3' := hEe.p0
              have b4' := hEe.p1
              obtain ⟨c0, hc0⟩ : ∃ c0, (C.getD e (0, 0)).1 = c0 := ⟨_, rfl⟩
              obtain ⟨p0, hp0⟩ : ∃ p0, (C.getD e (0, 0)).2 = p0 := ⟨_, rfl⟩
              rw [hc0] at k2 b1' b2'
              rw [hp0] at k3 b3' b4'
              have HC0 := Lib.hid (And.intro hc0 hp0)
              have HAL := Lib.hid (fun W => allowed_any (e : Int) W)
              have HWI := Lib.hid (fun W => with_any c0 p0 x W b1' (by omega) b3' (by omega))
              have hcu := cU_bd x
              have hnl : ¬ (L : Int) < (e : Int) := by omega
              have heI : (e : Int) < (L : Int) + 1 := by omega
              have heN : e < L + 1 := by omega
              have he0 : (0 : Int) ≤ (e : Int) := by omega
              clear hKe hEe hCe b0' hc0 hp0 hLe
              by_cases hel : e < L
              · have hel' : (e : Int) < (L : Int) := by omega
                go_wp2_with fail
                refine (HAL.out _).mono ?_
                rintro e1 w1 ⟨rfl, rfl⟩
                go_wp2_with fail
                refine (HWI.out _).mono ?_
                rintro e2 w2 ⟨rfl, hb2⟩
                obtain ⟨W4, hW4⟩ : ∃ W4, w2.alloc (.cells #[.int .i64 (c0 + cU x), .int .i64 (p0 + 1)] 150) = W4 := ⟨_, rfl⟩
                have A1 : Hid (ArrS W4 g1 T) := Lib.hid (by rw [← hW4]; exact blk_alloc (blk_call HA1.out hb2))
                have A2 : Hid (ArrC W4 g2 C) := Lib.hid (by rw [← hW4]; exact blk_alloc (blk_call HA2.out hb2))
                have A3 : Hid (ArrB W4 g3 K) := Lib.hid (by rw [← hW4]; exact blk_alloc (blk_call HA3.out hb2))
                have B4 : Hid (W4.heap[w2.heap.size]? = some (.cells #[.int .i64 (c0 + cU x), .int .i64 (p0 + 1)] 150 (0, 0))) := Lib.hid (by rw [← hW4]; exact blk_new _ _)
                have BB := below_call HB.out hb2
                have hB4 : Hid (Below w.heap.size w W4) := Lib.hid (by rw [← hW4]; exact BB.alloc BB.size _)
                have hgt : g1 < w2.heap.size ∧ g2 < w2.heap.size ∧ g3 < w2.heap.size := ⟨blk_lt (blk_call HA1.out hb2), blk_lt (blk_call HA2.out hb2), blk_lt (blk_call HA3.out hb2)⟩
                have HW4 := Lib.hid hW4
                clear hW4 hb2 BB k1 k2 k3 HA1 HA2 HA3 HB HWI HAL
                go_wp2_with fail
                rw [HW4.out]
                clear HW4
                obtain ⟨h41, h42, h43⟩ := hgt
                generalize w2.heap.size = g4 at *
                have c0' := cellOf B4.out 0
                have c1' := cellOf B4.out 1
                simp at c0' c1'
                have k5 := A3.out.cell (i := a) (by rw [HP.out.kl]; omega)
                have haI : (a : Int) < (L : Int) + 1 := by omega
                have haN : a < L + 1 := by omega
                cases hKa : K.getD a false
                · rw [hKa] at k5
                  have HL := Lib.hid (show i = 0 ∨ lessB (c0 + cU x) (p0 + 1) (C.getD a (0, 0)).1 (C.getD a (0, 0)).2 = true from .inl (by
                    rcases Nat.eq_zero_or_pos i with h | h
                    · exact h
                    · have := (HP.out.inn.2 h).1.1
                      rw [hKa] at this; cases this))
                  clear hKa
                  go_quiet (fail)
                  clear k5
                  go_wp2_with fail
                  obtain ⟨W5, hW5⟩ : ∃ W5, W4.drewN nq = W5 := ⟨_, rfl⟩
                  have D1 : Hid (ArrS W5 g1 T) := Lib.hid (by rw [← hW5]; exact A1.out)
                  have D2 : Hid (ArrC W5 g2 C) := Lib.hid (by rw [← hW5]; exact A2.out)
                  have D3 : Hid (ArrB W5 g3 K) := Lib.hid (by rw [← hW5]; exact A3.out)
                  have D4 : Hid (Below w.heap.size w W5) := Lib.hid (by rw [← hW5]; first | exact hB4.out | exact below_drewN hB4.out _)
                  have d0 : W5.cell? ⟨g4, 0, none⟩ = some (.int .i64 (c0 + cU x)) := by rw [← hW5]; exact c0'
                  have d1 : W5.cell? ⟨g4, 1, none⟩ = some (.int .i64 (p0 + 1)) := by rw [← hW5]; exact c1'
                  rw [hW5]
                  clear hW5 A1 A2 A3 B4 hB4 c0' c1'
                  have HEN := HE.out
                  obtain ⟨⟨hKe, hEe⟩, hCe⟩ := HP.out.ok e (by omega) hLe1
                  have hsz := hEe.size
                  have s1 := D1.out.cell (i := e) (by rw [HP.out.tl]; omega)
                  have s2 := D1.out.cell (i := a) (by rw [HP.out.tl]; omega)
                  obtain ⟨s3, s4⟩ := D2.out.cell (i := a) (by rw [HP.out.cl]; omega)
                  have s5 := D3.out.cell (i := a) (by rw [HP.out.kl]; omega)
                  have fz1 : W5.frozen? ⟨g1, a, none⟩ = false := frozenOf D1.out a
                  have fz2 : W5.frozen? ⟨g2, a * 2, none⟩ = false := frozenOf D2.out (a * 2)
                  have fz3 : W5.frozen? ⟨g2, a * 2 + 1, none⟩ = false := frozenOf D2.out (a * 2 + 1)
                  have fz4 : W5.frozen? ⟨g3, a, none⟩ = false := frozenOf D3.out a
                  obtain ⟨sE, hsE⟩ : ∃ sE, T.getD e ByteArray.empty = sE := ⟨_, rfl⟩
                  rw [hsE] at s1 hsz
                  have HSE := Lib.hid hsE
                  clear hsE
                  have hz : ¬ 9223372036854775807 < ((⟨#[67, 72, 83, 84]⟩ : ByteArray).extract i (i + 1)).size + sE.size := by rw [ext_size i hi4]; omega
                  have hz2 : ¬ 9223372036854775807 < min (i + 1) 4 - i + sE.size := by omega
                  have hz3 : ¬ 9223372036854775807 < min (i + 1) (⟨#[67, 72, 83, 84]⟩ : ByteArray).size - i + sE.size := by rw [show (⟨#[67, 72, 83, 84]⟩ : ByteArray).size = 4 from rfl]; omega
                  have HPS := Lib.hid (bpart_set (s := (⟨#[67, 72, 83, 84]⟩ : ByteArray).extract i (i + 1)) HP.out hi4 HE.out.symm hLe1 (ltr_one i hi4) (by rw [← HX.out, HC0.out.1, HC0.out.2]; exact HL.out))
                  rw [← HX.out, HC0.out.1, HC0.out.2, HSE.out] at HPS
                  have HF := Lib.hid (bset_all (a := a) (s := (⟨#[67, 72, 83, 84]⟩ : ByteArray).extract i (i + 1) ++ sE) (c := c0 + cU x) (p := p0 + 1) D1.out D2.out D3.out D4.out (by rw [HP.out.cl]; omega) ne12 ne13 ne23 hg1 hg2 hg3)
                  have S0' : W5.cell? ⟨g1, e, none⟩ = some (.string sE) ∧ W5.cell? ⟨g4, 0, none⟩ = some (.int .i64 (c0 + cU x)) ∧ W5.cell? ⟨g4, 1, none⟩ = some (.int .i64 (p0 + 1)) := ⟨s1, d0, d1⟩
                  have S0 := drew3 S0'
                  have n10 : (⟨g1, a, none⟩ : Addr) ≠ ⟨g1, e, none⟩ := addr_ne (by omega)
                  have n11 : (⟨g1, a, none⟩ : Addr) ≠ ⟨g4, 0, none⟩ := addr_ne (by omega)
                  have n12 : (⟨g1, a, none⟩ : Addr) ≠ ⟨g4, 1, none⟩ := addr_ne (by omega)
                  have n20 : (⟨g2, a * 2, none⟩ : Addr) ≠ ⟨g1, e, none⟩ := addr_ne (by omega)
                  have n21 : (⟨g2, a * 2, none⟩ : Addr) ≠ ⟨g4, 0, none⟩ := addr_ne (by omega)
                  have n22 : (⟨g2, a * 2, none⟩ : Addr) ≠ ⟨g4, 1, none⟩ := addr_ne (by omega)
                  have n23 : (⟨g2, a * 2 + 1, none⟩ : Addr) ≠ ⟨g1, e, none⟩ := addr_ne (by omega)
                  have n24 : (⟨g2, a * 2 + 1, none⟩ : Addr) ≠ ⟨g4, 0, none⟩ := addr_ne (by omega)
                  have n25 : (⟨g2, a * 2 + 1, none⟩ : Addr) ≠ ⟨g4, 1, none⟩ := addr_ne (by omega)
                  have n30 : (⟨g3, a, none⟩ : Addr) ≠ ⟨g1, e, none⟩ := addr_ne (by omega)
                  have n31 : (⟨g3, a, none⟩ : Addr) ≠ ⟨g4, 0, none⟩ := addr_ne (by omega)
                  have n32 : (⟨g3, a, none⟩ : Addr) ≠ ⟨g4, 1, none⟩ := addr_ne (by omega)
                  have S1 := fun u => drew3 (keep3n (u := u) S0' n10 n11 n12)
                  have S2 := fun u u1 u2 => drew3 (keep3n (u := u2) (keep3n (u := u1) (keep3n (u := u) S0' n10 n11 n12) n20 n21 n22) n23 n24 n25)
                  have S3 := fun u u1 u2 u3 => drew3 (keep3n (u := u3) (keep3n (u := u2) (keep3n (u := u1) (keep3n (u := u) S0' n10 n11 n12) n20 n21 n22) n23 n24 n25) n30 n31 n32)
                  clear S0'
                  clear hKe hEe hCe hsz HEN
                  have i1 := IntWalk.i64_in ((i : Int) + 1) (by omega)
                  have i2 : 0 ≤ (i : Int) + 1 := by omega
                  have i3 : ((i : Int) + 1).toNat = i + 1 := by omega
                  have i4 : (i : Int) ≤ (i : Int) + 1 := by omega
                  have i5 : (i : Int) + 1 ≤ 4 := by omega
                  go_region_held3 (fun w' => w'.cell? ⟨g1, e, none⟩ = some (.string sE) ∧ w'.cell? ⟨g4, 0, none⟩ = some (.int .i64 (c0 + cU x)) ∧ w'.cell? ⟨g4, 1, none⟩ = some (.int .i64 (p0 + 1))) (first | (with_reducible exact S0) | (with_reducible exact S1 _) | (with_reducible exact S2 _ _ _) | (with_reducible exact S3 _ _ _ _)) ((fail))
                  clear S0 S1 S2 S3 i1 i2 i3 i4 i5 s1 s2 s3 s4 s5 fz1 fz2 fz3 fz4 d0 d1 hz hz2 hz3 n10 n11 n12 n20 n21 n22 n23 n24 n25 n30 n31 n32
                  go_wp2
                  go_roundw
                  case rel => exact ⟨i + 1, _, _, _, by omega, by go_num, HPS.out, HF.out.1, HF.out.2.1, HF.out.2.2.1, HF.out.2.2.2⟩
                  case measure => first | (simp [intOf]; done) | (simp [intOf]; omega)
                · rw [hKa] at k5
                  have hi1 : 1 ≤ i := by
                    rcases Nat.eq_zero_or_pos i with h | h
                    · have := HP.out.inn.1 h
                      rw [hKa] at this; cases this
                    · exact h
                  clear hKa
                  obtain ⟨k6, k7⟩ := A2.out.cell (i := a) (by rw [HP.out.cl]; omega)
                  obtain ⟨ca, hca⟩ : ∃ ca, (C.getD a (0, 0)).1 = ca := ⟨_, rfl⟩
                  obtain ⟨pa, hpa⟩ : ∃ pa, (C.getD a (0, 0)).2 = pa := ⟨_, rfl⟩
                  rw [hca] at k6
                  rw [hpa] at k7
                  have HCA := Lib.hid (And.intro hca hpa)
                  have HLS := Lib.hid (fun W => lessC_any (c0 + cU x) (p0 + 1) ca pa W)
                  clear hca hpa
                  refine wp_region_still_tail 11 (by kernel_rfl) (by kernel_rfl) ?_
                  simp only [List.take_succ_cons, List.take_zero, List.drop_succ_cons, List.drop_zero]
                  change wpStill _ _ (World.drew _) _ _ _
                  repeat still_step
                  refine wpStill_nil ?_
                  change wpList _ _ _ _ _ (World.drew _)
                  go_wp2_with fail
                  refine (HLS.out _).mono ?_
                  rintro e5 w5 ⟨rfl, hb5⟩
                  clear k5 k6 k7 c0' c1' HLS
                  have A1' : Hid (ArrS w5 g1 T) := Lib.hid (blk_call (W := W4.drew) A1.out hb5)
                  have A2' : Hid (ArrC w5 g2 C) := Lib.hid (blk_call (W := W4.drew) A2.out hb5)
                  have A3' : Hid (ArrB w5 g3 K) := Lib.hid (blk_call (W := W4.drew) A3.out hb5)
                  have B4' := Lib.hid (blk_call (W := W4.drew) B4.out hb5)
                  have hB4' : Hid (Below w.heap.size w w5) := Lib.hid (below_call (W := W4.drew) hB4.out.drew hb5)
                  clear A1 A2 A3 B4 hB4 hb5
                  cases hls : lessB (c0 + cU x) (p0 + 1) ca pa
                  · have HPn : Hid (BPart L T C K a (i + 1)) := Lib.hid (bpart_keep HP.out hi4 hi1 HE.out.symm (.inr ⟨hLe1, by rw [← HX.out, HC0.out.1, HC0.out.2, HCA.out.1, HCA.out.2]; exact hls⟩))
                    clear hls
                    go_wp2
                    go_roundw
                    case rel => exact ⟨i + 1, T, C, K, by omega, by go_num, HPn.out, A1'.out, A2'.out, A3'.out, hB4'.out⟩
                    case measure => first | (simp [intOf]; done) | (simp [intOf]; omega)
                  · have HL : Hid (i = 0 ∨ lessB (c0 + cU x) (p0 + 1) (C.getD a (0, 0)).1 (C.getD a (0, 0)).2 = true) := Lib.hid (.inr (by rw [HCA.out.1, HCA.out.2]; exact hls))
                    clear hls HCA
                    have A1 := A1'
                    have A2 := A2'
                    have A3 := A3'
                    have B4 := B4'
                    have hB4 := hB4'
                    have c0' := cellOf B4.out 0
                    have c1' := cellOf B4.out 1
                    simp at c0' c1'
                    clear A1' A2' A3' B4' hB4'
                    go_wp2_with fail
                    obtain ⟨W5, hW5⟩ : ∃ W5, w5 = W5 := ⟨_, rfl⟩
                    have D1 : Hid (ArrS W5 g1 T) := Lib.hid (by rw [← hW5]; exact A1.out)
                    have D2 : Hid (ArrC W5 g2 C) := Lib.hid (by rw [← hW5]; exact A2.out)
                    have D3 : Hid (ArrB W5 g3 K) := Lib.hid (by rw [← hW5]; exact A3.out)
                    have D4 : Hid (Below w.heap.size w W5) := Lib.hid (by rw [← hW5]; first | exact hB4.out | exact below_drewN hB4.out _)
                    have d0 : W5.cell? ⟨g4, 0, none⟩ = some (.int .i64 (c0 + cU x)) := by rw [← hW5]; exact c0'
                    have d1 : W5.cell? ⟨g4, 1, none⟩ = some (.int .i64 (p0 + 1)) := by rw [← hW5]; exact c1'
                    rw [hW5]
                    clear hW5 A1 A2 A3 B4 hB4 c0' c1'
                    have HEN := HE.out
                    obtain ⟨⟨hKe, hEe⟩, hCe⟩ := HP.out.ok e (by omega) hLe1
                    have hsz := hEe.size
                    have s1 := D1.out.cell (i := e) (by rw [HP.out.tl]; omega)
                    have s2 := D1.out.cell (i := a) (by rw [HP.out.tl]; omega)
                    obtain ⟨s3, s4⟩ := D2.out.cell (i := a) (by rw [HP.out.cl]; omega)
                    have s5 := D3.out.cell (i := a) (by rw [HP.out.kl]; omega)
                    have fz1 : W5.frozen? ⟨g1, a, none⟩ = false := frozenOf D1.out a
                    have fz2 : W5.frozen? ⟨g2, a * 2, none⟩ = false := frozenOf D2.out (a * 2)
                    have fz3 : W5.frozen? ⟨g2, a * 2 + 1, none⟩ = false := frozenOf D2.out (a * 2 + 1)
                    have fz4 : W5.frozen? ⟨g3, a, none⟩ = false := frozenOf D3.out a
                    obtain ⟨sE, hsE⟩ : ∃ sE, T.getD e ByteArray.empty = sE := ⟨_, rfl⟩
                    rw [hsE] at s1 hsz
                    have HSE := Lib.hid hsE
                    clear hsE
                    have hz : ¬ 9223372036854775807 < ((⟨#[67, 72, 83, 84]⟩ : ByteArray).extract i (i + 1)).size + sE.size := by rw [ext_size i hi4]; omega
                    have hz2 : ¬ 9223372036854775807 < min (i + 1) 4 - i + sE.size := by omega
                    have hz3 : ¬ 9223372036854775807 < min (i + 1) (⟨#[67, 72, 83, 84]⟩ : ByteArray).size - i + sE.size := by rw [show (⟨#[67, 72, 83, 84]⟩ : ByteArray).size = 4 from rfl]; omega
                    have HPS := Lib.hid (bpart_set (s := (⟨#[67, 72, 83, 84]⟩ : ByteArray).extract i (i + 1)) HP.out hi4 HE.out.symm hLe1 (ltr_one i hi4) (by rw [← HX.out, HC0.out.1, HC0.out.2]; exact HL.out))
                    rw [← HX.out, HC0.out.1, HC0.out.2, HSE.out] at HPS
                    have HF := Lib.hid (bset_all (a := a) (s := (⟨#[67, 72, 83, 84]⟩ : ByteArray).extract i (i + 1) ++ sE) (c := c0 + cU x) (p := p0 + 1) D1.out D2.out D3.out D4.out (by rw [HP.out.cl]; omega) ne12 ne13 ne23 hg1 hg2 hg3)
                    have S0' : W5.cell? ⟨g1, e, none⟩ = some (.string sE) ∧ W5.cell? ⟨g4, 0, none⟩ = some (.int .i64 (c0 + cU x)) ∧ W5.cell? ⟨g4, 1, none⟩ = some (.int .i64 (p0 + 1)) := ⟨s1, d0, d1⟩
                    have S0 := drew3 S0'
                    have n10 : (⟨g1, a, none⟩ : Addr) ≠ ⟨g1, e, none⟩ := addr_ne (by omega)
                    have n11 : (⟨g1, a, none⟩ : Addr) ≠ ⟨g4, 0, none⟩ := addr_ne (by omega)
                    have n12 : (⟨g1, a, none⟩ : Addr) ≠ ⟨g4, 1, none⟩ := addr_ne (by omega)
                    have n20 : (⟨g2, a * 2, none⟩ : Addr) ≠ ⟨g1, e, none⟩ := addr_ne (by omega)
                    have n21 : (⟨g2, a * 2, none⟩ : Addr) ≠ ⟨g4, 0, none⟩ := addr_ne (by omega)
                    have n22 : (⟨g2, a * 2, none⟩ : Addr) ≠ ⟨g4, 1, none⟩ := addr_ne (by omega)
                    have n23 : (⟨g2, a * 2 + 1, none⟩ : Addr) ≠ ⟨g1, e, none⟩ := addr_ne (by omega)
                    have n24 : (⟨g2, a * 2 + 1, none⟩ : Addr) ≠ ⟨g4, 0, none⟩ := addr_ne (by omega)
                    have n25 : (⟨g2, a * 2 + 1, none⟩ : Addr) ≠ ⟨g4, 1, none⟩ := addr_ne (by omega)
                    have n30 : (⟨g3, a, none⟩ : Addr) ≠ ⟨g1, e, none⟩ := addr_ne (by omega)
                    have n31 : (⟨g3, a, none⟩ : Addr) ≠ ⟨g4, 0, none⟩ := addr_ne (by omega)
                    have n32 : (⟨g3, a, none⟩ : Addr) ≠ ⟨g4, 1, none⟩ := addr_ne (by omega)
                    have S1 := fun u => drew3 (keep3n (u := u) S0' n10 n11 n12)
                    have S2 := fun u u1 u2 => drew3 (keep3n (u := u2) (keep3n (u := u1) (keep3n (u := u) S0' n10 n11 n12) n20 n21 n22) n23 n24 n25)
                    have S3 := fun u u1 u2 u3 => drew3 (keep3n (u := u3) (keep3n (u := u2) (keep3n (u := u1) (keep3n (u := u) S0' n10 n11 n12) n20 n21 n22) n23 n24 n25) n30 n31 n32)
                    clear S0'
                    clear hKe hEe hCe hsz HEN
                    have i1 := IntWalk.i64_in ((i : Int) + 1) (by omega)
                    have i2 : 0 ≤ (i : Int) + 1 := by omega
                    have i3 : ((i : Int) + 1).toNat = i + 1 := by omega
                    have i4 : (i : Int) ≤ (i : Int) + 1 := by omega
                    have i5 : (i : Int) + 1 ≤ 4 := by omega
                    go_region_held3 (fun w' => w'.cell? ⟨g1, e, none⟩ = some (.string sE) ∧ w'.cell? ⟨g4, 0, none⟩ = some (.int .i64 (c0 + cU x)) ∧ w'.cell? ⟨g4, 1, none⟩ = some (.int .i64 (p0 + 1))) (first | (with_reducible exact S0) | (with_reducible exact S1 _) | (with_reducible exact S2 _ _ _) | (with_reducible exact S3 _ _ _ _)) ((fail))
                    clear S0 S1 S2 S3 i1 i2 i3 i4 i5 s1 s2 s3 s4 s5 fz1 fz2 fz3 fz4 d0 d1 hz hz2 hz3 n10 n11 n12 n20 n21 n22 n23 n24 n25 n30 n31 n32
                    go_wp2
                    go_roundw
                    case rel => exact ⟨i + 1, _, _, _, by omega, by go_num, HPS.out, HF.out.1, HF.out.2.1, HF.out.2.2.1, HF.out.2.2.2⟩
                    case measure => first | (simp [intOf]; done) | (simp [intOf]; omega)
              · have hel' : ¬ (e : Int) < (L : Int) := by omega
                go_wp2_with fail
                refine (HWI.out _).mono ?_
                rintro e2 w2 ⟨rfl, hb2⟩
                obtain ⟨W4, hW4⟩ : ∃ W4, w2.alloc (.cells #[.int .i64 (c0 + cU x), .int .i64 (p0 + 1)] 150) = W4 := ⟨_, rfl⟩
                have A1 : Hid (ArrS W4 g1 T) := Lib.hid (by rw [← hW4]; exact blk_alloc (blk_call HA1.out hb2))
                have A2 : Hid (ArrC W4 g2 C) := Lib.hid (by rw [← hW4]; exact blk_alloc (blk_call HA2.out hb2))
                have A3 : Hid (ArrB W4 g3 K) := Lib.hid (by rw [← hW4]; exact blk_alloc (blk_call HA3.out hb2))
                have B4 : Hid (W4.heap[w2.heap.size]? = some (.cells #[.int .i64 (c0 + cU x), .int .i64 (p0 + 1)] 150 (0, 0))) := Lib.hid (by rw [← hW4]; exact blk_new _ _)
                have BB := below_call HB.out hb2
                have hB4 : Hid (Below w.heap.size w W4) := Lib.hid (by rw [← hW4]; exact BB.alloc BB.size _)
                have hgt : g1 < w2.heap.size ∧ g2 < w2.heap.size ∧ g3 < w2.heap.size := ⟨blk_lt (blk_call HA1.out hb2), blk_lt (blk_call HA2.out hb2), blk_lt (blk_call HA3.out hb2)⟩
                have HW4 := Lib.hid hW4
                clear hW4 hb2 BB k1 k2 k3 HA1 HA2 HA3 HB HWI HAL
                go_wp2_with fail
                rw [HW4.out]
                clear HW4
                obtain ⟨h41, h42, h43⟩ := hgt
                generalize w2.heap.size = g4 at *
                have c0' := cellOf B4.out 0
                have c1' := cellOf B4.out 1
                simp at c0' c1'
                have k5 := A3.out.cell (i := a) (by rw [HP.out.kl]; omega)
                have haI : (a : Int) < (L : Int) + 1 := by omega
                have haN : a < L + 1 := by omega
                cases hKa : K.getD a false
                · rw [hKa] at k5
                  have HL := Lib.hid (show i = 0 ∨ lessB (c0 + cU x) (p0 + 1) (C.getD a (0, 0)).1 (C.getD a (0, 0)).2 = true from .inl (by
                    rcases Nat.eq_zero_or_pos i with h | h
                    · exact h
                    · have := (HP.out.inn.2 h).1.1
                      rw [hKa] at this; cases this))
                  clear hKa
                  go_quiet (fail)
                  clear k5
                  go_wp2_with fail
                  obtain ⟨W5, hW5⟩ : ∃ W5, W4.drewN nq = W5 := ⟨_, rfl⟩
                  have D1 : Hid (ArrS W5 g1 T) := Lib.hid (by rw [← hW5]; exact A1.out)
                  have D2 : Hid (ArrC W5 g2 C) := Lib.hid (by rw [← hW5]; exact A2.out)
                  have D3 : Hid (ArrB W5 g3 K) := Lib.hid (by rw [← hW5]; exact A3.out)
                  have D4 : Hid (Below w.heap.size w W5) := Lib.hid (by rw [← hW5]; first | exact hB4.out | exact below_drewN hB4.out _)
                  have d0 : W5.cell? ⟨g4, 0, none⟩ = some (.int .i64 (c0 + cU x)) := by rw [← hW5]; exact c0'
                  have d1 : W5.cell? ⟨g4, 1, none⟩ = some (.int .i64 (p0 + 1)) := by rw [← hW5]; exact c1'
                  rw [hW5]
                  clear hW5 A1 A2 A3 B4 hB4 c0' c1'
                  have HEN := HE.out
                  obtain ⟨⟨hKe, hEe⟩, hCe⟩ := HP.out.ok e (by omega) hLe1
                  have hsz := hEe.size
                  have s1 := D1.out.cell (i := e) (by rw [HP.out.tl]; omega)
                  have s2 := D1.out.cell (i := a) (by rw [HP.out.tl]; omega)
                  obtain ⟨s3, s4⟩ := D2.out.cell (i := a) (by rw [HP.out.cl]; omega)
                  have s5 := D3.out.cell (i := a) (by rw [HP.out.kl]; omega)
                  have fz1 : W5.frozen? ⟨g1, a, none⟩ = false := frozenOf D1.out a
                  have fz2 : W5.frozen? ⟨g2, a * 2, none⟩ = false := frozenOf D2.out (a * 2)
                  have fz3 : W5.frozen? ⟨g2, a * 2 + 1, none⟩ = false := frozenOf D2.out (a * 2 + 1)
                  have fz4 : W5.frozen? ⟨g3, a, none⟩ = false := frozenOf D3.out a
                  obtain ⟨sE, hsE⟩ : ∃ sE, T.getD e ByteArray.empty = sE := ⟨_, rfl⟩
                  rw [hsE] at s1 hsz
                  have HSE := Lib.hid hsE
                  clear hsE
                  have hz : ¬ 9223372036854775807 < ((⟨#[67, 72, 83, 84]⟩ : ByteArray).extract i (i + 1)).size + sE.size := by rw [ext_size i hi4]; omega
                  have hz2 : ¬ 9223372036854775807 < min (i + 1) 4 - i + sE.size := by omega
                  have hz3 : ¬ 9223372036854775807 < min (i + 1) (⟨#[67, 72, 83, 84]⟩ : ByteArray).size - i + sE.size := by rw [show (⟨#[67, 72, 83, 84]⟩ : ByteArray).size = 4 from rfl]; omega
                  have HPS := Lib.hid (bpart_set (s := (⟨#[67, 72, 83, 84]⟩ : ByteArray).extract i (i + 1)) HP.out hi4 HE.out.symm hLe1 (ltr_one i hi4) (by rw [← HX.out, HC0.out.1, HC0.out.2]; exact HL.out))
                  rw [← HX.out, HC0.out.1, HC0.out.2, HSE.out] at HPS
                  have HF := Lib.hid (bset_all (a := a) (s := (⟨#[67, 72, 83, 84]⟩ : ByteArray).extract i (i + 1) ++ sE) (c := c0 + cU x) (p := p0 + 1) D1.out D2.out D3.out D4.out (by rw [HP.out.cl]; omega) ne12 ne13 ne23 hg1 hg2 hg3)
                  have S0' : W5.cell? ⟨g1, e, none⟩ = some (.string sE) ∧ W5.cell? ⟨g4, 0, none⟩ = some (.int .i64 (c0 + cU x)) ∧ W5.cell? ⟨g4, 1, none⟩ = some (.int .i64 (p0 + 1)) := ⟨s1, d0, d1⟩
                  have S0 := drew3 S0'
                  have n10 : (⟨g1, a, none⟩ : Addr) ≠ ⟨g1, e, none⟩ := addr_ne (by omega)
                  have n11 : (⟨g1, a, none⟩ : Addr) ≠ ⟨g4, 0, none⟩ := addr_ne (by omega)
                  have n12 : (⟨g1, a, none⟩ : Addr) ≠ ⟨g4, 1, none⟩ := addr_ne (by omega)
                  have n20 : (⟨g2, a * 2, none⟩ : Addr) ≠ ⟨g1, e, none⟩ := addr_ne (by omega)
                  have n21 : (⟨g2, a * 2, none⟩ : Addr) ≠ ⟨g4, 0, none⟩ := addr_ne (by omega)
                  have n22 : (⟨g2, a * 2, none⟩ : Addr) ≠ ⟨g4, 1, none⟩ := addr_ne (by omega)
                  have n23 : (⟨g2, a * 2 + 1, none⟩ : Addr) ≠ ⟨g1, e, none⟩ := addr_ne (by omega)
                  have n24 : (⟨g2, a * 2 + 1, none⟩ : Addr) ≠ ⟨g4, 0, none⟩ := addr_ne (by omega)
                  have n25 : (⟨g2, a * 2 + 1, none⟩ : Addr) ≠ ⟨g4, 1, none⟩ := addr_ne (by omega)
                  have n30 : (⟨g3, a, none⟩ : Addr) ≠ ⟨g1, e, none⟩ := addr_ne (by omega)
                  have n31 : (⟨g3, a, none⟩ : Addr) ≠ ⟨g4, 0, none⟩ := addr_ne (by omega)
                  have n32 : (⟨g3, a, none⟩ : Addr) ≠ ⟨g4, 1, none⟩ := addr_ne (by omega)
                  have S1 := fun u => drew3 (keep3n (u := u) S0' n10 n11 n12)
                  have S2 := fun u u1 u2 => drew3 (keep3n (u := u2) (keep3n (u := u1) (keep3n (u := u) S0' n10 n11 n12) n20 n21 n22) n23 n24 n25)
                  have S3 := fun u u1 u2 u3 => drew3 (keep3n (u := u3) (keep3n (u := u2) (keep3n (u := u1) (keep3n (u := u) S0' n10 n11 n12) n20 n21 n22) n23 n24 n25) n30 n31 n32)
                  clear S0'
                  clear hKe hEe hCe hsz HEN
                  have i1 := IntWalk.i64_in ((i : Int) + 1) (by omega)
                  have i2 : 0 ≤ (i : Int) + 1 := by omega
                  have i3 : ((i : Int) + 1).toNat = i + 1 := by omega
                  have i4 : (i : Int) ≤ (i : Int) + 1 := by omega
                  have i5 : (i : Int) + 1 ≤ 4 := by omega
                  go_region_held3 (fun w' => w'.cell? ⟨g1, e, none⟩ = some (.string sE) ∧ w'.cell? ⟨g4, 0, none⟩ = some (.int .i64 (c0 + cU x)) ∧ w'.cell? ⟨g4, 1, none⟩ = some (.int .i64 (p0 + 1))) (first | (with_reducible exact S0) | (with_reducible exact S1 _) | (with_reducible exact S2 _ _ _) | (with_reducible exact S3 _ _ _ _)) ((fail))
                  clear S0 S1 S2 S3 i1 i2 i3 i4 i5 s1 s2 s3 s4 s5 fz1 fz2 fz3 fz4 d0 d1 hz hz2 hz3 n10 n11 n12 n20 n21 n22 n23 n24 n25 n30 n31 n32
                  go_wp2
                  go_roundw
                  case rel => exact ⟨i + 1, _, _, _, by omega, by go_num, HPS.out, HF.out.1, HF.out.2.1, HF.out.2.2.1, HF.out.2.2.2⟩
                  case measure => first | (simp [intOf]; done) | (simp [intOf]; omega)
                · rw [hKa] at k5
                  have hi1 : 1 ≤ i := by
                    rcases Nat.eq_zero_or_pos i with h | h
                    · have := HP.out.inn.1 h
                      rw [hKa] at this; cases this
                    · exact h
                  clear hKa
                  obtain ⟨k6, k7⟩ := A2.out.cell (i := a) (by rw [HP.out.cl]; omega)
                  obtain ⟨ca, hca⟩ : ∃ ca, (C.getD a (0, 0)).1 = ca := ⟨_, rfl⟩
                  obtain ⟨pa, hpa⟩ : ∃ pa, (C.getD a (0, 0)).2 = pa := ⟨_, rfl⟩
                  rw [hca] at k6
                  rw [hpa] at k7
                  have HCA := Lib.hid (And.intro hca hpa)
                  have HLS := Lib.hid (fun W => lessC_any (c0 + cU x) (p0 + 1) ca pa W)
                  clear hca hpa
                  refine wp_region_still_tail 11 (by kernel_rfl) (by kernel_rfl) ?_
                  simp only [List.take_succ_cons, List.take_zero, List.drop_succ_cons, List.drop_zero]
                  change wpStill _ _ (World.drew _) _ _ _
                  repeat still_step
                  refine wpStill_nil ?_
                  change wpList _ _ _ _ _ (World.drew _)
                  go_wp2_with fail
                  refine (HLS.out _).mono ?_
                  rintro e5 w5 ⟨rfl, hb5⟩
                  clear k5 k6 k7 c0' c1' HLS
                  have A1' : Hid (ArrS w5 g1 T) := Lib.hid (blk_call (W := W4.drew) A1.out hb5)
                  have A2' : Hid (ArrC w5 g2 C) := Lib.hid (blk_call (W := W4.drew) A2.out hb5)
                  have A3' : Hid (ArrB w5 g3 K) := Lib.hid (blk_call (W := W4.drew) A3.out hb5)
                  have B4' := Lib.hid (blk_call (W := W4.drew) B4.out hb5)
                  have hB4' : Hid (Below w.heap.size w w5) := Lib.hid (below_call (W := W4.drew) hB4.out.drew hb5)
                  clear A1 A2 A3 B4 hB4 hb5
                  cases hls : lessB (c0 + cU x) (p0 + 1) ca pa
                  · have HPn : Hid (BPart L T C K a (i + 1)) := Lib.hid (bpart_keep HP.out hi4 hi1 HE.out.symm (.inr ⟨hLe1, by rw [← HX.out, HC0.out.1, HC0.out.2, HCA.out.1, HCA.out.2]; exact hls⟩))
                    clear hls
                    go_wp2
                    go_roundw
                    case rel => exact ⟨i + 1, T, C, K, by omega, by go_num, HPn.out, A1'.out, A2'.out, A3'.out, hB4'.out⟩
                    case measure => first | (simp [intOf]; done) | (simp [intOf]; omega)
                  · have HL : Hid (i = 0 ∨ lessB (c0 + cU x) (p0 + 1) (C.getD a (0, 0)).1 (C.getD a (0, 0)).2 = true) := Lib.hid (.inr (by rw [HCA.out.1, HCA.out.2]; exact hls))
                    clear hls HCA
                    have A1 := A1'
                    have A2 := A2'
                    have A3 := A3'
                    have B4 := B4'
                    have hB4 := hB4'
                    have c0' := cellOf B4.out 0
                    have c1' := cellOf B4.out 1
                    simp at c0' c1'
                    clear A1' A2' A3' B4' hB4'
                    go_wp2_with fail
                    obtain ⟨W5, hW5⟩ : ∃ W5, w5 = W5 := ⟨_, rfl⟩
                    have D1 : Hid (ArrS W5 g1 T) := Lib.hid (by rw [← hW5]; exact A1.out)
                    have D2 : Hid (ArrC W5 g2 C) := Lib.hid (by rw [← hW5]; exact A2.out)
                    have D3 : Hid (ArrB W5 g3 K) := Lib.hid (by rw [← hW5]; exact A3.out)
                    have D4 : Hid (Below w.heap.size w W5) := Lib.hid (by rw [← hW5]; first | exact hB4.out | exact below_drewN hB4.out _)
                    have d0 : W5.cell? ⟨g4, 0, none⟩ = some (.int .i64 (c0 + cU x)) := by rw [← hW5]; exact c0'
                    have d1 : W5.cell? ⟨g4, 1, none⟩ = some (.int .i64 (p0 + 1)) := by rw [← hW5]; exact c1'
                    rw [hW5]
                    clear hW5 A1 A2 A3 B4 hB4 c0' c1'
                    have HEN := HE.out
                    obtain ⟨⟨hKe, hEe⟩, hCe⟩ := HP.out.ok e (by omega) hLe1
                    have hsz := hEe.size
                    have s1 := D1.out.cell (i := e) (by rw [HP.out.tl]; omega)
                    have s2 := D1.out.cell (i := a) (by rw [HP.out.tl]; omega)
                    obtain ⟨s3, s4⟩ := D2.out.cell (i := a) (by rw [HP.out.cl]; omega)
                    have s5 := D3.out.cell (i := a) (by rw [HP.out.kl]; omega)
                    have fz1 : W5.frozen? ⟨g1, a, none⟩ = false := frozenOf D1.out a
                    have fz2 : W5.frozen? ⟨g2, a * 2, none⟩ = false := frozenOf D2.out (a * 2)
                    have fz3 : W5.frozen? ⟨g2, a * 2 + 1, none⟩ = false := frozenOf D2.out (a * 2 + 1)
                    have fz4 : W5.frozen? ⟨g3, a, none⟩ = false := frozenOf D3.out a
                    obtain ⟨sE, hsE⟩ : ∃ sE, T.getD e ByteArray.empty = sE := ⟨_, rfl⟩
                    rw [hsE] at s1 hsz
                    have HSE := Lib.hid hsE
                    clear hsE
                    have hz : ¬ 9223372036854775807 < ((⟨#[67, 72, 83, 84]⟩ : ByteArray).extract i (i + 1)).size + sE.size := by rw [ext_size i hi4]; omega
                    have hz2 : ¬ 9223372036854775807 < min (i + 1) 4 - i + sE.size := by omega
                    have hz3 : ¬ 9223372036854775807 < min (i + 1) (⟨#[67, 72, 83, 84]⟩ : ByteArray).size - i + sE.size := by rw [show (⟨#[67, 72, 83, 84]⟩ : ByteArray).size = 4 from rfl]; omega
                    have HPS := Lib.hid (bpart_set (s := (⟨#[67, 72, 83, 84]⟩ : ByteArray).extract i (i + 1)) HP.out hi4 HE.out.symm hLe1 (ltr_one i hi4) (by rw [← HX.out, HC0.out.1, HC0.out.2]; exact HL.out))
                    rw [← HX.out, HC0.out.1, HC0.out.2, HSE.out] at HPS
                    have HF := Lib.hid (bset_all (a := a) (s := (⟨#[67, 72, 83, 84]⟩ : ByteArray).extract i (i + 1) ++ sE) (c := c0 + cU x) (p := p0 + 1) D1.out D2.out D3.out D4.out (by rw [HP.out.cl]; omega) ne12 ne13 ne23 hg1 hg2 hg3)
                    have S0' : W5.cell? ⟨g1, e, none⟩ = some (.string sE) ∧ W5.cell? ⟨g4, 0, none⟩ = some (.int .i64 (c0 + cU x)) ∧ W5.cell? ⟨g4, 1, none⟩ = some (.int .i64 (p0 + 1)) := ⟨s1, d0, d1⟩
                    have S0 := drew3 S0'
                    have n10 : (⟨g1, a, none⟩ : Addr) ≠ ⟨g1, e, none⟩ := addr_ne (by omega)
                    have n11 : (⟨g1, a, none⟩ : Addr) ≠ ⟨g4, 0, none⟩ := addr_ne (by omega)
                    have n12 : (⟨g1, a, none⟩ : Addr) ≠ ⟨g4, 1, none⟩ := addr_ne (by omega)
                    have n20 : (⟨g2, a * 2, none⟩ : Addr) ≠ ⟨g1, e, none⟩ := addr_ne (by omega)
                    have n21 : (⟨g2, a * 2, none⟩ : Addr) ≠ ⟨g4, 0, none⟩ := addr_ne (by omega)
                    have n22 : (⟨g2, a * 2, none⟩ : Addr) ≠ ⟨g4, 1, none⟩ := addr_ne (by omega)
                    have n23 : (⟨g2, a * 2 + 1, none⟩ : Addr) ≠ ⟨g1, e, none⟩ := addr_ne (by omega)
                    have n24 : (⟨g2, a * 2 + 1, none⟩ : Addr) ≠ ⟨g4, 0, none⟩ := addr_ne (by omega)
                    have n25 : (⟨g2, a * 2 + 1, none⟩ : Addr) ≠ ⟨g4, 1, none⟩ := addr_ne (by omega)
                    have n30 : (⟨g3, a, none⟩ : Addr) ≠ ⟨g1, e, none⟩ := addr_ne (by omega)
                    have n31 : (⟨g3, a, none⟩ : Addr) ≠ ⟨g4, 0, none⟩ := addr_ne (by omega)
                    have n32 : (⟨g3, a, none⟩ : Addr) ≠ ⟨g4, 1, none⟩ := addr_ne (by omega)
                    have S1 := fun u => drew3 (keep3n (u := u) S0' n10 n11 n12)
                    have S2 := fun u u1 u2 => drew3 (keep3n (u := u2) (keep3n (u := u1) (keep3n (u := u) S0' n10 n11 n12) n20 n21 n22) n23 n24 n25)
                    have S3 := fun u u1 u2 u3 => drew3 (keep3n (u := u3) (keep3n (u := u2) (keep3n (u := u1) (keep3n (u := u) S0' n10 n11 n12) n20 n21 n22) n23 n24 n25) n30 n31 n32)
                    clear S0'
                    clear hKe hEe hCe hsz HEN
                    have i1 := IntWalk.i64_in ((i : Int) + 1) (by omega)
                    have i2 : 0 ≤ (i : Int) + 1 := by omega
                    have i3 : ((i : Int) + 1).toNat = i + 1 := by omega
                    have i4 : (i : Int) ≤ (i : Int) + 1 := by omega
                    have i5 : (i : Int) + 1 ≤ 4 := by omega
                    go_region_held3 (fun w' => w'.cell? ⟨g1, e, none⟩ = some (.string sE) ∧ w'.cell? ⟨g4, 0, none⟩ = some (.int .i64 (c0 + cU x)) ∧ w'.cell? ⟨g4, 1, none⟩ = some (.int .i64 (p0 + 1))) (first | (with_reducible exact S0) | (with_reducible exact S1 _) | (with_reducible exact S2 _ _ _) | (with_reducible exact S3 _ _ _ _)) ((fail))
                    clear S0 S1 S2 S3 i1 i2 i3 i4 i5 s1 s2 s3 s4 s5 fz1 fz2 fz3 fz4 d0 d1 hz hz2 hz3 n10 n11 n12 n20 n21 n22 n23 n24 n25 n30 n31 n32
                    go_wp2
                    go_roundw
                    case rel => exact ⟨i + 1, _, _, _, by omega, by go_num, HPS.out, HF.out.1, HF.out.2.1, HF.out.2.2.1, HF.out.2.2.2⟩
                    case measure => first | (simp [intOf]; done) | (simp [intOf]; omega)
          · obtain rfl : i = 4 := by omega
            have HT := Lib.hid (bpart_done hP (by omega))
            have HA1 := Lib.hid hA1
            have HA2 := Lib.hid hA2
            have HA3 := Lib.hid hA3
            have HB := Lib.hid hB
            clear hP hA1 hA2 hA3 hB
            go_wp2
            go_roundw
            case rel => exact ⟨_, a, T, C, K, rfl, rfl, by omega, HT.out, HA1.out, HA2.out, HA3.out, HB.out⟩
            case measure => first | (simp [intOf]; done) | (simp [intOf]; omega)
set_option maxHeartbeats 400000 in
theorem isPair_any (n : Int) (w : World) : Calls Try.prog 86 #[.int .i64 n] w fun e w' => e = .returned (.bool (inB n 1 80)) ∧ w = w' := by
  go_enter Try.func86, Try.ntmps86
  go_wp2_with fail
  refine (within_any _ _ _ _).mono ?_
  rintro e1 w1 ⟨rfl, rfl⟩
  go_wp2
  go_ret
  exact ⟨rfl, rfl⟩
set_option maxHeartbeats 1000000 in
theorem bestC_any (L : Nat) (w : World) (l1 : 1 ≤ L) (l2 : L ≤ 40) :
    Calls Try.prog 35 #[.int .i64 (L : Int)] w fun e w' => ∃ s : ByteArray, e = .returned (.tuple #[.string s, .int .i64 0]) ∧ Cour (L : Int) s ∧ cutU s.data.toList = (L : Int) % 2 ∧ Below w.heap.size w w' := by
  have HI := Lib.hid (fun W => isPair_any (L : Int) W)
  rw [inB_mk ⟨by omega, by omega⟩] at HI
  have HB := Lib.hid (bestCourse_any L w l1 l2)
  go_enter Try.func35, Try.ntmps35
  go_wp2_with fail
  refine (HI.out _).mono ?_
  rintro e1 w1 ⟨rfl, rfl⟩
  go_wp2_with fail
  refine HB.out.mono ?_
  rintro e2 w2 ⟨s, rfl, hc, hs, hb⟩
  have HD := Lib.hid (And.intro hc (And.intro hs hb))
  clear hc hs hb
  go_wp2
  go_ret2
  exact ⟨s, rfl, HD.out⟩
end Go.Proofs.Ytklhaanapembdaa
