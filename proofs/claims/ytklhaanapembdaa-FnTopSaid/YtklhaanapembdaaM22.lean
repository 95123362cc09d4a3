/- Bounds of the numbers of LineOfThrust, over both denominators; what a call hands back that has a new slice and two numbers; no function of the program is named. -/
import Derived.Test.YtklhaanapembdaaM13
import Derived.Test.YtklhaanapembdaaM14
import Derived.Test.YtklhaanapembdaaM10

namespace Go.Proofs.Ytklhaanapembdaa
open Go.RowKit

/-- Numbers of a scale that do not run over. -/
structure ScB (d A B : Int) : Prop where
  d1 : 1 ≤ d
  d2 : d ≤ 144400000000000
  a1 : -76000000000000000 ≤ A
  a2 : A ≤ 76000000000000000
  b1 : 0 ≤ B
  b2 : B ≤ 1520000000000
theorem scB_spec {ls lo hi : List Int} (hv : blkB ls lo hi = true) (hs : standB (bfind ls lo hi) = true) :
    ScB (sD (bfind ls lo hi) * (ltS ls lo hi).2) ((ltS ls lo hi).1 * sD (bfind ls lo hi)) (sN (bfind ls lo hi) * (ltS ls lo hi).2) := by
  obtain ⟨n1, n2, d1, d2⟩ := s_sharp hv hs
  obtain ⟨b1, b2, b3, b4, b5, b6⟩ := lt_bd hv hs
  have p1 := mul_bd (a := sD (bfind ls lo hi)) (b := (ltS ls lo hi).2) (A := 3800000) (B := 38000000) (by omega) (by omega) (by omega) (by omega)
  have p2 := prod_bd (x := (ltS ls lo hi).1) (y := sD (bfind ls lo hi)) (A := 20000000000) (B := 3800000) (by omega) (by omega) (by omega) (by omega) (by omega)
  have p3 := mul_bd (a := sN (bfind ls lo hi)) (b := (ltS ls lo hi).2) (A := 40000) (B := 38000000) (by omega) (by omega) (by omega) (by omega)
  have p0 : 0 < sD (bfind ls lo hi) * (ltS ls lo hi).2 := Int.mul_pos (by omega) (by omega)
  exact ⟨by omega, by omega, by omega, by omega, by omega, by omega⟩
/-- The parts of a height. -/
theorem scB_parts {d A B : Int} (h : ScB d A B) {ls lo hi : List Int} (hv : blkB ls lo hi = true) {k : Nat} (hk : k < lo.length) :
    (-760000000000000000 ≤ A * (k : Int) ∧ A * (k : Int) ≤ 760000000000000000) ∧ (0 ≤ B * momAt ls k ∧ B * momAt ls k ≤ 288800000000000000) ∧ (-144400000000000000 ≤ lo.getD k 0 * d ∧ lo.getD k 0 * d ≤ 144400000000000000) ∧ (0 ≤ momAt ls k ∧ momAt ls k ≤ 190000) := by
  obtain ⟨v1, v2, v3, v4, v5, v6, v7, v8⟩ := blkB_t hv
  obtain ⟨h1, h2, h3, h4, h5, h6⟩ := h
  obtain ⟨x1, x2⟩ := v6 k (by omega)
  obtain ⟨y1, y2⟩ := momAt_bd (ls := ls) (k := k) (by omega) v3 (by omega)
  have p1 := prod_bd (x := A) (y := (k : Int)) (A := 76000000000000000) (B := 10) (by omega) (by omega) (by omega) (by omega) (by omega)
  have p2 := mul_bd (a := B) (b := momAt ls k) (A := 1520000000000) (B := 190000) (by omega) (by omega) (by omega) (by omega)
  have p3 := prod_bd (x := lo.getD k 0) (y := d) (A := 1000) (B := 144400000000000) (by omega) (by omega) (by omega) (by omega) (by omega)
  omega
theorem neV_bd {d A B : Int} (h : ScB d A B) {ls lo hi : List Int} (hv : blkB ls lo hi = true) {k : Nat} (hk : k < lo.length) : -1300000000000000000 ≤ neV ls lo d A B k ∧ neV ls lo d A B k ≤ 1300000000000000000 := by
  have := scB_parts h hv hk
  unfold neV owV
  omega
theorem leV_bd {d A B : Int} (h : ScB d A B) {ls lo hi : List Int} (hv : blkB ls lo hi = true) (n : Nat) (hn : n ≤ lo.length) : -1300000000000000000 ≤ leV ls lo d A B n ∧ leV ls lo d A B n ≤ 1300000000000000000 := by
  induction n with
  | zero => simp [leV]
  | succ n ih =>
    simp only [leV]
    split
    · exact neV_bd h hv (by omega)
    · exact ih (by omega)
theorem ouV_bd {d A B : Int} (h : ScB d A B) {ls lo hi : List Int} (hv : blkB ls lo hi = true) {k : Nat} (hk : k < lo.length) : -2600000000000000000 ≤ ouV ls lo d A B lo.length k ∧ ouV ls lo d A B lo.length k ≤ 2600000000000000000 := by
  have h1 := scB_parts h hv hk
  have h2 := leV_bd h hv lo.length (Nat.le_refl _)
  unfold ouV owV
  omega
theorem coV_bd {d A B : Int} (h : ScB d A B) (ls lo : List Int) (n k : Nat) : 1 ≤ coV ls lo d A B n k ∧ coV ls lo d A B n k ≤ d := by
  have h1 := coV_pos ls lo (show 0 < d by have := h.d1; omega) A B n k
  have h2 := Int.le_of_dvd (show 0 < d by have := h.d1; omega) (coV_dvd ls lo d A B n k).1
  omega
theorem coV_next (ls lo : List Int) (d A B : Int) (n k : Nat) : coV ls lo d A B n (k + 1) = (Int.gcd (coV ls lo d A B n k) (ouV ls lo d A B n k) : Int) := rfl
theorem gcd_size (a b : Int) : (Int.gcd (b.natAbs : Int) a : Int) = (Int.gcd a b : Int) := by
  rw [Int.gcd_comm]; simp [Int.gcd]
theorem leV_next (ls lo : List Int) (d A B : Int) (k : Nat) : leV ls lo d A B (k + 1) = if k = 0 ∨ leV ls lo d A B k < neV ls lo d A B k then neV ls lo d A B k else leV ls lo d A B k := rfl
/-- The heights so far. -/
def ouL (ls lo : List Int) (d A B : Int) (n k : Nat) : List Int := (List.range k).map (ouV ls lo d A B n)
theorem ouL_len (ls lo : List Int) (d A B : Int) (n k : Nat) : (ouL ls lo d A B n k).length = k := by simp [ouL]
theorem ouL_get (ls lo : List Int) (d A B : Int) (n m k : Nat) (hk : k < m) : (ouL ls lo d A B n m).getD k 0 = ouV ls lo d A B n k := by
  simp [ouL, List.getD_eq_getElem?_getD, hk]
theorem tdiv_bd {z C M : Int} (h1 : -M ≤ z) (h2 : z ≤ M) (hC : 1 ≤ C) : -M ≤ z.tdiv C ∧ z.tdiv C ≤ M := by
  by_cases h : 0 ≤ z
  · rw [Int.tdiv_eq_ediv_of_nonneg h]
    have a := Int.ediv_nonneg h (show 0 ≤ C by omega)
    have b := Int.ediv_le_self C h
    omega
  · have e : z.tdiv C = -((-z).tdiv C) := by rw [Int.neg_tdiv]; omega
    rw [e, Int.tdiv_eq_ediv_of_nonneg (show 0 ≤ -z by omega)]
    have a := Int.ediv_nonneg (show 0 ≤ -z by omega) (show 0 ≤ C by omega)
    have b := Int.ediv_le_self C (show 0 ≤ -z by omega)
    omega
theorem ouL_next (ls lo : List Int) (d A B : Int) (n k : Nat) : ouL ls lo d A B n (k + 1) = ouL ls lo d A B n k ++ [ouV ls lo d A B n k] := by simp [ouL, List.range_succ]
/-- The first k heights put in lowest terms. -/
def diL (zs : List Int) (c : Int) (k : Nat) : List Int := (zs.take k).map (fun z => z.tdiv c) ++ zs.drop k
theorem diL_len (zs : List Int) (c : Int) (k : Nat) (hk : k ≤ zs.length) : (diL zs c k).length = zs.length := by simp [diL]; omega
theorem diL_zero (zs : List Int) (c : Int) : diL zs c 0 = zs := by simp [diL]
theorem diL_all (zs : List Int) (c : Int) : diL zs c zs.length = zs.map (fun z => z.tdiv c) := by simp [diL]
theorem diL_get (zs : List Int) (c : Int) (k : Nat) (hk : k < zs.length) : (diL zs c k)[k]? = some (zs.getD k 0) := by
  unfold diL
  rw [List.getElem?_append_right (by simp; omega)]
  simp [List.getD_eq_getElem?_getD, hk, Nat.min_eq_left (Nat.le_of_lt hk)]
theorem diL_set (zs : List Int) (c : Int) (k : Nat) (hk : k < zs.length) : (diL zs c k).set k ((zs.getD k 0).tdiv c) = diL zs c (k + 1) := by
  unfold diL
  rw [List.set_append_right _ _ (by simp; omega), List.drop_eq_getElem_cons hk]
  have e : k - ((zs.take k).map fun z => z.tdiv c).length = 0 := by simp; omega
  rw [e, List.set_cons_zero, List.take_succ_eq_append_getElem hk, List.map_append, List.append_assoc]
  simp [List.getD_eq_getElem?_getD, hk]
/-- A call that hands back a new slice of integers and two numbers. -/
def NewD (w : World) (zs : List Int) (d code : Int) (e : Ending) (w' : World) : Prop :=
  ∃ a c, e = .returned (.tuple #[.slice a zs.length c, .int .i64 d, .int .i64 code]) ∧ OwnI w' w.heap.size (.slice a zs.length c) zs ∧ Below w.heap.size w w'
theorem newD_mk {w w' : World} {v : Value} {zs : List Int} {d code : Int} (h : OwnI w' w.heap.size v zs) (hb : Below w.heap.size w w') : NewD w zs d code (.returned (.tuple #[v, .int .i64 d, .int .i64 code])) w' := by
  obtain ⟨a, c, rfl⟩ := h.shape
  exact ⟨a, c, rfl, h, hb⟩
theorem NewD.toldT {w w' : World} {zs : List Int} {d code : Int} {e : Ending} {n : Nat} (h : NewD w zs d code e w') (hn : zs.length = n) :
    ∃ a c, e = .returned (.tuple #[.slice a n c, .int .i64 d, .int .i64 code]) ∧ OwnT w' w.heap.size w'.heap.size (.slice a n c) zs ∧ Below w.heap.size w w' := by
  subst hn
  obtain ⟨a, c, rfl, hO, hB⟩ := h
  exact ⟨a, c, rfl, hO.toT, hB⟩
end Go.Proofs.Ytklhaanapembdaa
/- The scale of the program's LineOfThrust, and lists of which the first numbers are turned; no function of the program is named. -/
namespace Go.Proofs.Ytklhaanapembdaa

theorem tdiv_fac {sd cD : Int} (h1 : 1 ≤ sd) (h2 : 1 ≤ cD) : 1 ≤ (deI sd cD).tdiv cD ∧ (deI sd cD).tdiv cD ≤ sd ∧ 1 ≤ (deI sd cD).tdiv sd ∧ (deI sd cD).tdiv sd ≤ cD := by
  obtain ⟨g0, e0, e1, e2⟩ := de_scale (sn := 1) (cN := 1) h1 h2
  rw [Int.one_mul, Int.one_mul] at e1 e2
  generalize (deI sd cD).tdiv cD = p at *
  generalize (deI sd cD).tdiv sd = q at *
  generalize (Int.gcd sd cD : Int) = t at *
  have hp : 1 ≤ p := by
    rcases Int.lt_or_le 0 p with h | h
    · omega
    · have := Int.mul_nonpos_of_nonneg_of_nonpos (show 0 ≤ t by omega) h; omega
  have hq : 1 ≤ q := by
    rcases Int.lt_or_le 0 q with h | h
    · omega
    · have := Int.mul_nonpos_of_nonneg_of_nonpos (show 0 ≤ t by omega) h; omega
  have a : 1 * p ≤ t * p := Int.mul_le_mul_of_nonneg_right (by omega) (by omega)
  have b : 1 * q ≤ t * q := Int.mul_le_mul_of_nonneg_right (by omega) (by omega)
  exact ⟨hp, by omega, hq, by omega⟩
theorem scB_impl {ls lo hi : List Int} (hv : blkB ls lo hi = true) (hs : standB (bfind ls lo hi) = true) : ScB (ltM ls lo hi) (ltA ls lo hi) (ltB ls lo hi) := by
  obtain ⟨n1, n2, d1, d2⟩ := s_sharp hv hs
  obtain ⟨b1, b2, b3, b4, b5, b6⟩ := lt_bd hv hs
  obtain ⟨f1, f2, f3, f4⟩ := tdiv_fac d1 b1
  rw [← show ltM ls lo hi = deI (sD (bfind ls lo hi)) (ltS ls lo hi).2 from rfl] at f1 f2 f3 f4
  have p2 := prod_bd (x := (ltS ls lo hi).1) (y := (ltM ls lo hi).tdiv (ltS ls lo hi).2) (A := 20000000000) (B := 3800000) (by omega) (by omega) (by omega) (by omega) (by omega)
  have p3 := mul_bd (a := sN (bfind ls lo hi)) (b := (ltM ls lo hi).tdiv (sD (bfind ls lo hi))) (A := 40000) (B := 38000000) (by omega) (by omega) (by omega) (by omega)
  refine ⟨b5, by omega, ?_, ?_, ?_, ?_⟩
  · unfold ltA; omega
  · unfold ltA; omega
  · unfold ltB; omega
  · unfold ltB; omega
/-- The first k numbers turned by f. -/
def mpL (f : Int → Int) (zs : List Int) (k : Nat) : List Int := (zs.take k).map f ++ zs.drop k
theorem mpL_len (f : Int → Int) (zs : List Int) (k : Nat) (hk : k ≤ zs.length) : (mpL f zs k).length = zs.length := by simp [mpL]; omega
theorem mpL_zero (f : Int → Int) (zs : List Int) : mpL f zs 0 = zs := by simp [mpL]
theorem mpL_all (f : Int → Int) (zs : List Int) : mpL f zs zs.length = zs.map f := by simp [mpL]
theorem mpL_get (f : Int → Int) (zs : List Int) (k : Nat) (hk : k < zs.length) : (mpL f zs k)[k]? = some (zs.getD k 0) := by
  unfold mpL
  rw [List.getElem?_append_right (by simp; omega)]
  simp [List.getD_eq_getElem?_getD, hk, Nat.min_eq_left (Nat.le_of_lt hk)]
theorem mpL_set (f : Int → Int) (zs : List Int) (k : Nat) (hk : k < zs.length) : (mpL f zs k).set k (f (zs.getD k 0)) = mpL f zs (k + 1) := by
  unfold mpL
  rw [List.set_append_right _ _ (by simp; omega), List.drop_eq_getElem_cons hk]
  have e : k - ((zs.take k).map f).length = 0 := by simp; omega
  rw [e, List.set_cons_zero, List.take_succ_eq_append_getElem hk, List.map_append, List.append_assoc]
  simp [List.getD_eq_getElem?_getD, hk]
/-- The heights but for the least one, so far. -/
def owL (ls : List Int) (A B : Int) (k : Nat) : List Int := (List.range k).map (owV ls A B)
theorem owL_len (ls : List Int) (A B : Int) (k : Nat) : (owL ls A B k).length = k := by simp [owL]
theorem owL_get (ls : List Int) (A B : Int) (m k : Nat) (hk : k < m) : (owL ls A B m).getD k 0 = owV ls A B k := by
  simp [owL, List.getD_eq_getElem?_getD, hk]
theorem owL_next (ls : List Int) (A B : Int) (k : Nat) : owL ls A B (k + 1) = owL ls A B k ++ [owV ls A B k] := by simp [owL, List.range_succ]
theorem owL_up (ls lo : List Int) (d A B : Int) (n : Nat) : mpL (fun z => z + leV ls lo d A B n) (owL ls A B n) n = ouL ls lo d A B n n := by
  have h := mpL_all (fun z => z + leV ls lo d A B n) (owL ls A B n)
  rw [owL_len] at h
  rw [h]
  unfold owL ouL ouV
  rw [List.map_map]; rfl
end Go.Proofs.Ytklhaanapembdaa
/- The codes of what wants an arch that stands, and a fraction that lies in memory; no function of the program is named. -/
namespace Go.Proofs.Ytklhaanapembdaa
open Go.RowKit
theorem csC_cases (ls lo hi : List Int) : (canV ls lo hi = true ∧ csC ls lo hi = 0) ∨ (canV ls lo hi = false ∧ (csC ls lo hi = 1 ∨ csC ls lo hi = 10)) := by
  cases g : blkB ls lo hi
  · exact .inr ⟨canV_bad g, .inl (cs_bad g)⟩
  · cases g2 : standB (bfind ls lo hi)
    · exact .inr ⟨(canV_eq g).trans g2, .inr (cs_cracked g g2)⟩
    · exact .inl ⟨(canV_eq g).trans g2, cs_ok g g2⟩
/-- A fraction's block, and its cells. -/
def FrAt (w : World) (g : Nat) (n d : Int) : Prop := w.heap[g]? = some (.cells #[.int .i64 n, .int .i64 d] 31 (0, 0))
theorem FrAt.cells {w : World} {g : Nat} {n d : Int} (h : FrAt w g n d) : w.cell? ⟨g, 0, none⟩ = some (.int .i64 n) ∧ w.cell? ⟨g, 1, none⟩ = some (.int .i64 d) ∧ (∀ i, w.frozen? ⟨g, i, none⟩ = false) := by
  refine ⟨?_, ?_, fun i => frozenOf h i⟩
  · rw [cellOf h]; rfl
  · rw [cellOf h]; rfl
end Go.Proofs.Ytklhaanapembdaa
