/- The plain law of FnShifts: shifting back restores a pattern, a shifted pattern is found by its shift, the shifts that keep it divide its bricks; no program in sight. -/
import Derived.Test.YtlkdkidpbjpkhaaLagr
namespace Go.Proofs.Ytlkdkidpbjpkhaa
open Go.RowKit

theorem shB_bt (ss : List ByteArray) (r u : Int) (y x : Nat) : shB ss r u y x = bt ss (((y : Int) - u) % (ss.length : Int)).toNat (((x : Int) - r) % (patN ss : Int)).toNat := rfl
theorem sub_mod {a r r' n : Int} (h : r % n = r' % n) : (a - r) % n = (a - r') % n := by rw [Int.sub_emod, h, ← Int.sub_emod]
theorem shB_mod (ss : List ByteArray) {r r' u u' : Int} (h1 : r % (patN ss : Int) = r' % (patN ss : Int)) (h2 : u % (ss.length : Int) = u' % (ss.length : Int)) (y x : Nat) : shB ss r u y x = shB ss r' u' y x := by
  rw [shB_bt, shB_bt, sub_mod h1, sub_mod h2]
theorem isB_mod (ss ys : List ByteArray) {r r' u u' : Int} (h1 : r % (patN ss : Int) = r' % (patN ss : Int)) (h2 : u % (ss.length : Int) = u' % (ss.length : Int)) (h : isB ss ys r u = true) : isB ss ys r' u' = true :=
  isB_mk fun y x hy hx => by rw [← shB_mod ss h1 h2]; exact isB_t h y x hy hx
theorem shL_pat {ss : List ByteArray} (h : patB ss = true) (r u : Int) : patB (shL ss r u) = true ∧ patN (shL ss r u) = patN ss := by
  obtain ⟨v1, v2, v3, v4, v5⟩ := patB_t h
  refine patB_of (by rw [shL_len]; exact v1) (by rw [shL_len]; exact v2) v3 v4 fun s hs => ?_
  obtain ⟨y, hy, rfl⟩ := List.mem_map.1 hs
  refine ⟨shRow_size h r u y, onlyB_mk fun x hx => ?_⟩
  rw [shRow_size h] at hx
  rw [shRow_get h r u y x hx]
  obtain ⟨m1, m2⟩ := modN (a := (y : Int) - u) (n := (ss.length : Int)) (by omega)
  obtain ⟨m3, m4⟩ := modN (a := (x : Int) - r) (n := (patN ss : Int)) (by omega)
  have := (v5 (((y : Int) - u) % (ss.length : Int)).toNat (by omega))
  exact onlyB_t this.2 _ (by rw [this.1]; omega)
theorem shL_bt {ss : List ByteArray} (h : patB ss = true) (r u : Int) (y x : Nat) (hy : y < ss.length) (hx : x < patN ss) : bt (shL ss r u) y x = shB ss r u y x := by
  unfold bt
  rw [shL_get ss r u y hy, shRow_get h r u y x hx]
/-- A pattern by its bytes. -/
theorem pat_eq {xs ys : List ByteArray} (hx : patB xs = true) (hy : patB ys = true) (hl : xs.length = ys.length) (hn : patN xs = patN ys) (h : ∀ y x, y < xs.length → x < patN xs → bt xs y x = bt ys y x) : xs = ys := by
  obtain ⟨v1, v2, v3, v4, v5⟩ := patB_t hx
  obtain ⟨t1, t2, t3, t4, t5⟩ := patB_t hy
  refine list_eq hl fun y hy' => ?_
  have e1 := (v5 y hy').1
  have e2 := (t5 y (by omega)).1
  exact bytes_eq (by omega) fun x hx' => h y x hy' (by omega)
theorem mod_back {a u n : Int} (hn : 0 < n) (h0 : 0 ≤ a) (h1 : a < n) : (((((a - -u) % n).toNat : Int)) - u) % n = a := by
  obtain ⟨m1, m2⟩ := modN (a := a - -u) hn
  rw [show (((a - -u) % n).toNat : Int) = (a - -u) % n by omega, Int.sub_emod, Int.emod_emod_of_dvd _ (Int.dvd_refl n), ← Int.sub_emod, show a - -u - u = a by omega]
  exact Int.emod_eq_of_lt h0 h1
theorem shL_back {ss : List ByteArray} (h : patB ss = true) (r u : Int) : shL (shL ss r u) (-r) (-u) = ss := by
  obtain ⟨v1, v2, v3, v4, v5⟩ := patB_t h
  obtain ⟨p1, p2⟩ := shL_pat h r u
  obtain ⟨p3, p4⟩ := shL_pat p1 (-r) (-u)
  refine pat_eq p3 h (by rw [shL_len, shL_len]) (by rw [p4, p2]) fun y x hy hx => ?_
  rw [shL_len, shL_len] at hy
  rw [p4, p2] at hx
  rw [shL_bt p1 _ _ _ _ (by rw [shL_len]; exact hy) (by rw [p2]; exact hx), shB_bt, shL_len, p2]
  obtain ⟨m1, m2⟩ := modN (a := (y : Int) - -u) (n := (ss.length : Int)) (by omega)
  obtain ⟨m3, m4⟩ := modN (a := (x : Int) - -r) (n := (patN ss : Int)) (by omega)
  rw [shL_bt h _ _ _ _ (by omega) (by omega), shB_bt, mod_back (by omega) (by omega) (by omega), mod_back (by omega) (by omega) (by omega)]
  simp
theorem is_self {ss : List ByteArray} (h : patB ss = true) (r u : Int) : isB ss (shL ss r u) r u = true :=
  isB_mk fun y x hy hx => (shL_bt h r u y x hy hx).symm
theorem fL_mem {xs ys : List ByteArray} (h : patB xs = true) (p : Nat × Nat) : p ∈ fL xs ys ↔ (p.1 < patN xs ∧ p.2 < xs.length) ∧ isB xs ys (p.1 : Int) (p.2 : Int) = true := by
  obtain ⟨v1, v2, v3, v4, v5⟩ := patB_t h
  rw [fL_filter (by omega), List.mem_filter, allG_mem (by omega)]
  exact Iff.rfl
/-- What makes one pattern into another is the shift itself. -/
theorem is_eq {xs ys : List ByteArray} (h : patB xs = true) (hy : patB ys = true) (hl : ys.length = xs.length) (hn : patN ys = patN xs) {r u : Int} (hi : isB xs ys r u = true) : shL xs r u = ys := by
  obtain ⟨p1, p2⟩ := shL_pat h r u
  refine pat_eq p1 hy (by rw [shL_len, hl]) (by rw [p2, hn]) fun y x hy' hx => ?_
  rw [shL_len] at hy'
  rw [p2] at hx
  rw [shL_bt h r u y x hy' hx]
  exact isB_t hi y x hy' hx
theorem shift_first {ss : List ByteArray} (h : patB ss = true) (r u : Int) : ∃ a b : Nat, (fL ss (shL ss r u)).head? = some (a, b) ∧ a < 24 ∧ b < 24 ∧ shL ss (a : Int) (b : Int) = shL ss r u := by
  obtain ⟨v1, v2, v3, v4, v5⟩ := patB_t h
  obtain ⟨m1, m2⟩ := modN (a := r) (n := (patN ss : Int)) (by omega)
  obtain ⟨m3, m4⟩ := modN (a := u) (n := (ss.length : Int)) (by omega)
  have hm : ((r % (patN ss : Int)).toNat, (u % (ss.length : Int)).toNat) ∈ fL ss (shL ss r u) := (fL_mem h _).2 ⟨⟨by simp only; omega, by simp only; omega⟩, by
    simp only
    rw [show ((r % (patN ss : Int)).toNat : Int) = r % (patN ss : Int) by omega, show ((u % (ss.length : Int)).toNat : Int) = u % (ss.length : Int) by omega]
    exact isB_mod ss _ (Int.emod_emod_of_dvd _ (Int.dvd_refl _)).symm (Int.emod_emod_of_dvd _ (Int.dvd_refl _)).symm (is_self h r u)⟩
  cases hf : fL ss (shL ss r u) with
  | nil => rw [hf] at hm; cases hm
  | cons p t =>
    obtain ⟨p1, p2⟩ := shL_pat h r u
    have hp : p ∈ fL ss (shL ss r u) := by rw [hf]; exact List.mem_cons_self ..
    obtain ⟨⟨g1, g2⟩, g3⟩ := (fL_mem h p).1 hp
    exact ⟨p.1, p.2, rfl, by omega, by omega, is_eq h p1 (by rw [shL_len]) p2 g3⟩
/-- The shifts that keep a pattern. -/
theorem keep_zero {ss : List ByteArray} (h : patB ss = true) : isB ss ss 0 0 = true := by
  obtain ⟨v1, v2, v3, v4, v5⟩ := patB_t h
  refine isB_mk fun y x hy hx => ?_
  rw [shB_bt, Int.sub_zero, Int.sub_zero, Int.emod_eq_of_lt (by omega) (by omega), Int.emod_eq_of_lt (by omega) (by omega)]
  simp [bt]
theorem keep_sub {ss : List ByteArray} (h : patB ss = true) {r u r' u' : Int} (h1 : isB ss ss r u = true) (h2 : isB ss ss r' u' = true) : isB ss ss (r - r') (u - u') = true := by
  obtain ⟨v1, v2, v3, v4, v5⟩ := patB_t h
  refine isB_mk fun y x hy hx => ?_
  obtain ⟨m1, m2⟩ := modN (a := (y : Int) - -u') (n := (ss.length : Int)) (by omega)
  obtain ⟨m3, m4⟩ := modN (a := (x : Int) - -r') (n := (patN ss : Int)) (by omega)
  have k1 := isB_t h1 (((y : Int) - -u') % (ss.length : Int)).toNat (((x : Int) - -r') % (patN ss : Int)).toNat (by omega) (by omega)
  have k2 := isB_t h2 (((y : Int) - -u') % (ss.length : Int)).toNat (((x : Int) - -r') % (patN ss : Int)).toNat (by omega) (by omega)
  rw [shB_bt, mod_back (by omega) (by omega) (by omega), mod_back (by omega) (by omega) (by omega)] at k2
  rw [shB_bt] at k1
  rw [shB_bt]
  have e1 : (((((y : Int) - -u') % (ss.length : Int)).toNat : Int) - u) % (ss.length : Int) = ((y : Int) - (u - u')) % (ss.length : Int) := by
    rw [show ((((y : Int) - -u') % (ss.length : Int)).toNat : Int) = ((y : Int) - -u') % (ss.length : Int) by omega, Int.sub_emod, Int.emod_emod_of_dvd _ (Int.dvd_refl _), ← Int.sub_emod]
    congr 1; omega
  have e2 : (((((x : Int) - -r') % (patN ss : Int)).toNat : Int) - r) % (patN ss : Int) = ((x : Int) - (r - r')) % (patN ss : Int) := by
    rw [show ((((x : Int) - -r') % (patN ss : Int)).toNat : Int) = ((x : Int) - -r') % (patN ss : Int) by omega, Int.sub_emod, Int.emod_emod_of_dvd _ (Int.dvd_refl _), ← Int.sub_emod]
    congr 1; omega
  rw [e1, e2] at k1
  rw [k1, ← k2]
  simp [bt]
theorem sm_cast {W a b : Nat} (hb : b ≤ W) : (((sm W a b : Nat) : Int)) % (W : Int) = ((a : Int) - (b : Int)) % (W : Int) := by
  unfold sm
  rw [Int.natCast_emod, Int.emod_emod_of_dvd _ (Int.dvd_refl _)]
  rw [show ((a + (W - b) : Nat) : Int) = ((a : Int) - (b : Int)) + (W : Int) by omega, Int.add_emod_right]
theorem keep_div {ss : List ByteArray} (h : patB ss = true) : 1 ≤ (fL ss ss).length ∧ (fL ss ss).length ∣ patN ss * ss.length := by
  obtain ⟨v1, v2, v3, v4, v5⟩ := patB_t h
  constructor
  · exact List.length_pos_of_mem ((fL_mem h (0, 0)).2 ⟨⟨by simp only; omega, by simp only; omega⟩, keep_zero h⟩)
  · rw [fL_filter (by omega)]
    refine lagrange_all (by omega) (by omega) _ (keep_zero h) fun a b ha hb h1 h2 => ?_
    have k := keep_sub h h1 h2
    exact isB_mod ss ss (sm_cast (by have := hb.1; omega)).symm (sm_cast (by have := hb.2; omega)).symm k
theorem all_rem {ss : List ByteArray} (h : patB ss = true) : ((ss.length : Int) * (patN ss : Int)).tmod ((fL ss ss).length : Int) = 0 := by
  have hd := (keep_div h).2
  have hi : (((fL ss ss).length : Nat) : Int) ∣ ((ss.length : Int) * (patN ss : Int)) := by
    rw [← Int.natCast_mul, Nat.mul_comm]
    exact Int.natCast_dvd_natCast.2 hd
  exact Int.tmod_eq_zero_of_dvd hi
end Go.Proofs.Ytlkdkidpbjpkhaa
