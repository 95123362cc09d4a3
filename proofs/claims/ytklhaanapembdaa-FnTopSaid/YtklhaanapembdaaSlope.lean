/- Contract of the reference's l13Slope: the least slope for a curvature; no old memory turns; condition: valid blocks, the moments, a curvature with small numbers. -/
import Derived.Test.YtklhaanapembdaaM13
import Derived.Test.YtklhaanapembdaaM22
import Derived.Test.YtklhaanapembdaaCond

namespace Go.Proofs.Ytklhaanapembdaa
set_option linter.unusedVariables false
set_option linter.unusedSimpArgs false
open Go.RowKit

/-- Small numbers of a slope. -/
def SlB (s : Int × Int) : Prop := 0 ≤ s.2 ∧ s.2 ≤ 38000000 ∧ -20000000000 ≤ s.1 ∧ s.1 ≤ 20000000000
theorem slB_step {s o : Int × Int} (hs : SlB s) (ho : SlB o) : SlB (slS s o) := by unfold slS; split; exact ho; exact hs
theorem slB_R {f : Nat → Nat → Int × Int} {j : Nat} {s : Int × Int} (hs : SlB s) (n : Nat) (hf : ∀ k, k < n → SlB (f j k)) : SlB (slR f j s n) := by
  induction n with
  | zero => exact hs
  | succ n ih => exact slB_step (ih fun k hk => hf k (by omega)) (hf n (by omega))
theorem slB_A {f : Nat → Nat → Int × Int} (n : Nat) (hf : ∀ j k, j < n → k < j → SlB (f j k)) : SlB (slA f n) := by
  induction n with
  | zero => show SlB ((0, 0) : Int × Int); exact ⟨by decide, by decide, by decide, by decide⟩
  | succ n ih => exact slB_R (ih fun j k hj hk => hf j k (by omega) hk) n fun k hk => hf n k (by omega) hk
theorem slO_bd {ls lo hi : List Int} (hv : blkB ls lo hi = true) {sn sd : Int} (n1 : 1 ≤ sn) (n2 : sn ≤ 40000) (d1 : 1 ≤ sd) (d2 : sd ≤ 3800000) {j k : Nat} (hj : j < lo.length) (hk : k < j) :
    SlB (slO ls lo hi sn sd j k) ∧ 1 ≤ (slO ls lo hi sn sd j k).2 ∧ 1 ≤ slD sd j k ∧ slD sd j k ≤ 38000000 ∧ -20000000000 ≤ slN ls lo hi sn sd j k ∧ slN ls lo hi sn sd j k ≤ 20000000000 := by
  obtain ⟨v1, v2, v3, v4, v5, v6, v7, v8⟩ := blkB_t hv
  obtain ⟨x1, x2⟩ := v6 j (by omega)
  obtain ⟨x5, x6⟩ := v7 k (by omega)
  obtain ⟨y5, y6⟩ := momAt_bd (ls := ls) (k := j) (by omega) v3 (by omega)
  obtain ⟨y7, y8⟩ := momAt_bd (ls := ls) (k := k) (by omega) v3 (by omega)
  have p1 := prod_bd (x := lo.getD j 0 - hi.getD k 0) (y := sd) (A := 2000) (B := 3800000) (by omega) (by omega) (by omega) (by omega) (by omega)
  have p2 := prod_bd (x := momAt ls j - momAt ls k) (y := sn) (A := 190000) (B := 40000) (by omega) (by omega) (by omega) (by omega) (by omega)
  rw [Int.mul_comm (momAt ls j - momAt ls k)] at p2
  have hN : -20000000000 ≤ slN ls lo hi sn sd j k ∧ slN ls lo hi sn sd j k ≤ 20000000000 := by unfold slN; omega
  have hD : 0 < slD sd j k := Int.mul_pos (by omega) (by omega)
  have hD2 : slD sd j k ≤ 38000000 := by
    have := (prod_bd (x := sd) (y := (j : Int) - k) (A := 3800000) (B := 10) (by omega) (by omega) (by omega) (by omega) (by omega)).2
    unfold slD; omega
  have hb := lwN_bd (slN ls lo hi sn sd j k) (slD sd j k) _ hN.1 hN.2
  have h1 := lwD_pos (slN ls lo hi sn sd j k) (slD sd j k) hD
  have h2 := lwD_le (slN ls lo hi sn sd j k) (slD sd j k) hD
  exact ⟨⟨by unfold slO; simp only; omega, by unfold slO; simp only; omega, hb.1, hb.2⟩, h1, by omega, hD2, hN.1, hN.2⟩
theorem two_far {W : World} {g k : Nat} {o : Obj} {v0 v1 : Value} (h : W.heap[k]? = some o) (hne : k ≠ g) : ((W.setCell ⟨g, 0, none⟩ v0).setCell ⟨g, 1, none⟩ v1).heap[k]? = some o :=
  blk_far (blk_far h (p := ⟨g, 0, none⟩) hne v0) (p := ⟨g, 1, none⟩) hne v1
theorem two_below {a W : World} {B g : Nat} {v0 v1 : Value} (h : Below B a W) (hne : B ≤ g) : Below B a ((W.setCell ⟨g, 0, none⟩ v0).setCell ⟨g, 1, none⟩ v1) :=
  (h.setCell (p := ⟨g, 0, none⟩) hne v0).setCell (p := ⟨g, 1, none⟩) hne v1
set_option maxRecDepth 100000 in
set_option maxHeartbeats 8000000 in
theorem l13Slope_any (g : Nat) (a0 a1 a2 : Option Addr) (n0 c0 n1 c1 n2 c2 : Nat) (ls lo hi : List Int) (am : Option Addr) (cm : Nat) (sn sd : Int) (w : World) (hg : AtB g a0 a1 a2 n0 c0 n1 c1 n2 c2 w) (h : IsB a0 a1 a2 n0 c0 n1 c1 n2 c2 ls lo hi w) (hm : IsRow .i64 w am n1 cm (moms ls n1)) (hv : blkB ls lo hi = true) (t1 : 1 ≤ sn) (t2 : sn ≤ 40000) (t3 : 1 ≤ sd) (t4 : sd ≤ 3800000) :
    Calls Try.prog 104 #[.pointer (some ⟨g, 0, none⟩), .slice am n1 cm, .agg #[.int .i64 sn, .int .i64 sd]] w fun e w' => e = .returned (.agg #[.int .i64 (slA (slO ls lo hi sn sd) n1).1, .int .i64 (slA (slO ls lo hi sn sd) n1).2]) ∧ Below w.heap.size w w' := by
  obtain ⟨v1, v2, v3, v4, v5, v6, v7, v8⟩ := blkB_t hv
  have l0 := h.1.1
  have l1 := h.2.1.1
  have l2 := h.2.2.1
  obtain ⟨b1, o1, rfl, r1⟩ := h.2.1.addr (by omega)
  obtain ⟨b2, o2, rfl, r2⟩ := h.2.2.addr (by omega)
  obtain ⟨b3, o3, rfl, r3⟩ := hm.addr (by omega)
  obtain ⟨g0, g1, g2, glt⟩ := hg.cells
  have hn1 : n1 ≤ 11 := by omega
  have hn3 : 3 ≤ n1 := by omega
  have hn2 : n2 = n1 := by omega
  have HV := Lib.hid hv
  have HL1 := Lib.hid l1
  have HV6 := Lib.hid v6
  have HV7 := Lib.hid v7
  have HLS := Lib.hid (show n1 = ls.length + 1 by omega)
  have HDL := Lib.hid (fun j hj => h.2.1.same (i := j) hj)
  have HDH := Lib.hid (fun j hj => h.2.2.same (i := j) hj)
  have HDM := Lib.hid (fun j (hj : j < n1) => (moms_get ls n1 j hj) ▸ hm.same (i := j) hj)
  have HMB := Lib.hid (fun j (hj : j < n1) => momAt_bd (ls := ls) (k := j) (by omega) v3 (by omega))
  have HB := Lib.hid (fun n (hn : n ≤ n1) => slB_A (f := slO ls lo hi sn sd) n fun j k hj hk => (slO_bd hv t1 t2 t3 t4 (by omega) hk).1)
  subst hn2
  clear hg h hm hv v1 v2 v3 v4 v5 v6 v7 v8 l0 l1 l2 g0
  go_enter Try.func104, Try.ntmps104
  go_wp2_with fail
  go_loopw [8] (fun i wr => ∃ j : Nat, 1 ≤ j ∧ j ≤ n2 ∧ i = .int .i64 (j : Int) ∧ FrAt wr w.heap.size sn sd ∧ FrAt wr (w.heap.size + 1) 0 0 ∧ FrAt wr (w.heap.size + 1 + 1) (slA (slO ls lo hi sn sd) j).1 (slA (slO ls lo hi sn sd) j).2 ∧ Below w.heap.size w wr ∧ w.heap.size + 1 + 1 < wr.heap.size) (fun i _ => (n2 - intOf i).toNat)
  case atStart => exact ⟨1, by omega, by omega, rfl, blk_alloc (blk_alloc (blk_new _ _)), blk_alloc (blk_new' _ _ (by simp)), blk_new' _ _ (by simp), (by repeat (first | exact Below.refl _ _ | assumption | refine Below.drew ?_ | refine below_drewN ?_ _ | refine Below.alloc ?_ (by first | omega | (simp; done) | (simp; omega)) _ | refine Below.setCell ?_ (by first | omega | (simp; done) | (simp; omega)) _)), by simp⟩
  case round =>
    obtain ⟨j, hj1, hj2, rfl, hA5, hA6, hA7, hB, hz⟩ := hrel
    by_cases hlj : j < n2
    · have hlj' : (j : Int) < (n2 : Int) := by omega
      obtain ⟨wo, rfl⟩ : ∃ wo : World, wo = wr := ⟨_, rfl⟩
      have hsb := HB.out j (by omega)
      have HSA := Lib.hid (show slA (slO ls lo hi sn sd) (j + 1) = slR (slO ls lo hi sn sd) j (slA (slO ls lo hi sn sd) j) j from rfl)
      have HBR := Lib.hid (fun k (hk : k ≤ j) => slB_R (f := slO ls lo hi sn sd) (j := j) hsb k fun k' hk' => (slO_bd HV.out t1 t2 t3 t4 (by rw [HL1.out]; omega) (by omega)).1)
      generalize slA (slO ls lo hi sn sd) j = s0 at *
      clear hsb
      go_wp2_with fail
      go_loopw [9] (fun i wr => ∃ k : Nat, k ≤ j ∧ i = .int .i64 (k : Int) ∧ FrAt wr w.heap.size sn sd ∧ FrAt wr (w.heap.size + 1) 0 0 ∧ FrAt wr (w.heap.size + 1 + 1) (slR (slO ls lo hi sn sd) j s0 k).1 (slR (slO ls lo hi sn sd) j s0 k).2 ∧ Below w.heap.size w wr ∧ w.heap.size + 1 + 1 < wr.heap.size) (fun i _ => (j - intOf i).toNat)
      case atStart => exact ⟨0, by omega, rfl, hA5, hA6, hA7, hB, hz⟩
      case round =>
        clear hA5 hA6 hA7 hB hz
        obtain ⟨k, hk, rfl, hA5, hA6, hA7, hB, hz⟩ := hrel
        by_cases hlk : k < j
        · have hlk' : (k : Int) < (j : Int) := by omega
          have HNX := Lib.hid (show slR (slO ls lo hi sn sd) j s0 (k + 1) = slS (slR (slO ls lo hi sn sd) j s0 k) (slO ls lo hi sn sd j k) from rfl)
          obtain ⟨hs1, hs2, hs3, hs4⟩ := HBR.out k hk
          obtain ⟨⟨ho1, ho2, ho3, ho4⟩, ho5, k1, k2, k3, k4⟩ := slO_bd HV.out t1 t2 t3 t4 (j := j) (k := k) (by rw [HL1.out]; omega) hlk
          have HSO := Lib.hid (show slO ls lo hi sn sd j k = (lwN (slN ls lo hi sn sd j k) (slD sd j k), lwD (slN ls lo hi sn sd j k) (slD sd j k)) from rfl)
          have HMK := Lib.hid (fun W => l02Make_any (slN ls lo hi sn sd j k) (slD sd j k) W (by omega) (by omega) (by omega) (by omega))
          have HEN := Lib.hid (show slN ls lo hi sn sd j k = (lo.getD j 0 - hi.getD k 0) * sd + sn * (momAt ls j - momAt ls k) from rfl)
          have HED := Lib.hid (show slD sd j k = sd * ((j : Int) - k) from rfl)
          rw [HSO.out] at ho1 ho2 ho3 ho4 ho5 HNX
          simp only at ho1 ho2 ho3 ho4 ho5
          generalize lwN (slN ls lo hi sn sd j k) (slD sd j k) = ON at *
          generalize lwD (slN ls lo hi sn sd j k) (slD sd j k) = OD at *
          generalize slR (slO ls lo hi sn sd) j s0 k = s at *
          rw [HEN.out, HED.out] at HMK
          rw [HEN.out] at k3 k4
          rw [HED.out] at k1 k2
          have d1 := keep1 hB (HDL.out j (by omega))
          have d2 := keep1 hB (HDH.out k (by omega))
          have d3 := keep1 hB (HDM.out j (by omega))
          have d4 := keep1 hB (HDM.out k (by omega))
          obtain ⟨x1, x2⟩ := HV6.out j (by have := HLS.out; omega)
          obtain ⟨x3, x4⟩ := HV7.out k (by have := HLS.out; omega)
          obtain ⟨y1, y2⟩ := HMB.out j (by omega)
          obtain ⟨y3, y4⟩ := HMB.out k (by omega)
          generalize lo.getD j 0 = e1 at *
          generalize hi.getD k 0 = e2 at *
          generalize momAt ls j = e3 at *
          generalize momAt ls k = e4 at *
          obtain ⟨m1, m2⟩ := prod_bd (x := e1 - e2) (y := sd) (A := 2000) (B := 3800000) (by omega) (by omega) (by omega) (by omega) (by omega)
          have q0 := keep1 hB g1
          have q1 := keep1 hB g2
          obtain ⟨p0, p1, pf⟩ := hA5.cells
          have zz1 : (0 : Int) ≤ (j : Int) := by omega
          have zz2 : (0 : Int) ≤ (k : Int) := by omega
          have zz3 : (j : Int) < (n2 : Int) := by omega
          have zz4 : (k : Int) < (n2 : Int) := by omega
          have HA5 := Lib.hid hA5
          have HA6 := Lib.hid hA6
          have HA7 := Lib.hid hA7
          clear hA5 hA6 hA7
          have i1 := IntWalk.i64_in (e1 - e2) (by omega)
          have i2 := IntWalk.i64_in ((e1 - e2) * sd) (by omega)
          have i3 := IntWalk.i64_in (e3 - e4) (by omega)
          have i4 := IntWalk.i64_in (sn * (e3 - e4)) (by omega)
          have i5 := IntWalk.i64_in ((e1 - e2) * sd + sn * (e3 - e4)) (by omega)
          have i6 := IntWalk.i64_in ((j : Int) - (k : Int)) (by omega)
          have i7 := IntWalk.i64_in (sd * ((j : Int) - (k : Int))) (by omega)
          have ne1 : wr.heap.size ≠ g := by have := hB.size; omega
          have ne2 : wr.heap.size ≠ b1 := by have := hB.size; omega
          have ne3 : wr.heap.size ≠ b2 := by have := hB.size; omega
          have ne4 : wr.heap.size ≠ b3 := by have := hB.size; omega
          have ne5 : wr.heap.size ≠ w.heap.size := by omega
          go_wp2_with fail
          (try simp only [List.append_eq, List.cons_append, List.nil_append])
          go_cut [10] (fun s10 wx => ∃ g10 : Nat, s10 = .pointer (some ⟨g10, 0, none⟩) ∧ FrAt wx g10 ON OD ∧ FrAt wx w.heap.size sn sd ∧ FrAt wx (w.heap.size + 1) 0 0 ∧ FrAt wx (w.heap.size + 1 + 1) s.1 s.2 ∧ Below w.heap.size w wx ∧ w.heap.size + 1 + 1 < g10)
          case first =>
            have q9 : wr.drew.cell? ⟨g, 1, none⟩ = some (Value.slice (some ⟨b1, o1, none⟩) n2 c1) ∧ wr.drew.cell? ⟨g, 2, none⟩ = some (Value.slice (some ⟨b2, o2, none⟩) n2 c2) ∧ wr.drew.cell? ⟨b1, o1 + j, none⟩ = some (Value.int .i64 e1) ∧ wr.drew.cell? ⟨b2, o2 + k, none⟩ = some (Value.int .i64 e2) ∧ wr.drew.cell? ⟨b3, o3 + j, none⟩ = some (Value.int .i64 e3) ∧ wr.drew.cell? ⟨b3, o3 + k, none⟩ = some (Value.int .i64 e4) ∧ wr.drew.cell? ⟨w.heap.size, 0, none⟩ = some (Value.int .i64 sn) ∧ wr.drew.cell? ⟨w.heap.size, 1, none⟩ = some (Value.int .i64 sd) := ⟨q0, q1, d1, d2, d3, d4, p0, p1⟩
            go_region_held3 (fun w' => w'.cell? ⟨g, 1, none⟩ = some (Value.slice (some ⟨b1, o1, none⟩) n2 c1) ∧ w'.cell? ⟨g, 2, none⟩ = some (Value.slice (some ⟨b2, o2, none⟩) n2 c2) ∧ w'.cell? ⟨b1, o1 + j, none⟩ = some (Value.int .i64 e1) ∧ w'.cell? ⟨b2, o2 + k, none⟩ = some (Value.int .i64 e2) ∧ w'.cell? ⟨b3, o3 + j, none⟩ = some (Value.int .i64 e3) ∧ w'.cell? ⟨b3, o3 + k, none⟩ = some (Value.int .i64 e4) ∧ w'.cell? ⟨w.heap.size, 0, none⟩ = some (Value.int .i64 sn) ∧ w'.cell? ⟨w.heap.size, 1, none⟩ = some (Value.int .i64 sd)) (first | (with_reducible assumption) | (with_reducible exact q9) | (refine ⟨?_, ?_, ?_, ?_, ?_, ?_, ?_, ?_⟩ <;> (repeat (first | (with_reducible assumption) | (with_reducible refine keepD ?_) | (with_reducible refine keepA ?_) | (with_reducible refine keep1S ?_ (by first | (with_reducible exact ne1) | (with_reducible exact ne2) | (with_reducible exact ne3) | (with_reducible exact ne4) | (with_reducible exact ne5) | (with_reducible exact nf1) | (with_reducible exact nf2) | (with_reducible exact nf3) | (with_reducible exact nf4) | (with_reducible exact nf5))))) <;> first | (with_reducible assumption) | (with_reducible exact hS.1) | (with_reducible exact hS.2.1) | (with_reducible exact hS.2.2.1) | (with_reducible exact hS.2.2.2.1) | (with_reducible exact hS.2.2.2.2.1) | (with_reducible exact hS.2.2.2.2.2.1) | (with_reducible exact hS.2.2.2.2.2.2.1) | (with_reducible exact hS.2.2.2.2.2.2.2)))
              ((go_at_call 103; (with_reducible refine (HMK.out _).mono ?_); rintro e wx ⟨rfl, hbx⟩; have hzx := hbx.size; (try simp at hzx); (have nf1 : wx.heap.size ≠ g := by have := hB.size; omega); (have nf2 : wx.heap.size ≠ b1 := by have := hB.size; omega); (have nf3 : wx.heap.size ≠ b2 := by have := hB.size; omega); (have nf4 : wx.heap.size ≠ b3 := by have := hB.size; omega); (have nf5 : wx.heap.size ≠ w.heap.size := by omega); have hS : wx.cell? ⟨g, 1, none⟩ = some (Value.slice (some ⟨b1, o1, none⟩) n2 c1) ∧ wx.cell? ⟨g, 2, none⟩ = some (Value.slice (some ⟨b2, o2, none⟩) n2 c2) ∧ wx.cell? ⟨b1, o1 + j, none⟩ = some (Value.int .i64 e1) ∧ wx.cell? ⟨b2, o2 + k, none⟩ = some (Value.int .i64 e2) ∧ wx.cell? ⟨b3, o3 + j, none⟩ = some (Value.int .i64 e3) ∧ wx.cell? ⟨b3, o3 + k, none⟩ = some (Value.int .i64 e4) ∧ wx.cell? ⟨w.heap.size, 0, none⟩ = some (Value.int .i64 sn) ∧ wx.cell? ⟨w.heap.size, 1, none⟩ = some (Value.int .i64 sd) := by { (refine ⟨?_, ?_, ?_, ?_, ?_, ?_, ?_, ?_⟩ <;> refine keep1 hbx ?_ <;> first | (with_reducible assumption) | exact q0 | exact q1 | exact d1 | exact d2 | exact d3 | exact d4 | exact p0 | exact p1 | exact keepA q0 | exact keepA q1 | exact keepA d1 | exact keepA d2 | exact keepA d3 | exact keepA d4 | exact keepA p0 | exact keepA p1) }; have hBx : Below w.heap.size w wx := below_callB (by repeat (first | exact Below.refl _ _ | assumption | refine Below.drew ?_ | refine below_drewN ?_ _ | refine Below.alloc ?_ (by first | omega | (simp; done) | (simp; omega)) _ | refine Below.setCell ?_ (by first | omega | (simp; done) | (simp; omega)) _)) (by first | omega | (simp; done) | (simp; omega)) hbx; have A5 := (by first | exact blk_call (blkD HA5.out) hbx | exact blk_call (blkD (blk_alloc HA5.out)) hbx : FrAt wx w.heap.size sn sd); have A6 := (by first | exact blk_call (blkD HA6.out) hbx | exact blk_call (blkD (blk_alloc HA6.out)) hbx : FrAt wx (w.heap.size + 1) 0 0); have A7 := (by first | exact blk_call (blkD HA7.out) hbx | exact blk_call (blkD (blk_alloc HA7.out)) hbx : FrAt wx (w.heap.size + 1 + 1) s.1 s.2); (try (have hN : FrAt wx wr.heap.size 0 0 := blk_call (blkD (blk_new wr _)) hbx; obtain ⟨u0, u1, uf⟩ := hN.cells))))
            all_goals
              go_wp2_with fail
              go_meet
            · exact ⟨_, rfl, blk_new _ _, blk_alloc A5, blk_alloc A6, blk_alloc A7, hBx.alloc hBx.size _, by omega⟩
            · exact ⟨_, rfl, blk_set (blk_set hN 0 _) 1 _, two_far A5 (by omega), two_far A6 (by omega), two_far A7 (by omega), two_below hBx (by omega), by omega⟩
          case rest =>
            obtain ⟨g10, rfl, hA10, hA5, hA6, hA7, hB', hlt10⟩ := hcut
            clear i1 i2 i3 i4 i5 i6 i7 ne1 ne2 ne3 ne4 ne5 d1 d2 d3 d4 q0 q1 p0 p1 pf m1 m2 hB HA5 HA6 HA7
            obtain ⟨u0, u1, uf⟩ := hA10.cells
            obtain ⟨t0', t1', tf⟩ := hA7.cells
            have hz10 := blk_lt hA10
            obtain ⟨M1, M2⟩ := prod_bd (x := ON) (y := s.2) (A := 20000000000) (B := 38000000) (by omega) (by omega) (by omega) (by omega) (by omega)
            obtain ⟨M3, M4⟩ := prod_bd (x := s.1) (y := OD) (A := 20000000000) (B := 38000000) (by omega) (by omega) (by omega) (by omega) (by omega)
            have HST := Lib.hid (show slS s (ON, OD) = if s.2 = 0 ∨ s.1 * OD < ON * s.2 then (ON, OD) else s from rfl)
            have hy : (s.2 = 0 ∨ (s.2 ≠ 0 ∧ s.1 * OD < ON * s.2)) ∨ (s.2 ≠ 0 ∧ ¬ s.1 * OD < ON * s.2) := by omega
            rcases hy with (hy | hy) | hy
            · have y1 : decide (s.2 = 0) = true := decide_eq_true hy
              have y2 : (s.2 == 0) = true := by simpa using hy
              rw [if_pos (Or.inl hy)] at HST
              clear hy
              go_wp2
              go_roundw
              case rel => exact ⟨k + 1, by omega, by go_num, two_far hA5 (by omega), two_far hA6 (by omega), by rw [HNX.out, HST.out]; exact blk_set (blk_set hA7 0 _) 1 _, two_below hB' (by omega), by simpa [World.setCell] using (by omega : w.heap.size + 1 + 1 < wc.heap.size)⟩
              case measure => first | (simp [intOf]; done) | (simp [intOf]; omega)
            · have y1 : decide (s.2 = 0) = false := decide_eq_false hy.1
              have y2 : (s.2 == 0) = false := by simpa using hy.1
              have y3 : decide (s.1 * OD < ON * s.2) = true := decide_eq_true hy.2
              rw [if_pos (Or.inr hy.2)] at HST
              clear hy
              go_wp2
              go_roundw
              case rel => exact ⟨k + 1, by omega, by go_num, two_far hA5 (by omega), two_far hA6 (by omega), by rw [HNX.out, HST.out]; exact blk_set (blk_set hA7 0 _) 1 _, two_below hB' (by omega), by simpa [World.setCell] using (by omega : w.heap.size + 1 + 1 < wc.heap.size)⟩
              case measure => first | (simp [intOf]; done) | (simp [intOf]; omega)
            · have y1 : decide (s.2 = 0) = false := decide_eq_false hy.1
              have y2 : (s.2 == 0) = false := by simpa using hy.1
              have y3 : decide (s.1 * OD < ON * s.2) = false := decide_eq_false hy.2
              rw [if_neg (by omega)] at HST
              clear hy
              go_wp2
              go_roundw
              case rel => exact ⟨k + 1, by omega, by go_num, hA5, hA6, by rw [HNX.out, HST.out]; exact hA7, hB', by omega⟩
              case measure => first | (simp [intOf]; done) | (simp [intOf]; omega)
        · obtain rfl : j = k := by omega
          go_wp2
          go_roundw
          case rel => exact ⟨j + 1, by omega, by omega, by go_num, hA5, hA6, by rw [HSA.out]; exact hA7, hB, hz⟩
          case measure => first | (simp [intOf]; done) | (simp [intOf]; omega)
    · obtain rfl : j = n2 := by omega
      obtain ⟨u0, u1, uf⟩ := hA6.cells
      obtain ⟨t0', t1', tf⟩ := hA7.cells
      obtain ⟨s, hs⟩ : ∃ s, slA (slO ls lo hi sn sd) j = s := ⟨_, rfl⟩
      rw [hs] at t0' t1'
      have HSS := Lib.hid hs
      clear hs
      go_wp2
      (try simp only [Exit.inBlock, Exit.then])
      refine bodyPost_ret (v := .agg #[.int .i64 s.1, .int .i64 s.2]) (by simp [results, Try.results104, go_sem, u0, u1, uf]) rfl ⟨by rw [HSS.out], two_below hB (by omega)⟩
end Go.Proofs.Ytklhaanapembdaa
