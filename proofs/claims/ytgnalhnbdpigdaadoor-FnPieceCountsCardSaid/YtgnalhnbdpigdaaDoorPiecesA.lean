/- Contracts of BricksOfAll, program and reference: the bricks of all walls, and the code; no old memory turns; condition: the slice can be read. -/
import Derived.Test.YtgnalhnbdpigdaaDoorPiecesV
namespace Go.Proofs.YtgnalhnbdpigdaaDoor
open Go.ChangeShapes Go.WideShapes Go.ChangeAt Go.RowKit

def brk (l h j : Int) (p : Int × Int × Int) : Int := bricksN l h j p.1 p.2.1 p.2.2
/-- The bricks of the first walls. -/
def bsum (l h j : Int) (ps : List (Int × Int × Int)) : Nat → Int
  | 0 => 0
  | k + 1 => bsum l h j ps k + brk l h j (ps.getD k (0, 0, 0))
theorem pB_t {p : Int × Int × Int} (h : pB p = true) : 1 ≤ p.1 ∧ p.1 ≤ 100000 ∧ 1 ≤ p.2.1 ∧ p.2.1 ≤ 20000 ∧ 1 ≤ p.2.2 ∧ p.2.2 ≤ 6 := pieceB_t h
theorem brk_bd {l h j : Int} {p : Int × Int × Int} (h1 : 100 ≤ l) (h2 : l ≤ 500) (h3 : 30 ≤ h) (h4 : h ≤ 150) (h5 : 0 ≤ j) (h6 : j ≤ 20) (hp : pB p = true) : 1 ≤ brk l h j p ∧ brk l h j p ≤ 12000000000 := by
  obtain ⟨g1, g2, g3, g4, g5, g6⟩ := pB_t hp
  obtain ⟨m1, m2⟩ := face_bd h1 h2 h3 h4 h5 h6
  obtain ⟨_, m5, m6⟩ := vol_bd g1 g2 g3 g4 g5 g6
  obtain ⟨r1, r2, r3, _⟩ := rupI_bd (n := p.1 * p.2.1 * p.2.2) (d := (l + j) * (h + j)) (by omega) (by omega)
  unfold brk bricksN
  refine ⟨?_, by omega⟩
  rcases Int.lt_or_le (rupI (p.1 * p.2.1 * p.2.2) ((l + j) * (h + j))) 1 with h0 | h0
  · have : rupI (p.1 * p.2.1 * p.2.2) ((l + j) * (h + j)) = 0 := by omega
    rw [this, Int.zero_mul] at r3
    omega
  · exact h0
theorem bsum_bd {l h j : Int} {ps : List (Int × Int × Int)} (h1 : 100 ≤ l) (h2 : l ≤ 500) (h3 : 30 ≤ h) (h4 : h ≤ 150) (h5 : 0 ≤ j) (h6 : j ≤ 20) (hp : allP ps = true) (k : Nat) (hk : k ≤ ps.length) : (k : Int) ≤ bsum l h j ps k ∧ bsum l h j ps k ≤ k * 12000000000 := by
  induction k with
  | zero => simp [bsum]
  | succ k ih =>
    have e1 := ih (by omega)
    have e2 := brk_bd h1 h2 h3 h4 h5 h6 (allP_t hp k (by omega))
    simp only [bsum]
    omega
def allC (l d h j : Int) (ps : List (Int × Int × Int)) : Int × Int := if fmtB l d h j && vpB ps then (bsum l h j ps ps.length, 0) else (0, 1)
theorem allC_yes {l d h j : Int} {ps : List (Int × Int × Int)} (h1 : fmtB l d h j = true) (h2 : vpB ps = true) : allC l d h j ps = (bsum l h j ps ps.length, 0) := by simp [allC, h1, h2]
theorem allC_no {l d h j : Int} {ps : List (Int × Int × Int)} (h0 : fmtB l d h j = false ∨ (fmtB l d h j = true ∧ vpB ps = false)) : allC l d h j ps = (0, 1) := by
  rcases h0 with h | ⟨h, h'⟩ <;> simp [allC, *]
theorem vpB_t {ps : List (Int × Int × Int)} (h : vpB ps = true) : ps.length ≤ 20 ∧ allP ps = true := by
  simp only [vpB, Bool.and_eq_true, decide_eq_true_eq] at h; exact h
set_option maxHeartbeats 2000000 in
theorem l11All_any (l d h j : Int) (a : Option Addr) (len cap : Nat) (ps : List (Int × Int × Int)) (w : World) (hz : IsPieces w a len cap ps) (h1 : 100 ≤ l) (h2 : l ≤ 500) (h3 : 30 ≤ h) (h4 : h ≤ 150) (h5 : 0 ≤ j) (h6 : j ≤ 20) (hv : allP ps = true) (hlen : len ≤ 20) :
    Calls Tryd.prog 46 #[.agg #[.int .i64 l, .int .i64 d, .int .i64 h, .int .i64 j], .slice a len cap] w fun e w' => e = .returned (.int .i64 (bsum l h j ps len)) ∧ Below w.heap.size w w' := by
  have hl := hz.1
  have H := Lib.hid hz
  have HB := Lib.hid (fun k (hk : k ≤ len) => bsum_bd h1 h2 h3 h4 h5 h6 hv k (by rw [hl]; exact hk))
  have HP := Lib.hid (fun k (hk : k < len) => allP_t hv k (by rw [hl]; exact hk))
  clear hz hl hv
  go_enter Tryd.func46, Tryd.ntmps46
  go_wp2_with fail
  go_loopw [5, 6] (fun s i wr => ∃ k : Nat, k ≤ len ∧ i = .int .i64 (k : Int) ∧ s = .int .i64 (bsum l h j ps k) ∧ Below w.heap.size w wr ∧ wr.heap[w.heap.size]? = some (.cells #[.int .i64 l, .int .i64 d, .int .i64 h, .int .i64 j] 31 (0, 0))) (fun _ i _ => (len - intOf i).toNat)
  case atStart => exact ⟨0, by omega, rfl, rfl, (by repeat (first | exact Below.refl _ _ | assumption | refine Below.drew ?_ | refine below_drewN ?_ _ | refine Below.alloc ?_ (by first | omega | (simp; done) | (simp; omega)) _ | refine Below.setCell ?_ (by first | omega | (simp; done) | (simp; omega)) _)), blk_new _ _⟩
  case round =>
    obtain ⟨k, hk, rfl, rfl, hB, hF⟩ := hrel
    have HF := Lib.hid hF
    have c0 := cellOf hF 0
    have c1 := cellOf hF 1
    have c2 := cellOf hF 2
    have c3 := cellOf hF 3
    have clt := blk_lt hF
    simp at c0 c1 c2 c3
    clear hF
    have hz := hB.size
    by_cases hlt : k < len
    · have hlt' : (k : Int) < (len : Int) := by omega
      obtain ⟨b, o, rfl, hb, p0, p1, p2⟩ := (H.out.below hB).cell hlt
      have HA : Hid (PieceAt wr b (o + k * 3) (ps.getD k (0, 0, 0)).1 (ps.getD k (0, 0, 0)).2.1 (ps.getD k (0, 0, 0)).2.2) := Lib.hid ⟨p0, p1, p2⟩
      have HN : Hid (bsum l h j ps (k + 1) = bsum l h j ps k + brk l h j (ps.getD k (0, 0, 0))) := Lib.hid rfl
      have hp := HP.out k hlt
      obtain ⟨t1, t2⟩ := HB.out k hk
      obtain ⟨u1, u2⟩ := brk_bd h1 h2 h3 h4 h5 h6 hp
      generalize ps.getD k (0, 0, 0) = p at *
      obtain ⟨q0, q1, q2⟩ := p
      obtain ⟨g1, g2, g3, g4, g5, g6⟩ := pB_t hp
      simp only at HA p0 p1 p2 g1 g2 g3 g4 g5 g6
      have HE := Lib.hid (show bricksN l h j q0 q1 q2 = brk l h j (q0, q1, q2) from rfl)
      have HC : Hid (∀ W, PieceAt W b (o + k * 3) q0 q1 q2 → Calls Tryd.prog 43 #[.agg #[.int .i64 l, .int .i64 d, .int .i64 h, .int .i64 j], .pointer (some ⟨b, o + k * 3, none⟩)] W fun e w' => e = .returned (.int .i64 (brk l h j (q0, q1, q2))) ∧ Below W.heap.size W w') := Lib.hid fun W hW => l11Bricks_any l d h j q0 q1 q2 b (o + k * 3) W hW h1 h2 h3 h4 h5 h6 g1 g2 g3 g4 g5 g6
      generalize brk l h j (q0, q1, q2) = v at *
      generalize bsum l h j ps k = s at *
      have e1 := IntWalk.i64_in (s + v) (by omega)
      go_wp2
      go_region_held3 (fun w' => w'.cell? ⟨w.heap.size, 0, none⟩ = some (.int .i64 l) ∧ w'.cell? ⟨w.heap.size, 1, none⟩ = some (.int .i64 d) ∧ w'.cell? ⟨w.heap.size, 2, none⟩ = some (.int .i64 h) ∧ w'.cell? ⟨w.heap.size, 3, none⟩ = some (.int .i64 j) ∧ w'.cell? ⟨b, o + k * 3, none⟩ = some (.int .i64 q0) ∧ w'.cell? ⟨b, o + k * 3 + 1, none⟩ = some (.int .i64 q1) ∧ w'.cell? ⟨b, o + k * 3 + 2, none⟩ = some (.int .i64 q2)) (first | exact ⟨c0, c1, c2, c3, p0, p1, p2⟩ | exact keep7 hbx (by assumption) | assumption)
        ((go_at_call 43; refine (HC.out _ ⟨by assumption, by assumption, by assumption⟩).mono ?_; rintro e wx ⟨rfl, hbx⟩; have hB1 : Below w.heap.size w wx := below_call (by repeat (first | exact Below.refl _ _ | assumption | refine Below.drew ?_ | refine below_drewN ?_ _ | refine Below.alloc ?_ (by first | omega | (simp; done) | (simp; omega)) _ | refine Below.setCell ?_ (by first | omega | (simp; done) | (simp; omega)) _)) hbx; have hF1 := Lib.hid (blk_call (by exact HF.out) hbx)))
      all_goals
        clear e1
        go_wp2
        go_roundw
        case rel => exact ⟨k + 1, by omega, by go_num, by rw [HN.out], hB1, hF1.out⟩
        case measure => simp [intOf]; omega
    · obtain rfl : k = len := by omega
      go_wp2
      go_ret
      exact ⟨rfl, hB⟩
set_option maxHeartbeats 2000000 in
theorem specBricksOfAll_any (l d h j : Int) (a : Option Addr) (len cap : Nat) (ps : List (Int × Int × Int)) (w : World) (hz : IsPieces w a len cap ps) :
    Calls Tryd.prog 14 #[.agg #[.int .i64 l, .int .i64 d, .int .i64 h, .int .i64 j], .slice a len cap] w fun e w' => e = .returned (.tuple #[.int .i64 (allC l d h j ps).1, .int .i64 (allC l d h j ps).2]) ∧ Below w.heap.size w w' := by
  have hl := hz.1
  have H := Lib.hid hz
  have HV := Lib.hid (fun W => l02Ok_any l d h j W)
  clear hz
  cases g : fmtB l d h j
  · have HR := Lib.hid (allC_no (ps := ps) (.inl g))
    rw [g] at HV
    clear g hl
    go_enter Tryd.func14, Tryd.ntmps14
    go_wp2_with fail
    refine (HV.out _).mono ?_
    rintro e1 w1 ⟨rfl, hb1⟩
    obtain ⟨hc1, hf1⟩ := bcell hb1
    have hz1 := hb1.size
    try simp at hz1
    have hz1_0 : w.heap.size < w1.heap.size := by omega
    have ha1 : Below w.heap.size w w1 := below_call (by repeat (first | exact Below.refl _ _ | assumption | refine Below.drew ?_ | refine below_drewN ?_ _ | refine Below.alloc ?_ (by first | omega | (simp; done) | (simp; omega)) _ | refine Below.setCell ?_ (by first | omega | (simp; done) | (simp; omega)) _)) hb1
    go_wp2
    go_ret2
    exact ⟨by rw [HR.out]; rfl, (by repeat (first | exact Below.refl _ _ | assumption | refine Below.drew ?_ | refine below_drewN ?_ _ | refine Below.alloc ?_ (by first | omega | (simp; done) | (simp; omega)) _ | refine Below.setCell ?_ (by first | omega | (simp; done) | (simp; omega)) _))⟩
  · rw [g] at HV
    cases g1 : vpB ps
    · have HR := Lib.hid (allC_no (ps := ps) (.inr ⟨g, g1⟩))
      have G1 := Lib.hid g1
      clear g g1 hl
      go_enter Tryd.func14, Tryd.ntmps14
      go_wp2_with fail
      refine (HV.out _).mono ?_
      rintro e1 w1 ⟨rfl, hb1⟩
      obtain ⟨hc1, hf1⟩ := bcell hb1
      have hz1 := hb1.size
      try simp at hz1
      have hz1_0 : w.heap.size < w1.heap.size := by omega
      have ha1 : Below w.heap.size w w1 := below_call (by repeat (first | exact Below.refl _ _ | assumption | refine Below.drew ?_ | refine below_drewN ?_ _ | refine Below.alloc ?_ (by first | omega | (simp; done) | (simp; omega)) _ | refine Below.setCell ?_ (by first | omega | (simp; done) | (simp; omega)) _)) hb1
      go_wp2_with fail
      refine (l11Ok_any _ _ _ _ _ (H.out.below (by repeat (first | exact Below.refl _ _ | assumption | refine Below.drew ?_ | refine below_drewN ?_ _ | refine Below.alloc ?_ (by first | omega | (simp; done) | (simp; omega)) _ | refine Below.setCell ?_ (by first | omega | (simp; done) | (simp; omega)) _)))).mono ?_
      rintro e2 w2 ⟨rfl, rfl⟩
      rw [G1.out]
      go_wp2
      go_ret2
      exact ⟨by rw [HR.out]; rfl, (by repeat (first | exact Below.refl _ _ | assumption | refine Below.drew ?_ | refine below_drewN ?_ _ | refine Below.alloc ?_ (by first | omega | (simp; done) | (simp; omega)) _ | refine Below.setCell ?_ (by first | omega | (simp; done) | (simp; omega)) _))⟩
    · have HR := Lib.hid (allC_yes g g1)
      rw [hl] at HR
      obtain ⟨f1, f2, _, _, f3, f4, f5, f6, _⟩ := fmtB_t g
      have HPB := Lib.hid (vpB_t g1)
      rw [hl] at HPB
      have G1 := Lib.hid g1
      clear g g1 hl
      go_enter Tryd.func14, Tryd.ntmps14
      go_wp2_with fail
      refine (HV.out _).mono ?_
      rintro e1 w1 ⟨rfl, hb1⟩
      obtain ⟨hc1, hf1⟩ := bcell hb1
      have hz1 := hb1.size
      try simp at hz1
      have hz1_0 : w.heap.size < w1.heap.size := by omega
      have ha1 : Below w.heap.size w w1 := below_call (by repeat (first | exact Below.refl _ _ | assumption | refine Below.drew ?_ | refine below_drewN ?_ _ | refine Below.alloc ?_ (by first | omega | (simp; done) | (simp; omega)) _ | refine Below.setCell ?_ (by first | omega | (simp; done) | (simp; omega)) _)) hb1
      have F : Hid (w1.heap[w.heap.size]? = some _) := blk_call (by first | (refine blk_new' _ _ ?_; simp; done) | (refine blk_alloc (blk_new' _ _ ?_); simp; done) | (refine blk_alloc (blk_alloc (blk_new' _ _ ?_)); simp; done)) hb1
      have F_0 := cellOf F.out 0
      simp at F_0
      have F_1 := cellOf F.out 1
      simp at F_1
      have F_2 := cellOf F.out 2
      simp at F_2
      have F_3 := cellOf F.out 3
      simp at F_3
      have F_lt := blk_lt F.out
      have F_le := Nat.le_of_lt F_lt
      have F_l1 := Nat.le_succ_of_le F_le
      go_wp2_with fail
      refine (l11Ok_any _ _ _ _ _ (H.out.below (by repeat (first | exact Below.refl _ _ | assumption | refine Below.drew ?_ | refine below_drewN ?_ _ | refine Below.alloc ?_ (by first | omega | (simp; done) | (simp; omega)) _ | refine Below.setCell ?_ (by first | omega | (simp; done) | (simp; omega)) _)))).mono ?_
      rintro e2 w2 ⟨rfl, rfl⟩
      rw [G1.out]
      go_wp2_with fail
      refine (l11All_any _ _ _ _ _ _ _ _ _ (H.out.below ha1) f1 f2 f3 f4 f5 f6 HPB.out.2 HPB.out.1).mono ?_
      rintro e3 w3 ⟨rfl, hb3⟩
      have ha3 : Below w.heap.size w w3 := below_call (by repeat (first | exact Below.refl _ _ | assumption | refine Below.drew ?_ | refine below_drewN ?_ _ | refine Below.alloc ?_ (by first | omega | (simp; done) | (simp; omega)) _ | refine Below.setCell ?_ (by first | omega | (simp; done) | (simp; omega)) _)) hb3
      go_wp2
      go_ret2
      exact ⟨by rw [HR.out]; rfl, (by repeat (first | exact Below.refl _ _ | assumption | refine Below.drew ?_ | refine below_drewN ?_ _ | refine Below.alloc ?_ (by first | omega | (simp; done) | (simp; omega)) _ | refine Below.setCell ?_ (by first | omega | (simp; done) | (simp; omega)) _))⟩
set_option maxHeartbeats 4000000 in
theorem bricksOfAll_any (l d h j : Int) (a : Option Addr) (len cap : Nat) (ps : List (Int × Int × Int)) (w : World) (hz : IsPieces w a len cap ps) :
    Calls Tryd.prog 13 #[.agg #[.int .i64 l, .int .i64 d, .int .i64 h, .int .i64 j], .slice a len cap] w fun e w' => e = .returned (.tuple #[.int .i64 (allC l d h j ps).1, .int .i64 (allC l d h j ps).2]) ∧ Below w.heap.size w w' := by
  have hl := hz.1
  have H := Lib.hid hz
  have HV := Lib.hid (fun W => validFormat_any l d h j W)
  clear hz
  cases g : fmtB l d h j
  · have HR := Lib.hid (allC_no (ps := ps) (.inl g))
    rw [g] at HV
    clear g hl
    go_enter Tryd.func13, Tryd.ntmps13
    go_wp2_with fail
    refine (HV.out _).mono ?_
    rintro e1 w1 ⟨rfl, hb1⟩
    obtain ⟨hc1, hf1⟩ := bcell hb1
    have hz1 := hb1.size
    try simp at hz1
    have hz1_0 : w.heap.size < w1.heap.size := by omega
    have ha1 : Below w.heap.size w w1 := below_call (by repeat (first | exact Below.refl _ _ | assumption | refine Below.drew ?_ | refine below_drewN ?_ _ | refine Below.alloc ?_ (by first | omega | (simp; done) | (simp; omega)) _ | refine Below.setCell ?_ (by first | omega | (simp; done) | (simp; omega)) _)) hb1
    go_wp2
    go_ret2
    exact ⟨by rw [HR.out]; rfl, (by repeat (first | exact Below.refl _ _ | assumption | refine Below.drew ?_ | refine below_drewN ?_ _ | refine Below.alloc ?_ (by first | omega | (simp; done) | (simp; omega)) _ | refine Below.setCell ?_ (by first | omega | (simp; done) | (simp; omega)) _))⟩
  · rw [g] at HV
    cases g1 : vpB ps
    · have HR := Lib.hid (allC_no (ps := ps) (.inr ⟨g, g1⟩))
      have G1 := Lib.hid g1
      clear g g1 hl
      go_enter Tryd.func13, Tryd.ntmps13
      go_wp2_with fail
      refine (HV.out _).mono ?_
      rintro e1 w1 ⟨rfl, hb1⟩
      obtain ⟨hc1, hf1⟩ := bcell hb1
      have hz1 := hb1.size
      try simp at hz1
      have hz1_0 : w.heap.size < w1.heap.size := by omega
      have ha1 : Below w.heap.size w w1 := below_call (by repeat (first | exact Below.refl _ _ | assumption | refine Below.drew ?_ | refine below_drewN ?_ _ | refine Below.alloc ?_ (by first | omega | (simp; done) | (simp; omega)) _ | refine Below.setCell ?_ (by first | omega | (simp; done) | (simp; omega)) _)) hb1
      go_wp2_with fail
      refine (validPieces_any _ _ _ _ _ (H.out.below (by repeat (first | exact Below.refl _ _ | assumption | refine Below.drew ?_ | refine below_drewN ?_ _ | refine Below.alloc ?_ (by first | omega | (simp; done) | (simp; omega)) _ | refine Below.setCell ?_ (by first | omega | (simp; done) | (simp; omega)) _)))).mono ?_
      rintro e2 w2 ⟨rfl, hb2⟩
      obtain ⟨hc2, hf2⟩ := bcell hb2
      have hz2 := hb2.size
      try simp at hz2
      have ha2 : Below w.heap.size w w2 := below_call (by repeat (first | exact Below.refl _ _ | assumption | refine Below.drew ?_ | refine below_drewN ?_ _ | refine Below.alloc ?_ (by first | omega | (simp; done) | (simp; omega)) _ | refine Below.setCell ?_ (by first | omega | (simp; done) | (simp; omega)) _)) hb2
      rw [G1.out]
      go_wp2
      go_ret2
      exact ⟨by rw [HR.out]; rfl, (by repeat (first | exact Below.refl _ _ | assumption | refine Below.drew ?_ | refine below_drewN ?_ _ | refine Below.alloc ?_ (by first | omega | (simp; done) | (simp; omega)) _ | refine Below.setCell ?_ (by first | omega | (simp; done) | (simp; omega)) _))⟩
    · have HR := Lib.hid (allC_yes g g1)
      rw [hl] at HR
      obtain ⟨h1, h2, _, _, h3, h4, h5, h6, _⟩ := fmtB_t g
      obtain ⟨hlen, hv⟩ := vpB_t g1
      have HB := Lib.hid (fun k (hk : k ≤ len) => bsum_bd h1 h2 h3 h4 h5 h6 hv k (by rw [hl]; exact hk))
      have HP := Lib.hid (fun k (hk : k < len) => allP_t hv k (by rw [hl]; exact hk))
      rw [hl] at hlen
      have G1 := Lib.hid g1
      clear g g1 hl hv
      go_enter Tryd.func13, Tryd.ntmps13
      go_wp2_with fail
      refine (HV.out _).mono ?_
      rintro e1 w1 ⟨rfl, hb1⟩
      obtain ⟨hc1, hf1⟩ := bcell hb1
      have hz1 := hb1.size
      try simp at hz1
      have hz1_0 : w.heap.size < w1.heap.size := by omega
      have ha1 : Below w.heap.size w w1 := below_call (by repeat (first | exact Below.refl _ _ | assumption | refine Below.drew ?_ | refine below_drewN ?_ _ | refine Below.alloc ?_ (by first | omega | (simp; done) | (simp; omega)) _ | refine Below.setCell ?_ (by first | omega | (simp; done) | (simp; omega)) _)) hb1
      have F : Hid (w1.heap[w.heap.size]? = some _) := blk_call (by first | (refine blk_new' _ _ ?_; simp; done) | (refine blk_alloc (blk_new' _ _ ?_); simp; done) | (refine blk_alloc (blk_alloc (blk_new' _ _ ?_)); simp; done)) hb1
      have F_0 := cellOf F.out 0
      simp at F_0
      have F_1 := cellOf F.out 1
      simp at F_1
      have F_2 := cellOf F.out 2
      simp at F_2
      have F_3 := cellOf F.out 3
      simp at F_3
      have F_lt := blk_lt F.out
      have F_le := Nat.le_of_lt F_lt
      have F_l1 := Nat.le_succ_of_le F_le
      clear hc1 hf1
      go_wp2_with fail
      refine (validPieces_any _ _ _ _ _ (H.out.below (by repeat (first | exact Below.refl _ _ | assumption | refine Below.drew ?_ | refine below_drewN ?_ _ | refine Below.alloc ?_ (by first | omega | (simp; done) | (simp; omega)) _ | refine Below.setCell ?_ (by first | omega | (simp; done) | (simp; omega)) _)))).mono ?_
      rintro e2 w2 ⟨rfl, hb2⟩
      obtain ⟨hc2, hf2⟩ := bcell hb2
      have hz2 := hb2.size
      try simp at hz2
      have ha2 : Below w.heap.size w w2 := below_call (by repeat (first | exact Below.refl _ _ | assumption | refine Below.drew ?_ | refine below_drewN ?_ _ | refine Below.alloc ?_ (by first | omega | (simp; done) | (simp; omega)) _ | refine Below.setCell ?_ (by first | omega | (simp; done) | (simp; omega)) _)) hb2
      rw [G1.out]
      have F2 := Lib.hid (blk_call F.out hb2)
      clear hc2 hf2
      go_wp2_with fail
      go_loopw [6, 8, 19] (fun s _ i wr => ∃ k : Nat, k ≤ len ∧ i = .int .i64 (k : Int) ∧ s = .int .i64 (bsum l h j ps k) ∧ Below w.heap.size w wr ∧ wr.heap[w.heap.size]? = some (.cells #[.int .i64 l, .int .i64 d, .int .i64 h, .int .i64 j] 31 (0, 0))) (fun _ _ i _ => (len - intOf i).toNat)
      case atStart => exact ⟨0, by omega, rfl, rfl, ha2, F2.out⟩
      case round =>
        obtain ⟨k, hk, rfl, rfl, hB, hF⟩ := hrel
        have HF := Lib.hid hF
        have c0 := cellOf hF 0
        have c1 := cellOf hF 1
        have c2 := cellOf hF 2
        have c3 := cellOf hF 3
        have clt := blk_lt hF
        simp at c0 c1 c2 c3
        clear hF
        have hz := hB.size
        by_cases hlt : k < len
        · have hlt' : (k : Int) < (len : Int) := by omega
          obtain ⟨b, o, rfl, hb, p0, p1, p2⟩ := (H.out.below hB).cell hlt
          have HN : Hid (bsum l h j ps (k + 1) = bsum l h j ps k + brk l h j (ps.getD k (0, 0, 0))) := Lib.hid rfl
          have hp := HP.out k hlt
          obtain ⟨t1, t2⟩ := HB.out k hk
          obtain ⟨u1, u2⟩ := brk_bd h1 h2 h3 h4 h5 h6 hp
          generalize ps.getD k (0, 0, 0) = p at *
          obtain ⟨q0, q1, q2⟩ := p
          obtain ⟨g1, g2, g3, g4, g5, g6⟩ := pB_t hp
          simp only at p0 p1 p2 g1 g2 g3 g4 g5 g6
          have HC : Hid (∀ W, Calls Tryd.prog 41 #[.agg #[.int .i64 l, .int .i64 d, .int .i64 h, .int .i64 j], .agg #[.int .i64 q0, .int .i64 q1, .int .i64 q2]] W fun e w' => e = .returned (.int .i64 (brk l h j (q0, q1, q2))) ∧ Below W.heap.size W w') := Lib.hid fun W => bricksOf_any l d h j q0 q1 q2 W h1 h2 h3 h4 h5 h6 g1 g2 g3 g4 g5 g6
          generalize brk l h j (q0, q1, q2) = v at *
          generalize bsum l h j ps k = s at *
          go_wp2_with fail
          refine (HC.out _).mono ?_
          rintro e3 w3 ⟨rfl, hb3⟩
          have hB3 : Below w.heap.size w w3 := below_call (by repeat (first | exact Below.refl _ _ | assumption | refine Below.drew ?_ | refine below_drewN ?_ _ | refine Below.alloc ?_ (by first | omega | (simp; done) | (simp; omega)) _ | refine Below.setCell ?_ (by first | omega | (simp; done) | (simp; omega)) _)) hb3
          have hF3 := Lib.hid (blk_call (by first | exact blk_alloc HF.out | exact HF.out) hb3)
          go_wp2
          go_roundw
          case rel => exact ⟨k + 1, by omega, by go_num, by rw [HN.out], hB3, hF3.out⟩
          case measure => simp [intOf]; omega
        · obtain rfl : k = len := by omega
          go_wp2
          go_ret2
          exact ⟨by rw [HR.out]; rfl, hB⟩
end Go.Proofs.YtgnalhnbdpigdaaDoor
