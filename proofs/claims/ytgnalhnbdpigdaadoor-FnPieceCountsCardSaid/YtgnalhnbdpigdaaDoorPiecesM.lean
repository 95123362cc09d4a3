/- Contracts of the laws' marking of pieces and of ShareBricks, program and reference. -/
import Derived.Test.YtgnalhnbdpigdaaDoorPiecesA
namespace Go.Proofs.YtgnalhnbdpigdaaDoor
open Go.ChangeShapes Go.WideShapes Go.ChangeAt Go.RowKit

/-- A block of n pieces, whatever they are. -/
def PBlk (w : World) (g n : Nat) : Prop := ∃ ps : List (Int × Int × Int), ps.length = n ∧ w.heap[g]? = some (.cells (pcells ps) 25 (0, 0))
/-- The share of wall k. -/
def shAt (l h j : Int) (ps : List (Int × Int × Int)) (B : Int) (k : Nat) : Int := B * bsum l h j ps (k + 1) / bsum l h j ps ps.length - B * bsum l h j ps k / bsum l h j ps ps.length
def shares (l h j : Int) (ps : List (Int × Int × Int)) (B : Int) (n : Nat) : List Int := (List.range n).map (shAt l h j ps B)
theorem shares_len (l h j : Int) (ps : List (Int × Int × Int)) (B : Int) (n : Nat) : (shares l h j ps B n).length = n := by simp [shares]
theorem shares_next (l h j : Int) (ps : List (Int × Int × Int)) (B : Int) (n : Nat) : shares l h j ps B (n + 1) = shares l h j ps B n ++ [shAt l h j ps B n] := by simp [shares, List.range_succ]
def shC (l d h j : Int) (ps : List (Int × Int × Int)) (B : Int) : Int := if fmtB l d h j && vpB ps then (if inB B 0 1000000 then (if ps.length = 0 then 3 else 0) else 2) else 1
def shI (l d h j : Int) (ps : List (Int × Int × Int)) (B : Int) : List Int := if fmtB l d h j && vpB ps then (if inB B 0 1000000 then (if ps.length = 0 then [] else shares l h j ps B ps.length) else []) else []
theorem sh_bad {l d h j : Int} {ps : List (Int × Int × Int)} {B : Int} (g : (fmtB l d h j && vpB ps) = false) : shC l d h j ps B = 1 ∧ shI l d h j ps B = [] := by simp [shC, shI, g]
theorem sh_range {l d h j : Int} {ps : List (Int × Int × Int)} {B : Int} (g : (fmtB l d h j && vpB ps) = true) (g1 : inB B 0 1000000 = false) : shC l d h j ps B = 2 ∧ shI l d h j ps B = [] := by simp [shC, shI, g, g1]
theorem sh_none {l d h j : Int} {ps : List (Int × Int × Int)} {B : Int} (g : (fmtB l d h j && vpB ps) = true) (g1 : inB B 0 1000000 = true) (g2 : ps.length = 0) : shC l d h j ps B = 3 ∧ shI l d h j ps B = [] := by simp [shC, shI, g, g1, g2]
theorem sh_ok {l d h j : Int} {ps : List (Int × Int × Int)} {B : Int} (g : (fmtB l d h j && vpB ps) = true) (g1 : inB B 0 1000000 = true) (g2 : ps.length ≠ 0) : shC l d h j ps B = 0 ∧ shI l d h j ps B = shares l h j ps B ps.length := by
  unfold shC shI; rw [g, g1]; simp [g2]
theorem shI_len (l d h j : Int) (ps : List (Int × Int × Int)) (B : Int) (hl : ps.length ≤ 1000000) : (shI l d h j ps B).length ≤ 1000000 := by
  unfold shI
  split
  · split
    · split
      · simp
      · rw [shares_len]; exact hl
    · simp
  · simp
set_option maxHeartbeats 4000000 in
theorem specShareBricks_any (l d h j : Int) (a : Option Addr) (len cap : Nat) (ps : List (Int × Int × Int)) (B : Int) (w : World) (hz : IsPieces w a len cap ps) :
    Calls Tryd.prog 17 #[.agg #[.int .i64 l, .int .i64 d, .int .i64 h, .int .i64 j], .slice a len cap, .int .i64 B] w (NewI w (shI l d h j ps B) (shC l d h j ps B)) := by
  have hl := hz.1
  have H := Lib.hid hz
  have HV := Lib.hid (fun W => l02Ok_any l d h j W)
  have HM := Lib.hid (fun W => l11Many_any B W)
  clear hz
  cases g : fmtB l d h j
  · have e := sh_bad (ps := ps) (B := B) (show (fmtB l d h j && vpB ps) = false by rw [g]; rfl)
    rw [e.1, e.2]
    rw [g] at HV
    clear g hl e
    go_enter Tryd.func17, Tryd.ntmps17
    go_wp2_with fail
    refine (HV.out _).mono ?_
    rintro e1 w1 ⟨rfl, hb1⟩
    obtain ⟨hc1, hf1⟩ := bcell hb1
    have hz1 := hb1.size
    try simp at hz1
    have hz1_0 : w.heap.size < w1.heap.size := by omega
    have ha1 : Below w.heap.size w w1 := below_call (by repeat (first | exact Below.refl _ _ | assumption | refine Below.drew ?_ | refine below_drewN ?_ _ | refine Below.alloc ?_ (by first | omega | (simp; done) | (simp; omega)) _ | refine Below.setCell ?_ (by first | omega | (simp; done) | (simp; omega)) _)) hb1
    go_wp2
    go_ret2
    exact newI_mk (ownI_nil _ _) (by repeat (first | exact Below.refl _ _ | assumption | refine Below.drew ?_ | refine below_drewN ?_ _ | refine Below.alloc ?_ (by first | omega | (simp; done) | (simp; omega)) _ | refine Below.setCell ?_ (by first | omega | (simp; done) | (simp; omega)) _))
  · rw [g] at HV
    cases g1 : vpB ps
    · have e := sh_bad (ps := ps) (B := B) (show (fmtB l d h j && vpB ps) = false by rw [g1]; simp)
      rw [e.1, e.2]
      have G1 := Lib.hid g1
      clear g g1 hl e
      go_enter Tryd.func17, Tryd.ntmps17
      go_wp2_with fail
      refine (HV.out _).mono ?_
      rintro e1 w1 ⟨rfl, hb1⟩
      obtain ⟨hc1, hf1⟩ := bcell hb1
      have hz1 := hb1.size
      try simp at hz1
      have hz1_0 : w.heap.size < w1.heap.size := by omega
      have ha1 : Below w.heap.size w w1 := below_call (by repeat (first | exact Below.refl _ _ | assumption | refine Below.drew ?_ | refine below_drewN ?_ _ | refine Below.alloc ?_ (by first | omega | (simp; done) | (simp; omega)) _ | refine Below.setCell ?_ (by first | omega | (simp; done) | (simp; omega)) _)) hb1
      go_wp2_with fail
      refine (l11Ok_any _ _ _ _ _ (H.out.below (by repeat (first | exact Below.refl _ _ | assumption | refine Below.drew ?_ | refine below_drewN ?_ _ | refine Below.alloc ?_ (by first | omega | (simp; done) | (simp; omega)) _ | refine Below.setCell ?_ (by first | omega | (simp; done) | (simp; omega)) _)))).mono ?_
      rintro e2 w2 ⟨rfl, rfl⟩
      rw [G1.out]
      go_wp2
      go_ret2
      exact newI_mk (ownI_nil _ _) (by repeat (first | exact Below.refl _ _ | assumption | refine Below.drew ?_ | refine below_drewN ?_ _ | refine Below.alloc ?_ (by first | omega | (simp; done) | (simp; omega)) _ | refine Below.setCell ?_ (by first | omega | (simp; done) | (simp; omega)) _))
    · have gg : (fmtB l d h j && vpB ps) = true := by rw [g, g1]; rfl
      have G1 := Lib.hid g1
      cases g2 : inB B 0 1000000
      · have e := sh_range gg g2
        rw [e.1, e.2]
        rw [g2] at HM
        clear g g1 g2 gg hl e
        go_enter Tryd.func17, Tryd.ntmps17
        go_wp2_with fail
        refine (HV.out _).mono ?_
        rintro e1 w1 ⟨rfl, hb1⟩
        obtain ⟨hc1, hf1⟩ := bcell hb1
        have hz1 := hb1.size
        try simp at hz1
        have hz1_0 : w.heap.size < w1.heap.size := by omega
        have ha1 : Below w.heap.size w w1 := below_call (by repeat (first | exact Below.refl _ _ | assumption | refine Below.drew ?_ | refine below_drewN ?_ _ | refine Below.alloc ?_ (by first | omega | (simp; done) | (simp; omega)) _ | refine Below.setCell ?_ (by first | omega | (simp; done) | (simp; omega)) _)) hb1
        go_wp2_with fail
        refine (l11Ok_any _ _ _ _ _ (H.out.below (by repeat (first | exact Below.refl _ _ | assumption | refine Below.drew ?_ | refine below_drewN ?_ _ | refine Below.alloc ?_ (by first | omega | (simp; done) | (simp; omega)) _ | refine Below.setCell ?_ (by first | omega | (simp; done) | (simp; omega)) _)))).mono ?_
        rintro e2 w2 ⟨rfl, rfl⟩
        rw [G1.out]
        go_wp2_with fail
        refine (HM.out _).mono ?_
        rintro e3 w3 ⟨rfl, rfl⟩
        go_wp2
        go_ret2
        exact newI_mk (ownI_nil _ _) (by repeat (first | exact Below.refl _ _ | assumption | refine Below.drew ?_ | refine below_drewN ?_ _ | refine Below.alloc ?_ (by first | omega | (simp; done) | (simp; omega)) _ | refine Below.setCell ?_ (by first | omega | (simp; done) | (simp; omega)) _))
      · rw [g2] at HM
        obtain ⟨b1, b2⟩ := inB_t g2
        by_cases g3 : len = 0
        · have e := sh_none gg g2 (by rw [hl]; exact g3)
          rw [e.1, e.2]
          have g3' : ((len : Int) == 0) = true := by simp [g3]
          have G3 := Lib.hid g3
          clear g g1 g2 gg hl e g3
          go_enter Tryd.func17, Tryd.ntmps17
          go_wp2_with fail
          refine (HV.out _).mono ?_
          rintro e1 w1 ⟨rfl, hb1⟩
          obtain ⟨hc1, hf1⟩ := bcell hb1
          have hz1 := hb1.size
          try simp at hz1
          have hz1_0 : w.heap.size < w1.heap.size := by omega
          have ha1 : Below w.heap.size w w1 := below_call (by repeat (first | exact Below.refl _ _ | assumption | refine Below.drew ?_ | refine below_drewN ?_ _ | refine Below.alloc ?_ (by first | omega | (simp; done) | (simp; omega)) _ | refine Below.setCell ?_ (by first | omega | (simp; done) | (simp; omega)) _)) hb1
          go_wp2_with fail
          refine (l11Ok_any _ _ _ _ _ (H.out.below (by repeat (first | exact Below.refl _ _ | assumption | refine Below.drew ?_ | refine below_drewN ?_ _ | refine Below.alloc ?_ (by first | omega | (simp; done) | (simp; omega)) _ | refine Below.setCell ?_ (by first | omega | (simp; done) | (simp; omega)) _)))).mono ?_
          rintro e2 w2 ⟨rfl, rfl⟩
          rw [G1.out]
          go_wp2_with fail
          refine (HM.out _).mono ?_
          rintro e3 w3 ⟨rfl, rfl⟩
          go_wp2
          go_ret2
          exact newI_mk (ownI_nil _ _) (by repeat (first | exact Below.refl _ _ | assumption | refine Below.drew ?_ | refine below_drewN ?_ _ | refine Below.alloc ?_ (by first | omega | (simp; done) | (simp; omega)) _ | refine Below.setCell ?_ (by first | omega | (simp; done) | (simp; omega)) _))
        · have e := sh_ok gg g2 (by rw [hl]; exact g3)
          rw [hl] at e
          rw [e.1, e.2]
          have g3' : ((len : Int) == 0) = false := by simp; omega
          obtain ⟨h1, h2, _, _, h3, h4, h5, h6, _⟩ := fmtB_t g
          obtain ⟨hlen, hv⟩ := vpB_t g1
          have HB := Lib.hid (fun k (hk : k ≤ len) => bsum_bd h1 h2 h3 h4 h5 h6 hv k (by rw [hl]; exact hk))
          have HP := Lib.hid (fun k (hk : k < len) => allP_t hv k (by rw [hl]; exact hk))
          have HVL := Lib.hid hv
          rw [hl] at hlen
          have HLE := Lib.hid hlen
          have HY := Lib.hid (fun n => shares_len l h j ps B n)
          have HW := Lib.hid (fun n => shares_next l h j ps B n)
          have HSA : Hid (∀ k, shAt l h j ps B k = B * bsum l h j ps (k + 1) / bsum l h j ps len - B * bsum l h j ps k / bsum l h j ps len) := Lib.hid fun k => by unfold shAt; rw [hl]
          obtain ⟨A1, A2⟩ := HB.out len (Nat.le_refl _)
          clear g g1 g2 gg hl e hv
          obtain ⟨i0, hi, hi0, hi1, hi2⟩ := info_parts info_i64
          go_enter Tryd.func17, Tryd.ntmps17
          go_wp2_with fail
          refine (HV.out _).mono ?_
          rintro e1 w1 ⟨rfl, hb1⟩
          obtain ⟨hc1, hf1⟩ := bcell hb1
          have hz1 := hb1.size
          try simp at hz1
          have hz1_0 : w.heap.size < w1.heap.size := by omega
          have ha1 : Below w.heap.size w w1 := below_call (by repeat (first | exact Below.refl _ _ | assumption | refine Below.drew ?_ | refine below_drewN ?_ _ | refine Below.alloc ?_ (by first | omega | (simp; done) | (simp; omega)) _ | refine Below.setCell ?_ (by first | omega | (simp; done) | (simp; omega)) _)) hb1
          have F : Hid (w1.heap[w.heap.size]? = some _) := blk_call (by first | (refine blk_new' _ _ ?_; simp; done) | (refine blk_alloc (blk_new' _ _ ?_); simp; done) | (refine blk_alloc (blk_alloc (blk_new' _ _ ?_)); simp; done)) hb1
          have F_0 := cellOf F.out 0
          simp at F_0
          have F_1 := cellOf F.out 1
          simp at F_1
          have F_2 := cellOf F.out 2
          simp at F_2
          have F_3 := cellOf F.out 3
          simp at F_3
          have F_lt := blk_lt F.out
          have F_le := Nat.le_of_lt F_lt
          have F_l1 := Nat.le_succ_of_le F_le
          go_wp2_with fail
          refine (l11Ok_any _ _ _ _ _ (H.out.below (by repeat (first | exact Below.refl _ _ | assumption | refine Below.drew ?_ | refine below_drewN ?_ _ | refine Below.alloc ?_ (by first | omega | (simp; done) | (simp; omega)) _ | refine Below.setCell ?_ (by first | omega | (simp; done) | (simp; omega)) _)))).mono ?_
          rintro e2 w2 ⟨rfl, rfl⟩
          rw [G1.out]
          go_wp2_with fail
          refine (HM.out _).mono ?_
          rintro e3 w3 ⟨rfl, rfl⟩
          go_wp2_with fail
          refine (l11All_any _ _ _ _ _ _ _ _ _ (H.out.below ha1) h1 h2 h3 h4 h5 h6 HVL.out HLE.out).mono ?_
          rintro e4 w4 ⟨rfl, hb4⟩
          have ha4 : Below w.heap.size w w4 := below_call (by repeat (first | exact Below.refl _ _ | assumption | refine Below.drew ?_ | refine below_drewN ?_ _ | refine Below.alloc ?_ (by first | omega | (simp; done) | (simp; omega)) _ | refine Below.setCell ?_ (by first | omega | (simp; done) | (simp; omega)) _)) hb4
          have hz4 := hb4.size
          have F4 := Lib.hid (blk_call F.out hb4)
          have hA0 : Hid (B * bsum l h j ps 0 / bsum l h j ps len = 0) := Lib.hid (by simp [bsum])
          generalize hA : bsum l h j ps len = A at *
          have HA := Lib.hid hA
          clear hA hc1 hf1
          go_wp2_with fail
          go_loopw [9, 10, 11, 12, 13] (fun os dn sm i _ wr => ∃ k : Nat, k ≤ len ∧ i = .int .i64 (k : Int) ∧ sm = .int .i64 (bsum l h j ps k) ∧ dn = .int .i64 (B * bsum l h j ps k / A) ∧ OwnI wr (w.heap.size + 1) os (shares l h j ps B k) ∧ Below w.heap.size w wr ∧ wr.heap[w.heap.size]? = some (.cells #[.int .i64 l, .int .i64 d, .int .i64 h, .int .i64 j] 31 (0, 0))) (fun _ _ _ i _ _ => (len - intOf i).toNat)
          case atStart => exact ⟨0, by omega, rfl, rfl, by rw [hA0.out], ownI_empty _ _ (by omega), (by repeat (first | exact Below.refl _ _ | assumption | refine Below.drew ?_ | refine below_drewN ?_ _ | refine Below.alloc ?_ (by first | omega | (simp; done) | (simp; omega)) _ | refine Below.setCell ?_ (by first | omega | (simp; done) | (simp; omega)) _)), blk_alloc F4.out⟩
          case round =>
            obtain ⟨k, hk, rfl, rfl, rfl, hO, hB, hF⟩ := hrel
            have HF := Lib.hid hF
            have c0 := cellOf hF 0
            have c1 := cellOf hF 1
            have c2 := cellOf hF 2
            have c3 := cellOf hF 3
            have clt := blk_lt hF
            simp at c0 c1 c2 c3
            clear hF
            have hz := hB.size
            by_cases hlt : k < len
            · have hlt' : (k : Int) < (len : Int) := by omega
              obtain ⟨b, o, rfl, hb, p0, p1, p2⟩ := (H.out.below hB).cell hlt
              have HN : Hid (bsum l h j ps (k + 1) = bsum l h j ps k + brk l h j (ps.getD k (0, 0, 0))) := Lib.hid rfl
              have hp := HP.out k hlt
              obtain ⟨t1, t2⟩ := HB.out k hk
              obtain ⟨u1, u2⟩ := brk_bd h1 h2 h3 h4 h5 h6 hp
              have HSk := Lib.hid (HSA.out k)
              have HNx := Lib.hid (HW.out k)
              have HPl := Lib.hid (HY.out k)
              generalize ps.getD k (0, 0, 0) = p at *
              obtain ⟨q0, q1, q2⟩ := p
              obtain ⟨g1, g2, g3, g4, g5, g6⟩ := pB_t hp
              simp only at p0 p1 p2 g1 g2 g3 g4 g5 g6
              have HC : Hid (∀ W, PieceAt W b (o + k * 3) q0 q1 q2 → Calls Tryd.prog 43 #[.agg #[.int .i64 l, .int .i64 d, .int .i64 h, .int .i64 j], .pointer (some ⟨b, o + k * 3, none⟩)] W fun e w' => e = .returned (.int .i64 (brk l h j (q0, q1, q2))) ∧ Below W.heap.size W w') := Lib.hid fun W hW => l11Bricks_any l d h j q0 q1 q2 b (o + k * 3) W hW h1 h2 h3 h4 h5 h6 g1 g2 g3 g4 g5 g6
              rw [HN.out] at HSk
              generalize brk l h j (q0, q1, q2) = v at *
              generalize bsum l h j ps k = s at *
              generalize shares l h j ps B k = P at *
              have HO := Lib.hid hO
              clear hO
              have e1 := IntWalk.i64_in (s + v) (by omega)
              have tl : (0 : Int) ≤ len := by omega
              obtain ⟨m1, m2⟩ := mul_bd (a := B) (b := s + v) (A := 1000000) (B := 300000000000) b1 b2 (by omega) (by omega)
              obtain ⟨m3, m4⟩ := mul_bd (a := B) (b := s) (A := 1000000) (B := 300000000000) b1 b2 (by omega) (by omega)
              have n1 : 0 ≤ B * (s + v) / A := Int.ediv_nonneg m1 (by omega)
              have n2 : B * (s + v) / A ≤ B * (s + v) := Int.ediv_le_self _ m1
              have n3 : 0 ≤ B * s / A := Int.ediv_nonneg m3 (by omega)
              have n4 : B * s / A ≤ B * s := Int.ediv_le_self _ m3
              go_wp2
              go_region_held3 (fun w' => w'.cell? ⟨w.heap.size, 0, none⟩ = some (.int .i64 l) ∧ w'.cell? ⟨w.heap.size, 1, none⟩ = some (.int .i64 d) ∧ w'.cell? ⟨w.heap.size, 2, none⟩ = some (.int .i64 h) ∧ w'.cell? ⟨w.heap.size, 3, none⟩ = some (.int .i64 j) ∧ w'.cell? ⟨b, o + k * 3, none⟩ = some (.int .i64 q0) ∧ w'.cell? ⟨b, o + k * 3 + 1, none⟩ = some (.int .i64 q1) ∧ w'.cell? ⟨b, o + k * 3 + 2, none⟩ = some (.int .i64 q2)) (first | exact ⟨c0, c1, c2, c3, p0, p1, p2⟩ | exact keep7 hbx (by assumption) | assumption)
                ((go_at_call 43; refine (HC.out _ ⟨by assumption, by assumption, by assumption⟩).mono ?_; rintro e wx ⟨rfl, hbx⟩; have hB1 : Below w.heap.size w wx := below_call (by repeat (first | exact Below.refl _ _ | assumption | refine Below.drew ?_ | refine below_drewN ?_ _ | refine Below.alloc ?_ (by first | omega | (simp; done) | (simp; omega)) _ | refine Below.setCell ?_ (by first | omega | (simp; done) | (simp; omega)) _)) hbx; have hF1 := Lib.hid (blk_call (by exact HF.out) hbx); have hO1 := Lib.hid (OwnI.below (by exact HO.out) hbx)))
              all_goals
                clear e1
                have hz1 := hB1.size
                have hOl := hO1.out
                unfold OwnI at hOl
                rw [HPl.out] at hOl
                go_wp2_with (at_builtin; refine wpList_append_new _ rfl _ _ 42 rfl _ 2 i0 (.int .i64 0) 1 8 Tryd.underlying42 hi hi0 hi1 hi2 rfl (by decide) _ _ _ rfl (hOl.alloc _) ⟨wx.heap.size, 0, none⟩ 1 1 [.int .i64 (B * (s + v) / A - B * s / A)] rfl rfl ?c1 ?c2 ?c3 ?c4 ?c5 (by decide) ?_)
                case c1 => exact cell_one_new _ _ _
                case c2 => simp [Value.oneCell']
                case c3 => unfold maxLen; omega
                case c4 => omega
                case c5 => first | omega | (simp; omega)
                intro v' w1' hown1 hgrow1 hnew1
                have hO2 := Lib.hid (OwnI.snoc hown1 (by rw [HPl.out]))
                have hF2 := Lib.hid (blk_own (blk_alloc hF1.out) (hO1.out.alloc _) hgrow1 (by omega))
                have hB2 := Lib.hid (below_mark (hB1.alloc hz1 _) (by omega) (hO1.out.alloc _) hgrow1)
                clear hown1 hgrow1 hnew1 hOl
                go_wp2
                go_roundw
                case rel => exact ⟨k + 1, by omega, by go_num, by rw [HN.out], by rw [HN.out], by rw [HNx.out, HSk.out]; exact hO2.out, hB2.out, hF2.out⟩
                case measure => simp [intOf]; omega
            · obtain rfl : k = len := by omega
              have HO := Lib.hid (newI_mk (code := 0) (hO.base (by omega)) hB)
              clear hO
              go_wp2
              go_ret2
              exact HO.out
end Go.Proofs.YtgnalhnbdpigdaaDoor
