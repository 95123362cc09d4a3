/- Contract of the program's ShareBricks: the shares in a new slice, and the code; no old memory turns; condition: the slice can be read. -/
import Derived.Test.YtgnalhnbdpigdaaDoorPiecesM
import Derived.Deep.RegionLaw
import Derived.Deep.AppendLies
namespace Go.Proofs.YtgnalhnbdpigdaaDoor
open Go.ChangeShapes Go.WideShapes Go.ChangeAt Go.RowKit

set_option maxHeartbeats 4000000 in
theorem shareBricks_any (l d h j : Int) (a : Option Addr) (len cap : Nat) (ps : List (Int × Int × Int)) (B : Int) (w : World) (hz : IsPieces w a len cap ps) :
    Calls Tryd.prog 16 #[.agg #[.int .i64 l, .int .i64 d, .int .i64 h, .int .i64 j], .slice a len cap, .int .i64 B] w (NewI w (shI l d h j ps B) (shC l d h j ps B)) := by
  have hl := hz.1
  have H := Lib.hid hz
  have HA := Lib.hid (fun W hW => bricksOfAll_any l d h j a len cap ps W hW)
  have HM := Lib.hid (fun W => isOrder_any B W)
  clear hz
  cases g : (fmtB l d h j && vpB ps)
  · have e := sh_bad (B := B) g
    rw [e.1, e.2]
    have g' : fmtB l d h j = false ∨ (fmtB l d h j = true ∧ vpB ps = false) := by
      cases g1 : fmtB l d h j
      · exact .inl rfl
      · rw [g1] at g; exact .inr ⟨rfl, by simpa using g⟩
    rw [allC_no g'] at HA
    clear g g' hl e
    go_enter Tryd.func16, Tryd.ntmps16
    go_wp2_with fail
    refine (HA.out _ (H.out.below (by repeat (first | exact Below.refl _ _ | assumption | refine Below.drew ?_ | refine below_drewN ?_ _ | refine Below.alloc ?_ (by first | omega | (simp; done) | (simp; omega)) _ | refine Below.setCell ?_ (by first | omega | (simp; done) | (simp; omega)) _)))).mono ?_
    rintro e1 w1 ⟨rfl, hb1⟩
    obtain ⟨hc1, hf1⟩ := bcell hb1
    have hz1 := hb1.size
    try simp at hz1
    have hz1_0 : w.heap.size < w1.heap.size := by omega
    have ha1 : Below w.heap.size w w1 := below_call (by repeat (first | exact Below.refl _ _ | assumption | refine Below.drew ?_ | refine below_drewN ?_ _ | refine Below.alloc ?_ (by first | omega | (simp; done) | (simp; omega)) _ | refine Below.setCell ?_ (by first | omega | (simp; done) | (simp; omega)) _)) hb1
    go_wp2
    go_ret2
    exact newI_mk (ownI_nil _ _) (by repeat (first | exact Below.refl _ _ | assumption | refine Below.drew ?_ | refine below_drewN ?_ _ | refine Below.alloc ?_ (by first | omega | (simp; done) | (simp; omega)) _ | refine Below.setCell ?_ (by first | omega | (simp; done) | (simp; omega)) _))
  · obtain ⟨g0, g1⟩ : fmtB l d h j = true ∧ vpB ps = true := by simpa using g
    rw [allC_yes g0 g1] at HA
    rw [hl] at HA
    cases g2 : inB B 0 1000000
    · have e := sh_range g g2
      rw [e.1, e.2]
      rw [g2] at HM
      clear g g0 g1 g2 hl e
      go_enter Tryd.func16, Tryd.ntmps16
      go_wp2_with fail
      refine (HA.out _ (H.out.below (by repeat (first | exact Below.refl _ _ | assumption | refine Below.drew ?_ | refine below_drewN ?_ _ | refine Below.alloc ?_ (by first | omega | (simp; done) | (simp; omega)) _ | refine Below.setCell ?_ (by first | omega | (simp; done) | (simp; omega)) _)))).mono ?_
      rintro e1 w1 ⟨rfl, hb1⟩
      obtain ⟨hc1, hf1⟩ := bcell hb1
      have hz1 := hb1.size
      try simp at hz1
      have hz1_0 : w.heap.size < w1.heap.size := by omega
      have ha1 : Below w.heap.size w w1 := below_call (by repeat (first | exact Below.refl _ _ | assumption | refine Below.drew ?_ | refine below_drewN ?_ _ | refine Below.alloc ?_ (by first | omega | (simp; done) | (simp; omega)) _ | refine Below.setCell ?_ (by first | omega | (simp; done) | (simp; omega)) _)) hb1
      go_wp2_with fail
      refine (HM.out _).mono ?_
      rintro e2 w2 ⟨rfl, rfl⟩
      go_wp2
      go_ret2
      exact newI_mk (ownI_nil _ _) (by repeat (first | exact Below.refl _ _ | assumption | refine Below.drew ?_ | refine below_drewN ?_ _ | refine Below.alloc ?_ (by first | omega | (simp; done) | (simp; omega)) _ | refine Below.setCell ?_ (by first | omega | (simp; done) | (simp; omega)) _))
    · rw [g2] at HM
      obtain ⟨b1, b2⟩ := inB_t g2
      by_cases g3 : len = 0
      · have e := sh_none g g2 (by rw [hl]; exact g3)
        rw [e.1, e.2]
        have g3' : ((len : Int) == 0) = true := by simp [g3]
        have G3 := Lib.hid g3
        clear g g0 g1 g2 hl e g3
        go_enter Tryd.func16, Tryd.ntmps16
        go_wp2_with fail
        refine (HA.out _ (H.out.below (by repeat (first | exact Below.refl _ _ | assumption | refine Below.drew ?_ | refine below_drewN ?_ _ | refine Below.alloc ?_ (by first | omega | (simp; done) | (simp; omega)) _ | refine Below.setCell ?_ (by first | omega | (simp; done) | (simp; omega)) _)))).mono ?_
        rintro e1 w1 ⟨rfl, hb1⟩
        obtain ⟨hc1, hf1⟩ := bcell hb1
        have hz1 := hb1.size
        try simp at hz1
        have hz1_0 : w.heap.size < w1.heap.size := by omega
        have ha1 : Below w.heap.size w w1 := below_call (by repeat (first | exact Below.refl _ _ | assumption | refine Below.drew ?_ | refine below_drewN ?_ _ | refine Below.alloc ?_ (by first | omega | (simp; done) | (simp; omega)) _ | refine Below.setCell ?_ (by first | omega | (simp; done) | (simp; omega)) _)) hb1
        go_wp2_with fail
        refine (HM.out _).mono ?_
        rintro e2 w2 ⟨rfl, rfl⟩
        go_wp2
        go_ret2
        exact newI_mk (ownI_nil _ _) (by repeat (first | exact Below.refl _ _ | assumption | refine Below.drew ?_ | refine below_drewN ?_ _ | refine Below.alloc ?_ (by first | omega | (simp; done) | (simp; omega)) _ | refine Below.setCell ?_ (by first | omega | (simp; done) | (simp; omega)) _))
      · have e := sh_ok g g2 (by rw [hl]; exact g3)
        rw [hl] at e
        rw [e.1, e.2]
        have g3' : ((len : Int) == 0) = false := by simp; omega
        obtain ⟨h1, h2, _, _, h3, h4, h5, h6, _⟩ := fmtB_t g0
        obtain ⟨hlen, hv⟩ := vpB_t g1
        have HB := Lib.hid (fun k (hk : k ≤ len) => bsum_bd h1 h2 h3 h4 h5 h6 hv k (by rw [hl]; exact hk))
        have HP := Lib.hid (fun k (hk : k < len) => allP_t hv k (by rw [hl]; exact hk))
        rw [hl] at hlen
        have HY := Lib.hid (fun n => shares_len l h j ps B n)
        have HW := Lib.hid (fun n => shares_next l h j ps B n)
        have HSA : Hid (∀ k, shAt l h j ps B k = B * bsum l h j ps (k + 1) / bsum l h j ps len - B * bsum l h j ps k / bsum l h j ps len) := Lib.hid fun k => by unfold shAt; rw [hl]
        obtain ⟨A1, A2⟩ := HB.out len (Nat.le_refl _)
        clear g g0 g1 g2 hl e hv
        obtain ⟨i0, hi, hi0, hi1, hi2⟩ := info_parts info_i64
        go_enter Tryd.func16, Tryd.ntmps16
        go_wp2_with fail
        refine (HA.out _ (H.out.below (by repeat (first | exact Below.refl _ _ | assumption | refine Below.drew ?_ | refine below_drewN ?_ _ | refine Below.alloc ?_ (by first | omega | (simp; done) | (simp; omega)) _ | refine Below.setCell ?_ (by first | omega | (simp; done) | (simp; omega)) _)))).mono ?_
        rintro e1 w1 ⟨rfl, hb1⟩
        obtain ⟨hc1, hf1⟩ := bcell hb1
        have hz1 := hb1.size
        try simp at hz1
        have hz1_0 : w.heap.size < w1.heap.size := by omega
        have ha1 : Below w.heap.size w w1 := below_call (by repeat (first | exact Below.refl _ _ | assumption | refine Below.drew ?_ | refine below_drewN ?_ _ | refine Below.alloc ?_ (by first | omega | (simp; done) | (simp; omega)) _ | refine Below.setCell ?_ (by first | omega | (simp; done) | (simp; omega)) _)) hb1
        have F : Hid (w1.heap[w.heap.size]? = some _) := blk_call (by first | (refine blk_new' _ _ ?_; simp; done) | (refine blk_alloc (blk_new' _ _ ?_); simp; done) | (refine blk_alloc (blk_alloc (blk_new' _ _ ?_)); simp; done)) hb1
        have F_0 := cellOf F.out 0
        simp at F_0
        have F_1 := cellOf F.out 1
        simp at F_1
        have F_2 := cellOf F.out 2
        simp at F_2
        have F_3 := cellOf F.out 3
        simp at F_3
        have F_lt := blk_lt F.out
        have F_le := Nat.le_of_lt F_lt
        have F_l1 := Nat.le_succ_of_le F_le
        go_wp2_with fail
        refine (HM.out _).mono ?_
        rintro e2 w2 ⟨rfl, rfl⟩
        generalize hA : bsum l h j ps len = A at *
        have HAE := Lib.hid hA
        clear hA hc1 hf1
        go_wp2_with fail
        go_loopw [10, 11, 13, 14, 36] (fun os bf _ _ i wr => ∃ k : Nat, k ≤ len ∧ i = .int .i64 (k : Int) ∧ bf = .int .i64 (bsum l h j ps k) ∧ OwnI wr (w.heap.size + 1) os (shares l h j ps B k) ∧ Below w.heap.size w wr ∧ wr.heap[w.heap.size]? = some (.cells #[.int .i64 l, .int .i64 d, .int .i64 h, .int .i64 j] 31 (0, 0))) (fun _ _ _ _ i _ => (len - intOf i).toNat)
        case atStart => exact ⟨0, by omega, rfl, rfl, ownI_empty _ _ (by omega), (by repeat (first | exact Below.refl _ _ | assumption | refine Below.drew ?_ | refine below_drewN ?_ _ | refine Below.alloc ?_ (by first | omega | (simp; done) | (simp; omega)) _ | refine Below.setCell ?_ (by first | omega | (simp; done) | (simp; omega)) _)), blk_alloc F.out⟩
        case round =>
          obtain ⟨k, hk, rfl, rfl, hO, hB, hF⟩ := hrel
          have HF := Lib.hid hF
          have c0 := cellOf hF 0
          have c1 := cellOf hF 1
          have c2 := cellOf hF 2
          have c3 := cellOf hF 3
          have clt := blk_lt hF
          simp at c0 c1 c2 c3
          clear hF
          have hz := hB.size
          by_cases hlt : k < len
          · have hlt' : (k : Int) < (len : Int) := by omega
            obtain ⟨b, o, rfl, hb, p0, p1, p2⟩ := (H.out.below hB).cell hlt
            have HN : Hid (bsum l h j ps (k + 1) = bsum l h j ps k + brk l h j (ps.getD k (0, 0, 0))) := Lib.hid rfl
            have hp := HP.out k hlt
            obtain ⟨t1, t2⟩ := HB.out k hk
            obtain ⟨u1, u2⟩ := brk_bd h1 h2 h3 h4 h5 h6 hp
            have HSk := Lib.hid (HSA.out k)
            have HNx := Lib.hid (HW.out k)
            have HPl := Lib.hid (HY.out k)
            generalize ps.getD k (0, 0, 0) = p at *
            obtain ⟨q0, q1, q2⟩ := p
            obtain ⟨g1, g2, g3, g4, g5, g6⟩ := pB_t hp
            simp only at p0 p1 p2 g1 g2 g3 g4 g5 g6
            have HC : Hid (∀ W, Calls Tryd.prog 41 #[.agg #[.int .i64 l, .int .i64 d, .int .i64 h, .int .i64 j], .agg #[.int .i64 q0, .int .i64 q1, .int .i64 q2]] W fun e w' => e = .returned (.int .i64 (brk l h j (q0, q1, q2))) ∧ Below W.heap.size W w') := Lib.hid fun W => bricksOf_any l d h j q0 q1 q2 W h1 h2 h3 h4 h5 h6 g1 g2 g3 g4 g5 g6
            rw [HN.out] at HSk
            generalize brk l h j (q0, q1, q2) = v at *
            generalize bsum l h j ps k = s at *
            generalize shares l h j ps B k = P at *
            have HO := Lib.hid hO
            clear hO
            have tl : (0 : Int) ≤ len := by omega
            obtain ⟨m1, m2⟩ := mul_bd (a := B) (b := s + v) (A := 1000000) (B := 300000000000) b1 b2 (by omega) (by omega)
            obtain ⟨m3, m4⟩ := mul_bd (a := B) (b := s) (A := 1000000) (B := 300000000000) b1 b2 (by omega) (by omega)
            have n1 : 0 ≤ B * (s + v) / A := Int.ediv_nonneg m1 (by omega)
            have n2 : B * (s + v) / A ≤ B * (s + v) := Int.ediv_le_self _ m1
            have n3 : 0 ≤ B * s / A := Int.ediv_nonneg m3 (by omega)
            have n4 : B * s / A ≤ B * s := Int.ediv_le_self _ m3
            go_wp2_with fail
            refine (HC.out _).mono ?_
            rintro e3 w3 ⟨rfl, hb3⟩
            have hB3 : Below w.heap.size w w3 := below_call (by repeat (first | exact Below.refl _ _ | assumption | refine Below.drew ?_ | refine below_drewN ?_ _ | refine Below.alloc ?_ (by first | omega | (simp; done) | (simp; omega)) _ | refine Below.setCell ?_ (by first | omega | (simp; done) | (simp; omega)) _)) hb3
            have hF3 := Lib.hid (blk_call (by first | exact blk_alloc HF.out | exact HF.out) hb3)
            have hO3 := Lib.hid (OwnI.below (by first | exact HO.out | exact HO.out.alloc _) hb3)
            have hz3 := hB3.size
            clear c0 c1 c2 c3 p0 p1 p2
            have e1 := IntWalk.i64_in (B * (s + v)) (by omega)
            have e2 := IntWalk.i64_in (B * s) (by omega)
            have e3 := IntWalk.i64_in (B * (s + v) / A - B * s / A) (by omega)
            have e4 : (B * (s + v)).tdiv A = B * (s + v) / A := Int.tdiv_eq_ediv_of_nonneg m1
            have e5 : (B * s).tdiv A = B * s / A := Int.tdiv_eq_ediv_of_nonneg m3
            have e6 := IntWalk.i64_in (B * (s + v) / A) (by omega)
            have e7 := IntWalk.i64_in (B * s / A) (by omega)
            have e8 : ¬ A = 0 := by omega
            have e9 : (A == 0) = false := by simpa using e8
            have hOl := hO3.out
            unfold OwnI at hOl
            rw [HPl.out] at hOl
            have HOl := Lib.hid hOl
            clear hOl
            go_wp2
            go_region_law ((refine step_append_lies _ (by rfl) _ _ 42 (by rfl) (w.heap.size + 1) 2 i0 (.int .i64 0) 1 8 Tryd.underlying42 hi hi0 hi1 hi2 rfl (by decide) u10 k (P.map (Value.int .i64)) (by rfl) (by first | exact World.ownsRow.alloc HOl.out _ | exact World.ownsRow.alloc (World.ownsRow.drew HOl.out) _) ⟨w3.heap.size, 0, none⟩ 1 1 [.int .i64 (B * (s + v) / A - B * s / A)] (by rfl) rfl (cell_one_new _ _ _) (by simp [Value.oneCell']) (by decide) (by unfold maxLen; omega) (by omega) (by simp; omega) (w3.heap.size + 1) (by simp) ?_; intro g cap4 w4 hown4 hgrow4 hat4 hlt4))
            all_goals
              have hO5 := Lib.hid (OwnI.snoc hown4 (by rw [HPl.out]))
              have hB5 : Hid (Below w.heap.size w w4) := Lib.hid (below_mark (v := u10) (zs := P) (by repeat (first | exact Below.refl _ _ | assumption | refine Below.drew ?_ | refine below_drewN ?_ _ | refine Below.alloc ?_ (by first | omega | (simp; done) | (simp; omega)) _ | refine Below.setCell ?_ (by first | omega | (simp; done) | (simp; omega)) _)) (Nat.le_succ _) (by first | exact OwnI.alloc hO3.out _ | exact OwnI.alloc (w := w3.drew) hO3.out _) hgrow4)
              have hF5 : Hid (w4.heap[w.heap.size]? = some _) := Lib.hid (blk_own (base := w.heap.size + 1) (v := u10) (zs := P) (by first | exact blk_alloc hF3.out | exact blk_alloc (w := w3.drew) hF3.out) (by first | exact OwnI.alloc hO3.out _ | exact OwnI.alloc (w := w3.drew) hO3.out _) hgrow4 (by omega))
              clear hown4 hgrow4 hat4 e1 e2 e3 e4 e5 e6 e7 e8 e9
              go_wp2
              go_roundw
              case rel => exact ⟨k + 1, by omega, by go_num, by rw [HN.out], by rw [HNx.out, HSk.out]; exact hO5.out, hB5.out, hF5.out⟩
              case measure => simp [intOf]; omega
          · obtain rfl : k = len := by omega
            have HO := Lib.hid (newI_mk (code := 0) (hO.base (by omega)) hB)
            clear hO
            go_wp2
            go_ret2
            exact HO.out
theorem shI_len20 (l d h j : Int) (ps : List (Int × Int × Int)) (B : Int) : (shI l d h j ps B).length ≤ 1000000 := by
  cases g : (fmtB l d h j && vpB ps)
  · rw [(sh_bad (B := B) g).2]; simp
  · have : vpB ps = true := by
      have := g
      simp only [Bool.and_eq_true] at this
      exact this.2
    exact shI_len l d h j ps B (by have := (vpB_t this).1; omega)
/-! ### What the laws' walks over pieces go by -/
theorem PBlk.below {w w' : World} {g n : Nat} (h : PBlk w g n) (hb : Below w.heap.size w w') : PBlk w' g n := by
  obtain ⟨ps, hl, hg⟩ := h
  exact ⟨ps, hl, blk_call hg hb⟩
theorem PBlk.alloc {w : World} {g n : Nat} (h : PBlk w g n) (o : Obj) : PBlk (w.alloc o) g n := by
  obtain ⟨ps, hl, hg⟩ := h
  exact ⟨ps, hl, blk_alloc hg⟩
theorem blk_lt_P {w : World} {g n : Nat} (h : PBlk w g n) : g < w.heap.size := by
  obtain ⟨ps, _, hg⟩ := h
  exact blk_lt hg
theorem OwnI.notBlk {w : World} {base g m : Nat} {v : Value} {zs : List Int} (h : OwnI w base v zs) (hg : g < m) (hb : m ≤ base) : v.ownBlock ≠ some g := by
  intro e
  have := (h.lt g e).1
  omega
theorem OwnI.notNew {w : World} {base g : Nat} {v : Value} {zs : List Int} (h : OwnI w base v zs) (hb : w.heap.size ≤ g) : v.ownBlock ≠ some g := by
  intro e
  have := (h.lt g e).2
  omega
theorem OwnI.keptB {w w' : World} {base g : Nat} {v : Value} {zs : List Int} (h : OwnI w base v zs) (hg : w.grownBy w' (some g)) (hne : v.ownBlock ≠ some g) : OwnI w' base v zs := World.ownsRow.kept h hg (.inr hne)
theorem keepB {w w' : World} {b o g : Nat} {x : Value} (hG : w.grownBy w' (some g)) (hb : b ≠ g) (hc : w.cell? ⟨b, o, none⟩ = some x) : w'.cell? ⟨b, o, none⟩ = some x := by
  have hl := World.block_lt_of_cell? _ _ hc
  have e : w'.heap[b]? = w.heap[b]? := hG.block b hl (fun e => hb (by injection e))
  rw [← hc]
  unfold World.cell?
  simp only [e]
theorem below_markB {a w w' : World} {g : Nat} (h : Below a.heap.size a w) (hb : a.heap.size ≤ g) (hg : w.grownBy w' (some g)) : Below a.heap.size a w' :=
  h.grown hg h.size (fun k e => by injection e with e; omega)
end Go.Proofs.YtgnalhnbdpigdaaDoor
