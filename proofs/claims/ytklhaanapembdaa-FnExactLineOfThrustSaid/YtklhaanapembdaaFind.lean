/- Contract of the reference's l13Find: where the conditions that decide lie; no old memory turns; condition: valid blocks that can be read. -/
import Derived.Test.YtklhaanapembdaaFindP
import Derived.Test.YtklhaanapembdaaLess
namespace Go.Proofs.Ytklhaanapembdaa
open Go.RowKit

theorem FindAt.drewN {base b : Nat} {W : World} {v : Value} {l : List Cnd} {gs : List Nat} {F : Fnd} (h : FindAt base W b v l gs F) (n : Nat) : FindAt base (W.drewN n) b v l gs F := h.call (by repeat (first | exact Below.refl _ _ | assumption | refine Below.drew ?_ | refine below_drewN ?_ _ | refine Below.alloc ?_ (by first | omega | (simp; done) | (simp; omega)) _ | refine Below.setCell ?_ (by first | omega | (simp; done) | (simp; omega)) _))
theorem fstep_never {l : List Cnd} {F : Fnd} {n : Nat} (hb : (at0 l n).b = 0) (ha : 0 < (at0 l n).a) (hf : F.never < 0) : fstep l F n = { F with never := n } := by unfold fstep; rw [if_pos hb, if_pos ⟨ha, hf⟩]
theorem fstep_never' {l : List Cnd} {F : Fnd} {n : Nat} (hb : (at0 l n).b = 0) (h : ¬ (0 < (at0 l n).a ∧ F.never < 0)) : fstep l F n = F := by unfold fstep; rw [if_pos hb, if_neg h]
theorem fstep_low {l : List Cnd} {F : Fnd} {n : Nat} (hb : 0 < (at0 l n).b) (h : 0 < (at0 l n).a ∧ (F.low < 0 ∨ lessC (at0 l F.low).a (at0 l F.low).b (at0 l n).a (at0 l n).b = true)) : fstep l F n = { F with low := n } := by unfold fstep; rw [if_neg (by omega), if_pos hb, if_pos h]
theorem fstep_low' {l : List Cnd} {F : Fnd} {n : Nat} (hb : 0 < (at0 l n).b) (h : ¬ (0 < (at0 l n).a ∧ (F.low < 0 ∨ lessC (at0 l F.low).a (at0 l F.low).b (at0 l n).a (at0 l n).b = true))) : fstep l F n = F := by unfold fstep; rw [if_neg (by omega), if_pos hb, if_neg h]
theorem fstep_high {l : List Cnd} {F : Fnd} {n : Nat} (hb : (at0 l n).b < 0) (h : F.high < 0 ∨ lessC (at0 l n).a (at0 l n).b (at0 l F.high).a (at0 l F.high).b = true) : fstep l F n = { F with high := n } := by unfold fstep; rw [if_neg (by omega), if_neg (by omega), if_pos h]
theorem fstep_high' {l : List Cnd} {F : Fnd} {n : Nat} (hb : (at0 l n).b < 0) (h : ¬ (F.high < 0 ∨ lessC (at0 l n).a (at0 l n).b (at0 l F.high).a (at0 l F.high).b = true)) : fstep l F n = F := by unfold fstep; rw [if_neg (by omega), if_neg (by omega), if_neg h]
set_option maxRecDepth 100000 in
set_option maxHeartbeats 8000000 in
theorem l13Find_any (g : Nat) (a0 a1 a2 : Option Addr) (n0 c0 n1 c1 n2 c2 : Nat) (ls lo hi : List Int) (w : World) (hg : AtB g a0 a1 a2 n0 c0 n1 c1 n2 c2 w) (h : IsB a0 a1 a2 n0 c0 n1 c1 n2 c2 ls lo hi w) (hv : blkB ls lo hi = true) :
    Calls Try.prog 99 #[.pointer (some ⟨g, 0, none⟩)] w fun e w' => ∃ b v gs, e = .returned (.pointer (some ⟨b, 0, none⟩)) ∧ FindAt w.heap.size w' b v (qAll ls lo hi n1 n1) gs (ffold (qAll ls lo hi n1 n1) (qAll ls lo hi n1 n1).length) ∧ Below w.heap.size w w' := by
  have HA := Lib.hid (l13All_any g a0 a1 a2 n0 c0 n1 c1 n2 c2 ls lo hi w hg h hv)
  obtain ⟨v1, v2, v3, v4, _⟩ := blkB_t hv
  have hn1 : n1 = ls.length + 1 := by have := h.2.1.1; omega
  have HGD : Hid (∀ i : Int, 0 ≤ i → i < (qAll ls lo hi n1 n1).length → goodC (at0 (qAll ls lo hi n1 n1) i)) := Lib.hid fun i h0 h1 => qAll_good hv (by rw [← hn1]; exact at0_mem h0 h1)
  have HPOS : Hid (0 < (qAll ls lo hi n1 n1).length) := Lib.hid (qAll_pos ls lo hi (by omega))
  clear h hg hv v1 v2 v3 v4 hn1
  generalize qAll ls lo hi n1 n1 = l at *
  go_enter Try.func99, Try.ntmps99
  go_wp2_with fail
  refine HA.out.mono ?_
  rintro e1 w1 ⟨v, rfl, ⟨gs, hG⟩, hB1, hle0⟩
  have HLE := Lib.hid hle0
  clear hle0
  obtain ⟨gv, cap, rfl, hv1, hv2⟩ := hG.shape HPOS.out
  have hz1 := hB1.size
  have hne : (some gv : Option Nat) ≠ some w1.heap.size := by intro e; injection e with e; omega
  have hF0 : FindAt w.heap.size (w1.alloc (.cells (sblk (.slice (some ⟨gv, 0, none⟩) l.length cap) fnd0) 125)) w1.heap.size (.slice (some ⟨gv, 0, none⟩) l.length cap) l gs fnd0 :=
    ⟨blk_new _ _, hG.alloc _, hne, hB1.size, (fun i g hg => by have := blk_lt (hG.2.2 i g hg).2.2; omega)⟩
  have hBA : Below w.heap.size w (w1.alloc (.cells (sblk (.slice (some ⟨gv, 0, none⟩) l.length cap) fnd0) 125)) := hB1.alloc hB1.size _
  have HF0 := Lib.hid hF0
  have HBA := Lib.hid hBA
  clear hF0 hBA hG hB1 hv2
  go_wp2_with fail
  go_loopw [4, 5] (fun iv _ wr => ∃ i : Nat, i ≤ l.length ∧ iv = .int .i64 (i : Int) ∧ FindAt w.heap.size wr w1.heap.size (.slice (some ⟨gv, 0, none⟩) l.length cap) l gs (ffold l i) ∧ Below w.heap.size w wr) (fun iv _ _ => (l.length - intOf iv).toNat)
  case atStart => exact ⟨0, by omega, rfl, HF0.out, HBA.out⟩
  case round =>
    obtain ⟨i, hi, rfl, hF, hB⟩ := hrel
    have HF := Lib.hid hF
    have HB := Lib.hid hB
    clear hF hB
    obtain ⟨s0, s1, s2, s3⟩ := HF.out.cells
    have sf := frozenOf HF.out.1
    by_cases hlt : i < l.length
    · have hlt' : (i : Int) < (l.length : Int) := by omega
      obtain ⟨e0, e1, e2⟩ := HF.out.2.1.get hlt
      have HN := Lib.hid (ffold_next l i)
      have HAL := Lib.hid (alike_all l i (by omega))
      have HGC := Lib.hid (HGD.out i (by omega) (by omega))
      obtain ⟨c, hc⟩ : ∃ c, at0 l (i : Int) = c := ⟨_, rfl⟩
      have HC := Lib.hid hc
      rw [hc] at e0 e1
      clear hc
      generalize ffold l i = F at *
      generalize bfold (l.take i) = S at *
      have blt := blk_lt HF.out.1
      have vlt : gv < wr.heap.size := (World.ownsRow.lt HF.out.2.1.2.1 gv rfl).2
      have z1 : ¬ w1.heap.size = wr.heap.size := by omega
      have z2 : ¬ gv = wr.heap.size := by omega
      have hle := HLE.out
      have hBr := HB.out.size
      have hi1 : (i : Int) + 1 ≤ 20000 := by omega
      rcases Int.lt_trichotomy c.b 0 with hx | hx | hx
      · have y1 : decide (c.b = 0) = false := decide_eq_false (by omega)
        have y2 : decide (0 < c.b) = false := decide_eq_false (by omega)
        by_cases hq : F.high < 0
        · have HST := Lib.hid (fstep_high (l := l) (F := F) (n := i) (by rw [HC.out]; exact hx) (.inl hq))
          have y3 : decide (F.high < 0) = true := decide_eq_true hq
          go_wp2_with fail
          go_quiet (fail)
          go_wp2
          go_roundw
          case rel =>
            refine ⟨i + 1, by omega, by go_num, ?_, ?_⟩
            · rw [HN.out, HST.out]; exact ((HF.out.alloc _).drewN _).high _
            · have hB := HB.out; exact (by repeat (first | exact Below.refl _ _ | assumption | refine Below.drew ?_ | refine below_drewN ?_ _ | refine Below.alloc ?_ (by first | omega | (simp; done) | (simp; omega)) _ | refine Below.setCell ?_ (by first | omega | (simp; done) | (simp; omega)) _))
          case measure => simp [intOf]; omega
        · have hbd : 0 ≤ F.high ∧ F.high < (i : Int) := by
            rcases HAL.out.2.1 with h | h
            · exact absurd h.2 (by omega)
            · exact ⟨h.2.1, h.2.2.1⟩
          obtain ⟨m, hm⟩ : ∃ m : Nat, F.high = (m : Int) := ⟨F.high.toNat, by omega⟩
          have HM := Lib.hid hm
          rw [hm] at s3
          have hmi : m < l.length := by omega
          have hm1 : (m : Int) < (l.length : Int) := by omega
          have y3 : decide ((m : Int) < 0) = false := decide_eq_false (by omega)
          obtain ⟨d0, d1, d2⟩ := HF.out.2.1.get hmi
          obtain ⟨q1, q2, q3, q4⟩ := HGD.out (m : Int) (by omega) (by omega)
          obtain ⟨d, hd⟩ : ∃ d, at0 l (m : Int) = d := ⟨_, rfl⟩
          have HDD := Lib.hid hd
          have hgc := HGC.out
          rw [HC.out] at hgc
          obtain ⟨p1, p2, p3, p4⟩ := hgc
          rw [hd] at d0 d1 q1 q2 q3 q4
          have HLS := Lib.hid (fun W o1 o2 => l13Less_any c.a c.b d.a d.b o1 o2 W p1 p2 p3 p4 q1 q2 q3 q4)
          obtain ⟨L, hL⟩ : ∃ L, lessC c.a c.b d.a d.b = L := ⟨_, rfl⟩
          rw [hL] at HLS
          clear p1 p2 p3 p4 q1 q2 q3 q4 hd hm hbd
          obtain ⟨ge, hge⟩ : ∃ ge, gs.getD i 0 = ge := ⟨_, rfl⟩
          obtain ⟨gm, hgm⟩ : ∃ gm, gs.getD m 0 = gm := ⟨_, rfl⟩
          rw [hge] at e2
          rw [hgm] at d2
          clear hge hgm
          go_wp2_with fail
          have hS0 : (wr.alloc (.cells #[.int .i64 c.a, .int .i64 c.b, .slice (some ⟨ge, 0, none⟩) 4 4] 117)).cell? ⟨w1.heap.size, 0, none⟩ = some (.slice (some ⟨gv, 0, none⟩) l.length cap) ∧ (wr.alloc (.cells #[.int .i64 c.a, .int .i64 c.b, .slice (some ⟨ge, 0, none⟩) 4 4] 117)).cell? ⟨w1.heap.size, 3, none⟩ = some (.int .i64 (m : Int)) ∧ (wr.alloc (.cells #[.int .i64 c.a, .int .i64 c.b, .slice (some ⟨ge, 0, none⟩) 4 4] 117)).cell? ⟨wr.heap.size, 0, none⟩ = some (.int .i64 c.a) ∧ (wr.alloc (.cells #[.int .i64 c.a, .int .i64 c.b, .slice (some ⟨ge, 0, none⟩) 4 4] 117)).cell? ⟨wr.heap.size, 1, none⟩ = some (.int .i64 c.b) ∧ (wr.alloc (.cells #[.int .i64 c.a, .int .i64 c.b, .slice (some ⟨ge, 0, none⟩) 4 4] 117)).cell? ⟨wr.heap.size, 2, none⟩ = some (.slice (some ⟨ge, 0, none⟩) 4 4) ∧ (wr.alloc (.cells #[.int .i64 c.a, .int .i64 c.b, .slice (some ⟨ge, 0, none⟩) 4 4] 117)).cell? ⟨gv, m * 3, none⟩ = some (.int .i64 d.a) ∧ (wr.alloc (.cells #[.int .i64 c.a, .int .i64 c.b, .slice (some ⟨ge, 0, none⟩) 4 4] 117)).cell? ⟨gv, m * 3 + 1, none⟩ = some (.int .i64 d.b) ∧ (wr.alloc (.cells #[.int .i64 c.a, .int .i64 c.b, .slice (some ⟨ge, 0, none⟩) 4 4] 117)).cell? ⟨gv, m * 3 + 2, none⟩ = some (.slice (some ⟨gm, 0, none⟩) 4 4) := ⟨keepA s0, keepA s3, by simp [go_sem], by simp [go_sem], by simp [go_sem], keepA d0, keepA d1, keepA d2⟩
          have hS1 : (wr.alloc (.cells #[.int .i64 c.a, .int .i64 c.b, .slice (some ⟨ge, 0, none⟩) 4 4] 117)).drew.cell? ⟨w1.heap.size, 0, none⟩ = some (.slice (some ⟨gv, 0, none⟩) l.length cap) ∧ (wr.alloc (.cells #[.int .i64 c.a, .int .i64 c.b, .slice (some ⟨ge, 0, none⟩) 4 4] 117)).drew.cell? ⟨w1.heap.size, 3, none⟩ = some (.int .i64 (m : Int)) ∧ (wr.alloc (.cells #[.int .i64 c.a, .int .i64 c.b, .slice (some ⟨ge, 0, none⟩) 4 4] 117)).drew.cell? ⟨wr.heap.size, 0, none⟩ = some (.int .i64 c.a) ∧ (wr.alloc (.cells #[.int .i64 c.a, .int .i64 c.b, .slice (some ⟨ge, 0, none⟩) 4 4] 117)).drew.cell? ⟨wr.heap.size, 1, none⟩ = some (.int .i64 c.b) ∧ (wr.alloc (.cells #[.int .i64 c.a, .int .i64 c.b, .slice (some ⟨ge, 0, none⟩) 4 4] 117)).drew.cell? ⟨wr.heap.size, 2, none⟩ = some (.slice (some ⟨ge, 0, none⟩) 4 4) ∧ (wr.alloc (.cells #[.int .i64 c.a, .int .i64 c.b, .slice (some ⟨ge, 0, none⟩) 4 4] 117)).drew.cell? ⟨gv, m * 3, none⟩ = some (.int .i64 d.a) ∧ (wr.alloc (.cells #[.int .i64 c.a, .int .i64 c.b, .slice (some ⟨ge, 0, none⟩) 4 4] 117)).drew.cell? ⟨gv, m * 3 + 1, none⟩ = some (.int .i64 d.b) ∧ (wr.alloc (.cells #[.int .i64 c.a, .int .i64 c.b, .slice (some ⟨ge, 0, none⟩) 4 4] 117)).drew.cell? ⟨gv, m * 3 + 2, none⟩ = some (.slice (some ⟨gm, 0, none⟩) 4 4) := hS0
          go_region_held3 (fun w' => w'.cell? ⟨w1.heap.size, 0, none⟩ = some (.slice (some ⟨gv, 0, none⟩) l.length cap) ∧ w'.cell? ⟨w1.heap.size, 3, none⟩ = some (.int .i64 (m : Int)) ∧ w'.cell? ⟨wr.heap.size, 0, none⟩ = some (.int .i64 c.a) ∧ w'.cell? ⟨wr.heap.size, 1, none⟩ = some (.int .i64 c.b) ∧ w'.cell? ⟨wr.heap.size, 2, none⟩ = some (.slice (some ⟨ge, 0, none⟩) 4 4) ∧ w'.cell? ⟨gv, m * 3, none⟩ = some (.int .i64 d.a) ∧ w'.cell? ⟨gv, m * 3 + 1, none⟩ = some (.int .i64 d.b) ∧ w'.cell? ⟨gv, m * 3 + 2, none⟩ = some (.slice (some ⟨gm, 0, none⟩) 4 4)) ((first | (with_reducible assumption) | exact hS1 | exact hS0)) ((go_at_call 96; (with_reducible refine (HLS.out _ _ _).mono ?_); rintro e wx ⟨rfl, hbx⟩; have hFx := FindAt.call (FindAt.drew (HF.out.alloc _)) hbx; have hB := HB.out; have hax : Below w.heap.size w wx := below_callB (by repeat (first | exact Below.refl _ _ | assumption | refine Below.drew ?_ | refine below_drewN ?_ _ | refine Below.alloc ?_ (by first | omega | (simp; done) | (simp; omega)) _ | refine Below.setCell ?_ (by first | omega | (simp; done) | (simp; omega)) _)) (by first | omega | (simp; omega)) hbx; have hS := keep8 hbx (by first | (with_reducible assumption) | exact hS1)))
          all_goals
            cases L
            · have HST := Lib.hid (fstep_high' (l := l) (F := F) (n := i) (by rw [HC.out]; exact hx) (fun h => by rcases h with h | h; omega; rw [HC.out, HM.out, HDD.out, hL] at h; cases h))
              go_wp2
              go_roundw
              case rel => exact ⟨i + 1, by omega, by go_num, by rw [HN.out, HST.out]; exact hFx, hax⟩
              case measure => simp [intOf]; omega
            · have HST := Lib.hid (fstep_high (l := l) (F := F) (n := i) (by rw [HC.out]; exact hx) (.inr (by rw [HC.out, HM.out, HDD.out]; exact hL)))
              obtain ⟨s0, s1, s2, s3⟩ := hFx.cells
              have sf := frozenOf hFx.1
              go_wp2
              go_roundw
              case rel => exact ⟨i + 1, by omega, by go_num, by rw [HN.out, HST.out]; exact hFx.high _, hax.setCell hz1 _⟩
              case measure => simp [intOf]; omega
      · have y1 : decide (c.b = 0) = true := decide_eq_true hx
        by_cases hqa : 0 < c.a
        · have y2 : decide (0 < c.a) = true := decide_eq_true hqa
          by_cases hqn : F.never < 0
          · have HST := Lib.hid (fstep_never (l := l) (F := F) (n := i) (by rw [HC.out]; exact hx) (by rw [HC.out]; exact hqa) hqn)
            have y3 : decide (F.never < 0) = true := decide_eq_true hqn
            go_wp2
            go_roundw
            case rel =>
              refine ⟨i + 1, by omega, by go_num, ?_, ?_⟩
              · rw [HN.out, HST.out]; exact (HF.out.never _).alloc _
              · have hB := HB.out; exact (by repeat (first | exact Below.refl _ _ | assumption | refine Below.drew ?_ | refine below_drewN ?_ _ | refine Below.alloc ?_ (by first | omega | (simp; done) | (simp; omega)) _ | refine Below.setCell ?_ (by first | omega | (simp; done) | (simp; omega)) _))
            case measure => simp [intOf]; omega
          · have HST := Lib.hid (fstep_never' (l := l) (F := F) (n := i) (by rw [HC.out]; exact hx) (fun h => hqn h.2))
            have y3 : decide (F.never < 0) = false := decide_eq_false hqn
            go_wp2
            go_roundw
            case rel =>
              refine ⟨i + 1, by omega, by go_num, ?_, ?_⟩
              · rw [HN.out, HST.out]; exact HF.out.alloc _
              · have hB := HB.out; exact (by repeat (first | exact Below.refl _ _ | assumption | refine Below.drew ?_ | refine below_drewN ?_ _ | refine Below.alloc ?_ (by first | omega | (simp; done) | (simp; omega)) _ | refine Below.setCell ?_ (by first | omega | (simp; done) | (simp; omega)) _))
            case measure => simp [intOf]; omega
        · have HST := Lib.hid (fstep_never' (l := l) (F := F) (n := i) (by rw [HC.out]; exact hx) (fun h => hqa (by rw [HC.out] at h; exact h.1)))
          have y2 : decide (0 < c.a) = false := decide_eq_false hqa
          go_wp2
          go_roundw
          case rel =>
            refine ⟨i + 1, by omega, by go_num, ?_, ?_⟩
            · rw [HN.out, HST.out]; exact HF.out.alloc _
            · have hB := HB.out; exact (by repeat (first | exact Below.refl _ _ | assumption | refine Below.drew ?_ | refine below_drewN ?_ _ | refine Below.alloc ?_ (by first | omega | (simp; done) | (simp; omega)) _ | refine Below.setCell ?_ (by first | omega | (simp; done) | (simp; omega)) _))
          case measure => simp [intOf]; omega
      · have y1 : decide (c.b = 0) = false := decide_eq_false (by omega)
        have y2 : decide (0 < c.b) = true := decide_eq_true hx
        by_cases hqa : 0 < c.a
        · have y3 : decide (0 < c.a) = true := decide_eq_true hqa
          by_cases hql : F.low < 0
          · have HST := Lib.hid (fstep_low (l := l) (F := F) (n := i) (by rw [HC.out]; exact hx) ⟨by rw [HC.out]; exact hqa, .inl hql⟩)
            have y4 : decide (F.low < 0) = true := decide_eq_true hql
            go_wp2_with fail
            go_quiet (fail)
            go_wp2
            go_roundw
            case rel =>
              refine ⟨i + 1, by omega, by go_num, ?_, ?_⟩
              · rw [HN.out, HST.out]; exact ((HF.out.alloc _).drewN _).low _
              · have hB := HB.out; exact (by repeat (first | exact Below.refl _ _ | assumption | refine Below.drew ?_ | refine below_drewN ?_ _ | refine Below.alloc ?_ (by first | omega | (simp; done) | (simp; omega)) _ | refine Below.setCell ?_ (by first | omega | (simp; done) | (simp; omega)) _))
            case measure => simp [intOf]; omega
          · have hbd : 0 ≤ F.low ∧ F.low < (i : Int) := by
              rcases HAL.out.2.2 with h | h
              · exact absurd h.1 (by omega)
              · exact ⟨h.2.1, h.2.2.1⟩
            obtain ⟨m, hm⟩ : ∃ m : Nat, F.low = (m : Int) := ⟨F.low.toNat, by omega⟩
            have HM := Lib.hid hm
            rw [hm] at s2
            have hmi : m < l.length := by omega
            have hm1 : (m : Int) < (l.length : Int) := by omega
            have y4 : decide ((m : Int) < 0) = false := decide_eq_false (by omega)
            obtain ⟨d0, d1, d2⟩ := HF.out.2.1.get hmi
            obtain ⟨q1, q2, q3, q4⟩ := HGD.out (m : Int) (by omega) (by omega)
            obtain ⟨d, hd⟩ : ∃ d, at0 l (m : Int) = d := ⟨_, rfl⟩
            have HDD := Lib.hid hd
            have hgc := HGC.out
            rw [HC.out] at hgc
            obtain ⟨p1, p2, p3, p4⟩ := hgc
            rw [hd] at d0 d1 q1 q2 q3 q4
            have HLS := Lib.hid (fun W o1 o2 => l13Less_any d.a d.b c.a c.b o1 o2 W q1 q2 q3 q4 p1 p2 p3 p4)
            obtain ⟨L, hL⟩ : ∃ L, lessC d.a d.b c.a c.b = L := ⟨_, rfl⟩
            rw [hL] at HLS
            clear p1 p2 p3 p4 q1 q2 q3 q4 hd hm hbd
            obtain ⟨ge, hge⟩ : ∃ ge, gs.getD i 0 = ge := ⟨_, rfl⟩
            obtain ⟨gm, hgm⟩ : ∃ gm, gs.getD m 0 = gm := ⟨_, rfl⟩
            rw [hge] at e2
            rw [hgm] at d2
            clear hge hgm
            go_wp2_with fail
            have hS0 : (wr.alloc (.cells #[.int .i64 c.a, .int .i64 c.b, .slice (some ⟨ge, 0, none⟩) 4 4] 117)).cell? ⟨w1.heap.size, 0, none⟩ = some (.slice (some ⟨gv, 0, none⟩) l.length cap) ∧ (wr.alloc (.cells #[.int .i64 c.a, .int .i64 c.b, .slice (some ⟨ge, 0, none⟩) 4 4] 117)).cell? ⟨w1.heap.size, 2, none⟩ = some (.int .i64 (m : Int)) ∧ (wr.alloc (.cells #[.int .i64 c.a, .int .i64 c.b, .slice (some ⟨ge, 0, none⟩) 4 4] 117)).cell? ⟨wr.heap.size, 0, none⟩ = some (.int .i64 c.a) ∧ (wr.alloc (.cells #[.int .i64 c.a, .int .i64 c.b, .slice (some ⟨ge, 0, none⟩) 4 4] 117)).cell? ⟨wr.heap.size, 1, none⟩ = some (.int .i64 c.b) ∧ (wr.alloc (.cells #[.int .i64 c.a, .int .i64 c.b, .slice (some ⟨ge, 0, none⟩) 4 4] 117)).cell? ⟨wr.heap.size, 2, none⟩ = some (.slice (some ⟨ge, 0, none⟩) 4 4) ∧ (wr.alloc (.cells #[.int .i64 c.a, .int .i64 c.b, .slice (some ⟨ge, 0, none⟩) 4 4] 117)).cell? ⟨gv, m * 3, none⟩ = some (.int .i64 d.a) ∧ (wr.alloc (.cells #[.int .i64 c.a, .int .i64 c.b, .slice (some ⟨ge, 0, none⟩) 4 4] 117)).cell? ⟨gv, m * 3 + 1, none⟩ = some (.int .i64 d.b) ∧ (wr.alloc (.cells #[.int .i64 c.a, .int .i64 c.b, .slice (some ⟨ge, 0, none⟩) 4 4] 117)).cell? ⟨gv, m * 3 + 2, none⟩ = some (.slice (some ⟨gm, 0, none⟩) 4 4) := ⟨keepA s0, keepA s2, by simp [go_sem], by simp [go_sem], by simp [go_sem], keepA d0, keepA d1, keepA d2⟩
            have hS1 : (wr.alloc (.cells #[.int .i64 c.a, .int .i64 c.b, .slice (some ⟨ge, 0, none⟩) 4 4] 117)).drew.cell? ⟨w1.heap.size, 0, none⟩ = some (.slice (some ⟨gv, 0, none⟩) l.length cap) ∧ (wr.alloc (.cells #[.int .i64 c.a, .int .i64 c.b, .slice (some ⟨ge, 0, none⟩) 4 4] 117)).drew.cell? ⟨w1.heap.size, 2, none⟩ = some (.int .i64 (m : Int)) ∧ (wr.alloc (.cells #[.int .i64 c.a, .int .i64 c.b, .slice (some ⟨ge, 0, none⟩) 4 4] 117)).drew.cell? ⟨wr.heap.size, 0, none⟩ = some (.int .i64 c.a) ∧ (wr.alloc (.cells #[.int .i64 c.a, .int .i64 c.b, .slice (some ⟨ge, 0, none⟩) 4 4] 117)).drew.cell? ⟨wr.heap.size, 1, none⟩ = some (.int .i64 c.b) ∧ (wr.alloc (.cells #[.int .i64 c.a, .int .i64 c.b, .slice (some ⟨ge, 0, none⟩) 4 4] 117)).drew.cell? ⟨wr.heap.size, 2, none⟩ = some (.slice (some ⟨ge, 0, none⟩) 4 4) ∧ (wr.alloc (.cells #[.int .i64 c.a, .int .i64 c.b, .slice (some ⟨ge, 0, none⟩) 4 4] 117)).drew.cell? ⟨gv, m * 3, none⟩ = some (.int .i64 d.a) ∧ (wr.alloc (.cells #[.int .i64 c.a, .int .i64 c.b, .slice (some ⟨ge, 0, none⟩) 4 4] 117)).drew.cell? ⟨gv, m * 3 + 1, none⟩ = some (.int .i64 d.b) ∧ (wr.alloc (.cells #[.int .i64 c.a, .int .i64 c.b, .slice (some ⟨ge, 0, none⟩) 4 4] 117)).drew.cell? ⟨gv, m * 3 + 2, none⟩ = some (.slice (some ⟨gm, 0, none⟩) 4 4) := hS0
            go_region_held3 (fun w' => w'.cell? ⟨w1.heap.size, 0, none⟩ = some (.slice (some ⟨gv, 0, none⟩) l.length cap) ∧ w'.cell? ⟨w1.heap.size, 2, none⟩ = some (.int .i64 (m : Int)) ∧ w'.cell? ⟨wr.heap.size, 0, none⟩ = some (.int .i64 c.a) ∧ w'.cell? ⟨wr.heap.size, 1, none⟩ = some (.int .i64 c.b) ∧ w'.cell? ⟨wr.heap.size, 2, none⟩ = some (.slice (some ⟨ge, 0, none⟩) 4 4) ∧ w'.cell? ⟨gv, m * 3, none⟩ = some (.int .i64 d.a) ∧ w'.cell? ⟨gv, m * 3 + 1, none⟩ = some (.int .i64 d.b) ∧ w'.cell? ⟨gv, m * 3 + 2, none⟩ = some (.slice (some ⟨gm, 0, none⟩) 4 4)) ((first | (with_reducible assumption) | exact hS1 | exact hS0)) ((go_at_call 96; (with_reducible refine (HLS.out _ _ _).mono ?_); rintro e wx ⟨rfl, hbx⟩; have hFx := FindAt.call (FindAt.drew (HF.out.alloc _)) hbx; have hB := HB.out; have hax : Below w.heap.size w wx := below_callB (by repeat (first | exact Below.refl _ _ | assumption | refine Below.drew ?_ | refine below_drewN ?_ _ | refine Below.alloc ?_ (by first | omega | (simp; done) | (simp; omega)) _ | refine Below.setCell ?_ (by first | omega | (simp; done) | (simp; omega)) _)) (by first | omega | (simp; omega)) hbx; have hS := keep8 hbx (by first | (with_reducible assumption) | exact hS1)))
            all_goals
              cases L
              · have HST := Lib.hid (fstep_low' (l := l) (F := F) (n := i) (by rw [HC.out]; exact hx) (fun h => by rcases h.2 with h | h; omega; rw [HC.out, HM.out, HDD.out, hL] at h; cases h))
                go_wp2
                go_roundw
                case rel => exact ⟨i + 1, by omega, by go_num, by rw [HN.out, HST.out]; exact hFx, hax⟩
                case measure => simp [intOf]; omega
              · have HST := Lib.hid (fstep_low (l := l) (F := F) (n := i) (by rw [HC.out]; exact hx) ⟨by rw [HC.out]; exact hqa, .inr (by rw [HC.out, HM.out, HDD.out]; exact hL)⟩)
                obtain ⟨s0, s1, s2, s3⟩ := hFx.cells
                have sf := frozenOf hFx.1
                go_wp2
                go_roundw
                case rel => exact ⟨i + 1, by omega, by go_num, by rw [HN.out, HST.out]; exact hFx.low _, hax.setCell hz1 _⟩
                case measure => simp [intOf]; omega
        · have HST := Lib.hid (fstep_low' (l := l) (F := F) (n := i) (by rw [HC.out]; exact hx) (fun h => hqa (by rw [HC.out] at h; exact h.1)))
          have y3 : decide (0 < c.a) = false := decide_eq_false hqa
          go_wp2_with fail
          go_quiet (fail)
          go_wp2
          go_roundw
          case rel =>
            refine ⟨i + 1, by omega, by go_num, ?_, ?_⟩
            · rw [HN.out, HST.out]; exact (HF.out.alloc _).drewN _
            · have hB := HB.out; exact (by repeat (first | exact Below.refl _ _ | assumption | refine Below.drew ?_ | refine below_drewN ?_ _ | refine Below.alloc ?_ (by first | omega | (simp; done) | (simp; omega)) _ | refine Below.setCell ?_ (by first | omega | (simp; done) | (simp; omega)) _))
          case measure => simp [intOf]; omega
    · obtain rfl : i = l.length := by omega
      go_wp2
      go_ret
      exact ⟨_, _, _, rfl, HF.out, HB.out⟩
end Go.Proofs.Ytklhaanapembdaa
