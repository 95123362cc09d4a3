/- Contracts of CoursesFor, program and reference: what a call returns, as a plain function on integers; no old memory turns. -/
import Derived.Test.YtgpcehokdfehjaaGaugeC
namespace Go.Proofs.Ytgpcehokdfehjaa
open Go.RowKit

/-- How far n courses of s are from the height. -/
def dstI (H s n : Int) : Int := ((H - n * s).natAbs : Int)
theorem dstI_bd {H s n : Int} (h1 : 0 ≤ H) (h2 : H ≤ 6000) (s1 : 0 ≤ s) (s2 : s ≤ 170) (n1 : 0 ≤ n) (n2 : n ≤ 40) : 0 ≤ dstI H s n ∧ dstI H s n ≤ 12800 := by
  have := mul_bd n1 n2 s1 s2; unfold dstI; omega
/-- One step of the search: n courses after the best b so far. -/
def cfStep (h H le mo s b n : Int) : Int := if fitB h H le mo n && (decide (b = 0) || decide (dstI H s n * b < dstI H s b * n)) then n else b
def cfBest (h H le mo s : Int) : Nat → Int
  | 0 => 0
  | k + 1 => cfStep h H le mo s (cfBest h H le mo s k) ((k : Int) + 1)
theorem cfBest_bd (h H le mo s : Int) (k : Nat) : 0 ≤ cfBest h H le mo s k ∧ cfBest h H le mo s k ≤ k := by
  induction k with
  | zero => simp [cfBest]
  | succ k ih =>
    simp only [cfBest, cfStep]
    split <;> omega
theorem cf_no {h H le mo s b n : Int} (g : fitB h H le mo n = false) : cfStep h H le mo s b n = b := by simp [cfStep, g]
theorem cf_first {h H le mo s b n : Int} (g : fitB h H le mo n = true) (hb : b = 0) : cfStep h H le mo s b n = n := by simp [cfStep, g, hb]
theorem cf_less {h H le mo s b n : Int} (g : fitB h H le mo n = true) (g2 : dstI H s n * b < dstI H s b * n) : cfStep h H le mo s b n = n := by simp [cfStep, g, g2]
theorem cf_more {h H le mo s b n : Int} (g : fitB h H le mo n = true) (hb : b ≠ 0) (g2 : ¬ dstI H s n * b < dstI H s b * n) : cfStep h H le mo s b n = b := by simp [cfStep, g, hb, g2]
/-- What CoursesFor returns. -/
def coursesI (l d h j H le mo : Int) : Int × Int :=
  if limC l d h j H le mo = 0 then (if cfBest h H le mo (h + j) 40 = 0 then (0, 3) else (cfBest h H le mo (h + j) 40, 0)) else (0, limC l d h j H le mo)
theorem limC_cases (l d h j H le mo : Int) : (limC l d h j H le mo = 0 ∧ fmtB l d h j = true ∧ inB H 100 6000 = true ∧ limB le mo = true) ∨ (limC l d h j H le mo = 1 ∧ fmtB l d h j = false) ∨ (limC l d h j H le mo = 2 ∧ fmtB l d h j = true ∧ (inB H 100 6000 = false ∨ (inB H 100 6000 = true ∧ limB le mo = false))) := by
  unfold limC
  cases g : fmtB l d h j <;> cases g1 : inB H 100 6000 <;> cases g2 : limB le mo <;> simp
theorem coursesI_no {l d h j H le mo c : Int} (hc : limC l d h j H le mo = c) (h0 : c ≠ 0) : coursesI l d h j H le mo = (0, c) := by unfold coursesI; rw [hc, if_neg h0]
theorem coursesI_none {l d h j H le mo : Int} (hc : limC l d h j H le mo = 0) (h0 : cfBest h H le mo (h + j) 40 = 0) : coursesI l d h j H le mo = (0, 3) := by unfold coursesI; rw [hc, if_pos rfl, if_pos h0]
theorem coursesI_some {l d h j H le mo : Int} (hc : limC l d h j H le mo = 0) (h0 : cfBest h H le mo (h + j) 40 ≠ 0) : coursesI l d h j H le mo = (cfBest h H le mo (h + j) 40, 0) := by unfold coursesI; rw [hc, if_pos rfl, if_neg h0]

set_option maxHeartbeats 4000000 in
theorem specCoursesFor_any (l d h j H le mo : Int) (w : World) :
    Calls Try.prog 10 #[.agg #[.int .i64 l, .int .i64 d, .int .i64 h, .int .i64 j], .int .i64 H, .int .i64 le, .int .i64 mo] w fun e w' => e = .returned (.tuple #[.int .i64 (coursesI l d h j H le mo).1, .int .i64 (coursesI l d h j H le mo).2]) ∧ Below w.heap.size w w' := by
  have HL := Lib.hid (l10Limits_any l d h j H le mo)
  by_cases hc : limC l d h j H le mo = 0
  · rcases limC_cases l d h j H le mo with ⟨_, g, g1, g2⟩ | ⟨h0, _⟩ | ⟨h0, _⟩
    · obtain ⟨_, _, _, _, f3, f4, f5, f6, _⟩ := fmtB_t g
      obtain ⟨s1, s2⟩ := inB_t g1
      obtain ⟨x1, x2, x3⟩ := limB_t g2
      have HN := Lib.hid (coursesI_none hc)
      have HS := Lib.hid (coursesI_some hc)
      rw [hc] at HL
      clear hc g g1 g2
      go_enter Try.func10, Try.ntmps10
      go_wp2_with fail
      refine (HL.out _).mono ?_
      rintro e1 w1 ⟨rfl, hb1⟩
      obtain ⟨hc1, hf1⟩ := bcell hb1
      have hz1 := hb1.size
      try simp at hz1
      have hz1_0 : w.heap.size < w1.heap.size := by omega
      have ha1 : Below w.heap.size w w1 := below_call (by repeat (first | exact Below.refl _ _ | assumption | refine Below.drew ?_ | refine below_drewN ?_ _ | refine Below.alloc ?_ (by first | omega | (simp; done) | (simp; omega)) _ | refine Below.setCell ?_ (by first | omega | (simp; done) | (simp; omega)) _)) hb1
      have F : Hid (w1.heap[w.heap.size]? = some _) := blk_call (by first | (refine blk_new' _ _ ?_; simp; done) | (refine blk_alloc (blk_new' _ _ ?_); simp; done) | (refine blk_alloc (blk_alloc (blk_new' _ _ ?_)); simp; done)) hb1
      have F_0 := cellOf F.out 0
      simp at F_0
      have F_1 := cellOf F.out 1
      simp at F_1
      have F_2 := cellOf F.out 2
      simp at F_2
      have F_3 := cellOf F.out 3
      simp at F_3
      have F_lt := blk_lt F.out
      have F_le := Nat.le_of_lt F_lt
      have F_l1 := Nat.le_succ_of_le F_le
      clear hc1 hf1
      go_wp2_with fail
      go_loopw [11, 12, 13, 14] (fun bs i _ _ wr => ∃ k : Nat, k ≤ 40 ∧ i = .int .i64 ((k : Int) + 1) ∧ bs = .int .i64 (cfBest h H le mo (h + j) k) ∧ Below w.heap.size w wr ∧ wr.heap[w.heap.size]? = some (.cells #[.int .i64 l, .int .i64 d, .int .i64 h, .int .i64 j] 26 (0, 0))) (fun _ i _ _ _ => (41 - intOf i).toNat)
      case atStart => exact ⟨0, by omega, rfl, rfl, ha1, F.out⟩
      case round =>
        obtain ⟨k, hk, rfl, rfl, hB, hF⟩ := hrel
        have HF := Lib.hid hF
        have c0 := cellOf hF 0
        have c1 := cellOf hF 1
        have c2 := cellOf hF 2
        have c3 := cellOf hF 3
        have clt := blk_lt hF
        simp at c0 c1 c2 c3
        obtain ⟨b1, b2⟩ := cfBest_bd h H le mo (h + j) k
        have HX : Hid (cfBest h H le mo (h + j) (k + 1) = cfStep h H le mo (h + j) (cfBest h H le mo (h + j) k) ((k : Int) + 1)) := rfl
        clear hF
        have hz := hB.size
        by_cases hn : k < 40
        · have D1 := Lib.hid (dstI_bd (H := H) (s := h + j) (n := (k : Int) + 1) (by omega) s2 (by omega) (by omega) (by omega) (by omega))
          have D2 := Lib.hid (dstI_bd (H := H) (s := h + j) (n := cfBest h H le mo (h + j) k) (by omega) s2 (by omega) (by omega) (by omega) (by omega))
          generalize cfBest h H le mo (h + j) k = b at *
          obtain ⟨p1, p2⟩ := mul_bd (a := (k : Int) + 1) (b := h + j) (A := 40) (B := 170) (by omega) (by omega) (by omega) (by omega)
          obtain ⟨p3, p4⟩ := mul_bd (a := b) (b := h + j) (A := 40) (B := 170) (by omega) (by omega) (by omega) (by omega)
          have E1 : Hid (((H - ((k : Int) + 1) * (h + j)).natAbs : Int) = dstI H (h + j) ((k : Int) + 1)) := rfl
          have E2 : Hid (((H - b * (h + j)).natAbs : Int) = dstI H (h + j) b) := rfl
          cases hg : fitB h H le mo ((k : Int) + 1)
          · have HC := Lib.hid (cf_no (s := h + j) (b := b) hg)
            have HT := Lib.hid (fun W => l10Fits_any l d h j H le mo ((k : Int) + 1) W f3 f4 (by omega) (by omega) x1 x2 x3 (by omega) s2)
            rw [hg] at HT
            clear hg
            go_wp2_with fail
            refine (HT.out _).mono ?_
            rintro e2 w2 ⟨rfl, hb2⟩
            have hF2 := Lib.hid (blk_call HF.out hb2)
            have hB2 := below_call hB hb2
            go_wp2
            go_roundw
            case rel => exact ⟨k + 1, by omega, by go_num, by rw [HX.out, HC.out], hB2, hF2.out⟩
            case measure => simp [intOf]; omega
          · have HT := Lib.hid (fun W => l10Fits_any l d h j H le mo ((k : Int) + 1) W f3 f4 (by omega) (by omega) x1 x2 x3 (by omega) s2)
            rw [hg] at HT
            have hg' := Lib.hid hg
            clear hg
            go_wp2_with fail
            refine (HT.out _).mono ?_
            rintro e2 w2 ⟨rfl, hb2⟩
            have hF2 := Lib.hid (blk_call HF.out hb2)
            have hB2 := below_call hB hb2
            have d0 := cellOf hF2.out 0
            have d1 := cellOf hF2.out 1
            have d2 := cellOf hF2.out 2
            have d3 := cellOf hF2.out 3
            simp at d0 d1 d2 d3
            go_wp2_with fail
            refine (l02Size_any _ _ (by omega) (by omega)).mono ?_
            rintro e3 w3 ⟨rfl, rfl⟩
            rw [E1.out]
            go_wp2_with fail
            refine (l02Size_any _ _ (by omega) (by omega)).mono ?_
            rintro e4 w4 ⟨rfl, rfl⟩
            rw [E2.out]
            have D1' := D1.out
            have D2' := D2.out
            have HC1 : Hid (b = 0 → cfStep h H le mo (h + j) b ((k : Int) + 1) = (k : Int) + 1) := fun h0 => cf_first hg'.out h0
            have HC2 : Hid (dstI H (h + j) ((k : Int) + 1) * b < dstI H (h + j) b * ((k : Int) + 1) → cfStep h H le mo (h + j) b ((k : Int) + 1) = (k : Int) + 1) := fun h0 => cf_less hg'.out h0
            have HC3 : Hid (b ≠ 0 → ¬ dstI H (h + j) ((k : Int) + 1) * b < dstI H (h + j) b * ((k : Int) + 1) → cfStep h H le mo (h + j) b ((k : Int) + 1) = b) := fun h0 h1 => cf_more hg'.out h0 h1
            generalize dstI H (h + j) ((k : Int) + 1) = x at *
            generalize dstI H (h + j) b = y at *
            obtain ⟨D1a, D1b⟩ := D1'
            obtain ⟨D2a, D2b⟩ := D2'
            obtain ⟨p5, p6⟩ := mul_bd (a := x) (b := b) (A := 12800) (B := 40) D1a D1b (by omega) (by omega)
            obtain ⟨p7, p8⟩ := mul_bd (a := y) (b := (k : Int) + 1) (A := 12800) (B := 40) D2a D2b (by omega) (by omega)
            by_cases hb0 : b = 0
            · have hb0' : (b == 0) = true := by simpa using hb0
              have HB0 := Lib.hid hb0
              clear hb0
              go_wp2
              go_roundw
              case rel => exact ⟨k + 1, by omega, by go_num, by rw [HX.out, HC1.out HB0.out], hB2, hF2.out⟩
              case measure => simp [intOf]; omega
            · have hb0' : (b == 0) = false := by simpa using hb0
              by_cases hlt : x * b < y * ((k : Int) + 1)
              · go_wp2
                go_roundw
                case rel => exact ⟨k + 1, by omega, by go_num, by rw [HX.out, HC2.out hlt], hB2, hF2.out⟩
                case measure => simp [intOf]; omega
              · go_wp2
                go_roundw
                case rel => exact ⟨k + 1, by omega, by go_num, by rw [HX.out, HC3.out hb0 (by omega)], hB2, hF2.out⟩
                case measure => simp [intOf]; omega
        · obtain rfl : k = 40 := by omega
          clear HX
          by_cases hb0 : cfBest h H le mo (h + j) 40 = 0
          · have HR := Lib.hid (HN.out hb0)
            have hb0' : (cfBest h H le mo (h + j) 40 == 0) = true := by simpa using hb0
            clear hb0
            go_wp2
            go_ret2
            exact ⟨by rw [HR.out]; rfl, hB⟩
          · have HR := Lib.hid (HS.out hb0)
            have hb0' : (cfBest h H le mo (h + j) 40 == 0) = false := by simpa using hb0
            clear hb0
            go_wp2
            go_ret2
            exact ⟨by rw [HR.out]; rfl, hB⟩
    · rw [hc] at h0; cases h0
    · rw [hc] at h0; cases h0
  · have HR := Lib.hid (coursesI_no rfl hc)
    generalize limC l d h j H le mo = x at *
    have hc1 : (x != 0) = true := by simpa using hc
    clear hc
    go_enter Try.func10, Try.ntmps10
    go_wp2_with fail
    refine (HL.out _).mono ?_
    rintro e1 w1 ⟨rfl, hb1⟩
    obtain ⟨hc1, hf1⟩ := bcell hb1
    have hz1 := hb1.size
    try simp at hz1
    have hz1_0 : w.heap.size < w1.heap.size := by omega
    have ha1 : Below w.heap.size w w1 := below_call (by repeat (first | exact Below.refl _ _ | assumption | refine Below.drew ?_ | refine below_drewN ?_ _ | refine Below.alloc ?_ (by first | omega | (simp; done) | (simp; omega)) _ | refine Below.setCell ?_ (by first | omega | (simp; done) | (simp; omega)) _)) hb1
    go_wp2
    go_ret2
    exact ⟨by rw [HR.out]; rfl, (by repeat (first | exact Below.refl _ _ | assumption | refine Below.drew ?_ | refine below_drewN ?_ _ | refine Below.alloc ?_ (by first | omega | (simp; done) | (simp; omega)) _ | refine Below.setCell ?_ (by first | omega | (simp; done) | (simp; omega)) _))⟩

def offI (H s b : Int) : Int := if b = 0 then 0 else dstI H s b
theorem offI_zero {H s b : Int} (h : b = 0) : offI H s b = 0 := if_pos h
theorem offI_pos {H s b : Int} (h : b ≠ 0) : offI H s b = dstI H s b := if_neg h
theorem storB_one (H : Int) : storB H 1 = inB H 100 6000 := by simp [storB, inB]
set_option maxHeartbeats 4000000 in
theorem coursesFor_any (l d h j H le mo : Int) (w : World) :
    Calls Try.prog 12 #[.agg #[.int .i64 l, .int .i64 d, .int .i64 h, .int .i64 j], .int .i64 H, .int .i64 le, .int .i64 mo] w fun e w' => e = .returned (.tuple #[.int .i64 (coursesI l d h j H le mo).1, .int .i64 (coursesI l d h j H le mo).2]) ∧ Below w.heap.size w w' := by
  have HV := Lib.hid (validFormat_any l d h j)
  have HS1 := Lib.hid (fun W => isStorey_any H 1 W)
  rw [storB_one] at HS1
  have HI := Lib.hid (fun W => isLimit_any le mo W)
  rcases limC_cases l d h j H le mo with ⟨hc, g, g1, g2⟩ | ⟨hc, g⟩ | ⟨hc, g, g1⟩
  · obtain ⟨_, _, _, _, f3, f4, f5, f6, _⟩ := fmtB_t g
    obtain ⟨s1, s2⟩ := inB_t g1
    obtain ⟨x1, x2, x3⟩ := limB_t g2
    have HN := Lib.hid (coursesI_none hc)
    have HS := Lib.hid (coursesI_some hc)
    rw [g] at HV
    rw [g1] at HS1
    rw [g2] at HI
    clear hc g g1 g2
    go_enter Try.func12, Try.ntmps12
    go_wp2_with fail
    refine (HV.out _).mono ?_
    rintro e1 w1 ⟨rfl, hb1⟩
    obtain ⟨hc1, hf1⟩ := bcell hb1
    have hz1 := hb1.size
    try simp at hz1
    have hz1_0 : w.heap.size < w1.heap.size := by omega
    have ha1 : Below w.heap.size w w1 := below_call (by repeat (first | exact Below.refl _ _ | assumption | refine Below.drew ?_ | refine below_drewN ?_ _ | refine Below.alloc ?_ (by first | omega | (simp; done) | (simp; omega)) _ | refine Below.setCell ?_ (by first | omega | (simp; done) | (simp; omega)) _)) hb1
    have F : Hid (w1.heap[w.heap.size]? = some _) := blk_call (by first | (refine blk_new' _ _ ?_; simp; done) | (refine blk_alloc (blk_new' _ _ ?_); simp; done) | (refine blk_alloc (blk_alloc (blk_new' _ _ ?_)); simp; done)) hb1
    have F_0 := cellOf F.out 0
    simp at F_0
    have F_1 := cellOf F.out 1
    simp at F_1
    have F_2 := cellOf F.out 2
    simp at F_2
    have F_3 := cellOf F.out 3
    simp at F_3
    have F_lt := blk_lt F.out
    have F_le := Nat.le_of_lt F_lt
    have F_l1 := Nat.le_succ_of_le F_le
    clear hc1 hf1
    go_wp2_with fail
    refine (HS1.out _).mono ?_
    rintro e2 w2 ⟨rfl, rfl⟩
    go_wp2_with fail
    refine (HI.out _).mono ?_
    rintro e3 w3 ⟨rfl, rfl⟩
    go_wp2_with fail
    go_loopw [10, 11, 12, 13] (fun bs os i _ wr => ∃ k : Nat, k ≤ 40 ∧ i = .int .i64 ((k : Int) + 1) ∧ bs = .int .i64 (cfBest h H le mo (h + j) k) ∧ os = .int .i64 (offI H (h + j) (cfBest h H le mo (h + j) k)) ∧ Below w.heap.size w wr ∧ wr.heap[w.heap.size]? = some (.cells #[.int .i64 l, .int .i64 d, .int .i64 h, .int .i64 j] 26 (0, 0))) (fun _ _ i _ _ => (41 - intOf i).toNat)
    case atStart => exact ⟨0, by omega, rfl, rfl, rfl, ha1, F.out⟩
    case round =>
      obtain ⟨k, hk, rfl, rfl, rfl, hB, hF⟩ := hrel
      have HF := Lib.hid hF
      have c0 := cellOf hF 0
      have c1 := cellOf hF 1
      have c2 := cellOf hF 2
      have c3 := cellOf hF 3
      have clt := blk_lt hF
      simp at c0 c1 c2 c3
      obtain ⟨b1, b2⟩ := cfBest_bd h H le mo (h + j) k
      have HX : Hid (cfBest h H le mo (h + j) (k + 1) = cfStep h H le mo (h + j) (cfBest h H le mo (h + j) k) ((k : Int) + 1)) := rfl
      clear hF
      have hz := hB.size
      by_cases hn : k < 40
      · have D1 := Lib.hid (dstI_bd (H := H) (s := h + j) (n := (k : Int) + 1) (by omega) s2 (by omega) (by omega) (by omega) (by omega))
        have D2 := Lib.hid (dstI_bd (H := H) (s := h + j) (n := cfBest h H le mo (h + j) k) (by omega) s2 (by omega) (by omega) (by omega) (by omega))
        generalize cfBest h H le mo (h + j) k = b at *
        obtain ⟨p1, p2⟩ := mul_bd (a := (k : Int) + 1) (b := h + j) (A := 40) (B := 170) (by omega) (by omega) (by omega) (by omega)
        have E1 : Hid (((H - ((k : Int) + 1) * (h + j)).natAbs : Int) = dstI H (h + j) ((k : Int) + 1)) := rfl
        have HT := Lib.hid (fun W => fits_any l d h j H le mo ((k : Int) + 1) W f3 f4 (by omega) (by omega) x1 x2 x3)
        go_wp2_with fail
        refine (apart_any _ _ _ (by omega) (by omega) (by omega) (by omega)).mono ?_
        rintro e3 w3 ⟨rfl, rfl⟩
        rw [E1.out]
        cases hg : fitB h H le mo ((k : Int) + 1)
        · have HC := Lib.hid (cf_no (s := h + j) (b := b) hg)
          rw [hg] at HT
          clear hg
          go_wp2_with fail
          refine (HT.out _).mono ?_
          rintro e2 w2 ⟨rfl, hb2⟩
          have hF2 := Lib.hid (blk_call HF.out hb2)
          have hB2 := below_call hB hb2
          go_wp2
          go_roundw
          case rel => exact ⟨k + 1, by omega, by go_num, by rw [HX.out, HC.out], by rw [HX.out, HC.out], hB2, hF2.out⟩
          case measure => simp [intOf]; omega
        · rw [hg] at HT
          have hg' := Lib.hid hg
          clear hg
          go_wp2_with fail
          refine (HT.out _).mono ?_
          rintro e2 w2 ⟨rfl, hb2⟩
          have hF2 := Lib.hid (blk_call HF.out hb2)
          have hB2 := below_call hB hb2
          have D1' := D1.out
          have D2' := D2.out
          have HC1 : Hid (b = 0 → cfStep h H le mo (h + j) b ((k : Int) + 1) = (k : Int) + 1) := fun h0 => cf_first hg'.out h0
          have HC2 : Hid (dstI H (h + j) ((k : Int) + 1) * b < dstI H (h + j) b * ((k : Int) + 1) → cfStep h H le mo (h + j) b ((k : Int) + 1) = (k : Int) + 1) := fun h0 => cf_less hg'.out h0
          have HC3 : Hid (b ≠ 0 → ¬ dstI H (h + j) ((k : Int) + 1) * b < dstI H (h + j) b * ((k : Int) + 1) → cfStep h H le mo (h + j) b ((k : Int) + 1) = b) := fun h0 h1 => cf_more hg'.out h0 h1
          have HO : Hid (offI H (h + j) ((k : Int) + 1) = dstI H (h + j) ((k : Int) + 1)) := offI_pos (by omega)
          by_cases hb0 : b = 0
          · have hb0' : (b == 0) = true := by simpa using hb0
            have HB0 := Lib.hid hb0
            generalize dstI H (h + j) ((k : Int) + 1) = x at *
            clear hb0
            go_wp2
            go_roundw
            case rel => exact ⟨k + 1, by omega, by go_num, by rw [HX.out, HC1.out HB0.out], by rw [HX.out, HC1.out HB0.out, HO.out], hB2, hF2.out⟩
            case measure => simp [intOf]; omega
          · have hb0' : (b == 0) = false := by simpa using hb0
            have HOb : Hid (offI H (h + j) b = dstI H (h + j) b) := offI_pos hb0
            rw [HOb.out]
            generalize dstI H (h + j) ((k : Int) + 1) = x at *
            generalize dstI H (h + j) b = y at *
            obtain ⟨D1a, D1b⟩ := D1'
            obtain ⟨D2a, D2b⟩ := D2'
            obtain ⟨p5, p6⟩ := mul_bd (a := x) (b := b) (A := 12800) (B := 40) D1a D1b (by omega) (by omega)
            obtain ⟨p7, p8⟩ := mul_bd (a := y) (b := (k : Int) + 1) (A := 12800) (B := 40) D2a D2b (by omega) (by omega)
            by_cases hlt : x * b < y * ((k : Int) + 1)
            · go_wp2
              go_roundw
              case rel => exact ⟨k + 1, by omega, by go_num, by rw [HX.out, HC2.out hlt], by rw [HX.out, HC2.out hlt, HO.out], hB2, hF2.out⟩
              case measure => simp [intOf]; omega
            · go_wp2
              go_roundw
              case rel => exact ⟨k + 1, by omega, by go_num, by rw [HX.out, HC3.out hb0 (by omega)], by rw [HX.out, HC3.out hb0 (by omega), HOb.out], hB2, hF2.out⟩
              case measure => simp [intOf]; omega
      · obtain rfl : k = 40 := by omega
        clear HX
        by_cases hb0 : cfBest h H le mo (h + j) 40 = 0
        · have HR := Lib.hid (HN.out hb0)
          have hb0' : (cfBest h H le mo (h + j) 40 == 0) = true := by simpa using hb0
          clear hb0
          go_wp2
          go_ret2
          exact ⟨by rw [HR.out]; rfl, hB⟩
        · have HR := Lib.hid (HS.out hb0)
          have hb0' : (cfBest h H le mo (h + j) 40 == 0) = false := by simpa using hb0
          clear hb0
          go_wp2
          go_ret2
          exact ⟨by rw [HR.out]; rfl, hB⟩
  · have HR := Lib.hid (coursesI_no hc (by decide))
    rw [g] at HV
    clear hc g
    go_enter Try.func12, Try.ntmps12
    go_wp2_with fail
    refine (HV.out _).mono ?_
    rintro e1 w1 ⟨rfl, hb1⟩
    obtain ⟨hc1, hf1⟩ := bcell hb1
    have hz1 := hb1.size
    try simp at hz1
    have hz1_0 : w.heap.size < w1.heap.size := by omega
    have ha1 : Below w.heap.size w w1 := below_call (by repeat (first | exact Below.refl _ _ | assumption | refine Below.drew ?_ | refine below_drewN ?_ _ | refine Below.alloc ?_ (by first | omega | (simp; done) | (simp; omega)) _ | refine Below.setCell ?_ (by first | omega | (simp; done) | (simp; omega)) _)) hb1
    go_wp2
    go_ret2
    exact ⟨by rw [HR.out]; rfl, (by repeat (first | exact Below.refl _ _ | assumption | refine Below.drew ?_ | refine below_drewN ?_ _ | refine Below.alloc ?_ (by first | omega | (simp; done) | (simp; omega)) _ | refine Below.setCell ?_ (by first | omega | (simp; done) | (simp; omega)) _))⟩
  · have HR := Lib.hid (coursesI_no hc (by decide))
    rw [g] at HV
    clear hc g
    rcases g1 with g1 | ⟨g1, g2⟩
    · rw [g1] at HS1
      clear g1
      go_enter Try.func12, Try.ntmps12
      go_wp2_with fail
      refine (HV.out _).mono ?_
      rintro e1 w1 ⟨rfl, hb1⟩
      obtain ⟨hc1, hf1⟩ := bcell hb1
      have hz1 := hb1.size
      try simp at hz1
      have hz1_0 : w.heap.size < w1.heap.size := by omega
      have ha1 : Below w.heap.size w w1 := below_call (by repeat (first | exact Below.refl _ _ | assumption | refine Below.drew ?_ | refine below_drewN ?_ _ | refine Below.alloc ?_ (by first | omega | (simp; done) | (simp; omega)) _ | refine Below.setCell ?_ (by first | omega | (simp; done) | (simp; omega)) _)) hb1
      go_wp2_with fail
      refine (HS1.out _).mono ?_
      rintro e2 w2 ⟨rfl, rfl⟩
      go_wp2
      go_ret2
      exact ⟨by rw [HR.out]; rfl, (by repeat (first | exact Below.refl _ _ | assumption | refine Below.drew ?_ | refine below_drewN ?_ _ | refine Below.alloc ?_ (by first | omega | (simp; done) | (simp; omega)) _ | refine Below.setCell ?_ (by first | omega | (simp; done) | (simp; omega)) _))⟩
    · rw [g1] at HS1
      rw [g2] at HI
      clear g1 g2
      go_enter Try.func12, Try.ntmps12
      go_wp2_with fail
      refine (HV.out _).mono ?_
      rintro e1 w1 ⟨rfl, hb1⟩
      obtain ⟨hc1, hf1⟩ := bcell hb1
      have hz1 := hb1.size
      try simp at hz1
      have hz1_0 : w.heap.size < w1.heap.size := by omega
      have ha1 : Below w.heap.size w w1 := below_call (by repeat (first | exact Below.refl _ _ | assumption | refine Below.drew ?_ | refine below_drewN ?_ _ | refine Below.alloc ?_ (by first | omega | (simp; done) | (simp; omega)) _ | refine Below.setCell ?_ (by first | omega | (simp; done) | (simp; omega)) _)) hb1
      go_wp2_with fail
      refine (HS1.out _).mono ?_
      rintro e2 w2 ⟨rfl, rfl⟩
      go_wp2_with fail
      refine (HI.out _).mono ?_
      rintro e3 w3 ⟨rfl, rfl⟩
      go_wp2
      go_ret2
      exact ⟨by rw [HR.out]; rfl, (by repeat (first | exact Below.refl _ _ | assumption | refine Below.drew ?_ | refine below_drewN ?_ _ | refine Below.alloc ?_ (by first | omega | (simp; done) | (simp; omega)) _ | refine Below.setCell ?_ (by first | omega | (simp; done) | (simp; omega)) _))⟩
end Go.Proofs.Ytgpcehokdfehjaa
