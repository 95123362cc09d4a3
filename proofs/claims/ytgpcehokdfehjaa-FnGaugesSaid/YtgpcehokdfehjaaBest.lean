/- Contracts of BestGauge, program and reference: the number of courses whose marks are nearest to the levels, and the code; no old memory turns. -/
import Derived.Test.YtgpcehokdfehjaaGaugeF
import Derived.Test.YtgpcehokdfehjaaMarks
namespace Go.Proofs.Ytgpcehokdfehjaa
open Go.RowKit

/-- The sum of the first integers. -/
def preS (ys : List Int) : Nat → Int
  | 0 => 0
  | k + 1 => preS ys k + ys.getD k 0
theorem preS_bd {ys : List Int} {B : Int} (h : ∀ k, k < ys.length → 0 ≤ ys.getD k 0 ∧ ys.getD k 0 ≤ B) (k : Nat) (hk : k ≤ ys.length) : 0 ≤ preS ys k ∧ preS ys k ≤ k * B := by
  induction k with
  | zero => simp [preS]
  | succ k ih =>
    have h1 := ih (by omega)
    have h2 := h k (by omega)
    have e : (((k + 1 : Nat) : Int)) * B = (k : Int) * B + B := by rw [Int.natCast_add, Int.add_mul]; simp
    simp only [preS]
    rw [e]
    omega
set_option maxHeartbeats 1000000 in
theorem sumOf_any (a : Option Addr) (len cap : Nat) (ys : List Int) (w : World) (h : IsRow .i64 w a len cap ys) (hlen : len ≤ 1048576) (hb : ∀ k, k < ys.length → 0 ≤ ys.getD k 0 ∧ ys.getD k 0 ≤ 1000000000) :
    Calls Try.prog 57 #[.slice a len cap] w fun e w' => e = .returned (.int .i64 (preS ys len)) ∧ w = w' := by
  have hl := h.1
  have H := Lib.hid h
  have HB := Lib.hid (fun k (hk : k ≤ len) => preS_bd hb k (by rw [hl]; exact hk))
  have HE := Lib.hid (fun k (hk : k < len) => hb k (by rw [hl]; exact hk))
  clear h hb hl
  go_enter Try.func57, Try.ntmps57
  go_wp2
  go_loop [3, 5, 8] (fun s _ i => ∃ k : Nat, k ≤ len ∧ i = .int .i64 (k : Int) ∧ s = .int .i64 (preS ys k)) (fun _ _ i => (len - intOf i).toNat)
  case atStart => exact ⟨0, by omega, rfl, rfl⟩
  case round =>
    obtain ⟨k, hk, rfl, rfl⟩ := hrel
    by_cases hlt : k < len
    · have hlt' : (k : Int) < (len : Int) := by omega
      obtain ⟨b, o, rfl, hb, hc⟩ := H.out.cell hlt
      obtain ⟨p1, p2⟩ := HB.out k hk
      obtain ⟨q1, q2⟩ := HE.out k hlt
      have HN : Hid (preS ys (k + 1) = preS ys k + ys.getD k 0) := Lib.hid rfl
      generalize ys.getD k 0 = x at *
      generalize preS ys k = s at *
      have p3 : (k : Int) * 1000000000 ≤ 1048576 * 1000000000 := by omega
      go_wp2
      go_round
      case rel => exact ⟨k + 1, by omega, by go_num, by rw [HN.out]⟩
      case measure => simp [intOf]; omega
    · obtain rfl : k = len := by omega
      go_wp2
      go_ret
      exact ⟨rfl, rfl⟩
/-- How far all levels are from the marks of n courses. -/
def sumI (H n : Int) (zs : List Int) : Int := preS (offs H n zs) zs.length
theorem offs_len (H n : Int) (zs : List Int) : (offs H n zs).length = zs.length := by simp [offs]
theorem offs_get {H n : Int} {zs : List Int} {k : Nat} (h : k < zs.length) : (offs H n zs).getD k 0 = lvOff H n (zs.getD k 0) := by
  simp [offs, List.getD_eq_getElem?_getD, h]
theorem offs_bd {H n : Int} {zs : List Int} (h1 : 0 ≤ H) (h2 : H ≤ 6000) (c1 : 1 ≤ n) (c2 : n ≤ 40) (hin : insB zs 1 (H - 1) = true) (k : Nat) (hk : k < (offs H n zs).length) : 0 ≤ (offs H n zs).getD k 0 ∧ (offs H n zs).getD k 0 ≤ 1000000 := by
  rw [offs_len] at hk
  rw [offs_get hk]
  have := insB_t hin k hk
  exact lvOff_bd h1 h2 c1 c2 (by omega) (by omega)
theorem sum_bd {H n : Int} {zs : List Int} (h1 : 0 ≤ H) (h2 : H ≤ 6000) (c1 : 1 ≤ n) (c2 : n ≤ 40) (hin : insB zs 1 (H - 1) = true) (k : Nat) (hk : k ≤ zs.length) (hl : zs.length ≤ 20) : 0 ≤ preS (offs H n zs) k ∧ preS (offs H n zs) k ≤ 20000000 := by
  have := preS_bd (fun i hi => offs_bd h1 h2 c1 c2 hin i hi) k (by rw [offs_len]; exact hk)
  omega
/-- One step of the search. -/
def bgStep (h H le mo : Int) (zs : List Int) (p : Int × Int) (n : Int) : Int × Int := if fitB h H le mo n && (decide (p.1 = 0) || decide (sumI H n zs < p.2)) then (n, sumI H n zs) else p
def bgBest (h H le mo : Int) (zs : List Int) : Nat → Int × Int
  | 0 => (0, 0)
  | k + 1 => bgStep h H le mo zs (bgBest h H le mo zs k) ((k : Int) + 1)
theorem bg_no {h H le mo n : Int} {zs : List Int} {p : Int × Int} (g : fitB h H le mo n = false) : bgStep h H le mo zs p n = p := by simp [bgStep, g]
theorem bg_first {h H le mo n : Int} {zs : List Int} {p : Int × Int} (g : fitB h H le mo n = true) (hb : p.1 = 0) : bgStep h H le mo zs p n = (n, sumI H n zs) := by simp [bgStep, g, hb]
theorem bg_less {h H le mo n : Int} {zs : List Int} {p : Int × Int} (g : fitB h H le mo n = true) (hb : sumI H n zs < p.2) : bgStep h H le mo zs p n = (n, sumI H n zs) := by simp [bgStep, g, hb]
theorem bg_more {h H le mo n : Int} {zs : List Int} {p : Int × Int} (g : fitB h H le mo n = true) (hb : p.1 ≠ 0) (h2 : ¬ sumI H n zs < p.2) : bgStep h H le mo zs p n = p := by simp [bgStep, g, hb, h2]
def bgI (l d h j H le mo : Int) (zs : List Int) : Int × Int :=
  if fmtB l d h j then (if levB zs H && limB le mo then (if (bgBest h H le mo zs 40).1 = 0 then (0, 3) else ((bgBest h H le mo zs 40).1, 0)) else (0, 2)) else (0, 1)
theorem bgI_bad {l d h j H le mo : Int} {zs : List Int} (g : fmtB l d h j = false) : bgI l d h j H le mo zs = (0, 1) := by simp [bgI, g]
theorem bgI_range {l d h j H le mo : Int} {zs : List Int} (g : fmtB l d h j = true) (g1 : (levB zs H && limB le mo) = false) : bgI l d h j H le mo zs = (0, 2) := by unfold bgI; rw [g, g1]; rfl
theorem bgI_none {l d h j H le mo : Int} {zs : List Int} (g : fmtB l d h j = true) (g1 : (levB zs H && limB le mo) = true) (h0 : (bgBest h H le mo zs 40).1 = 0) : bgI l d h j H le mo zs = (0, 3) := by unfold bgI; rw [g, g1, if_pos rfl, if_pos rfl, if_pos h0]
theorem bgI_some {l d h j H le mo : Int} {zs : List Int} (g : fmtB l d h j = true) (g1 : (levB zs H && limB le mo) = true) (h0 : (bgBest h H le mo zs 40).1 ≠ 0) : bgI l d h j H le mo zs = ((bgBest h H le mo zs 40).1, 0) := by unfold bgI; rw [g, g1, if_pos rfl, if_pos rfl, if_neg h0]
set_option maxHeartbeats 4000000 in
theorem bestGauge_any (l d h j H le mo : Int) (a : Option Addr) (len cap : Nat) (zs : List Int) (w : World) (hz : IsRow .i64 w a len cap zs) :
    Calls Try.prog 27 #[.agg #[.int .i64 l, .int .i64 d, .int .i64 h, .int .i64 j], .int .i64 H, .int .i64 le, .int .i64 mo, .slice a len cap] w fun e w' => e = .returned (.tuple #[.int .i64 (bgI l d h j H le mo zs).1, .int .i64 (bgI l d h j H le mo zs).2]) ∧ Below w.heap.size w w' := by
  have hl := hz.1
  have HZ := Lib.hid hz
  have HV := Lib.hid (fun W => validFormat_any l d h j W)
  have HI := Lib.hid (fun W => isLimit_any le mo W)
  clear hz
  cases g : fmtB l d h j
  · have HR := Lib.hid (bgI_bad (H := H) (le := le) (mo := mo) (zs := zs) g)
    rw [g] at HV
    clear g hl
    go_enter Try.func27, Try.ntmps27
    go_wp2_with fail
    refine (HV.out _).mono ?_
    rintro e1 w1 ⟨rfl, hb1⟩
    obtain ⟨hc1, hf1⟩ := bcell hb1
    have hz1 := hb1.size
    try simp at hz1
    have hz1_0 : w.heap.size < w1.heap.size := by omega
    have ha1 : Below w.heap.size w w1 := below_call (by repeat (first | exact Below.refl _ _ | assumption | refine Below.drew ?_ | refine below_drewN ?_ _ | refine Below.alloc ?_ (by first | omega | (simp; done) | (simp; omega)) _ | refine Below.setCell ?_ (by first | omega | (simp; done) | (simp; omega)) _)) hb1
    go_wp2
    go_ret2
    exact ⟨by rw [HR.out]; rfl, (by repeat (first | exact Below.refl _ _ | assumption | refine Below.drew ?_ | refine below_drewN ?_ _ | refine Below.alloc ?_ (by first | omega | (simp; done) | (simp; omega)) _ | refine Below.setCell ?_ (by first | omega | (simp; done) | (simp; omega)) _))⟩
  · rw [g] at HV
    cases g1 : levB zs H
    · have HR := Lib.hid (bgI_range (H := H) (le := le) (mo := mo) (zs := zs) g (by rw [g1]; rfl))
      have G1 := Lib.hid g1
      clear g g1 hl
      go_enter Try.func27, Try.ntmps27
      go_wp2_with fail
      refine (HV.out _).mono ?_
      rintro e1 w1 ⟨rfl, hb1⟩
      obtain ⟨hc1, hf1⟩ := bcell hb1
      have hz1 := hb1.size
      try simp at hz1
      have hz1_0 : w.heap.size < w1.heap.size := by omega
      have ha1 : Below w.heap.size w w1 := below_call (by repeat (first | exact Below.refl _ _ | assumption | refine Below.drew ?_ | refine below_drewN ?_ _ | refine Below.alloc ?_ (by first | omega | (simp; done) | (simp; omega)) _ | refine Below.setCell ?_ (by first | omega | (simp; done) | (simp; omega)) _)) hb1
      go_wp2_with fail
      refine (validLevels_any _ _ _ _ _ _ (HZ.out.below (by repeat (first | exact Below.refl _ _ | assumption | refine Below.drew ?_ | refine below_drewN ?_ _ | refine Below.alloc ?_ (by first | omega | (simp; done) | (simp; omega)) _ | refine Below.setCell ?_ (by first | omega | (simp; done) | (simp; omega)) _)))).mono ?_
      rintro e2 w2 ⟨rfl, hb2⟩
      obtain ⟨hc2, hf2⟩ := bcell hb2
      have hz2 := hb2.size
      try simp at hz2
      have ha2 : Below w.heap.size w w2 := below_call (by repeat (first | exact Below.refl _ _ | assumption | refine Below.drew ?_ | refine below_drewN ?_ _ | refine Below.alloc ?_ (by first | omega | (simp; done) | (simp; omega)) _ | refine Below.setCell ?_ (by first | omega | (simp; done) | (simp; omega)) _)) hb2
      rw [G1.out]
      go_wp2
      go_ret2
      exact ⟨by rw [HR.out]; rfl, (by repeat (first | exact Below.refl _ _ | assumption | refine Below.drew ?_ | refine below_drewN ?_ _ | refine Below.alloc ?_ (by first | omega | (simp; done) | (simp; omega)) _ | refine Below.setCell ?_ (by first | omega | (simp; done) | (simp; omega)) _))⟩
    · cases g2 : limB le mo
      · have HR := Lib.hid (bgI_range (H := H) (le := le) (mo := mo) (zs := zs) g (by rw [g1, g2]; rfl))
        have G1 := Lib.hid g1
        rw [g2] at HI
        clear g g1 g2 hl
        go_enter Try.func27, Try.ntmps27
        go_wp2_with fail
        refine (HV.out _).mono ?_
        rintro e1 w1 ⟨rfl, hb1⟩
        obtain ⟨hc1, hf1⟩ := bcell hb1
        have hz1 := hb1.size
        try simp at hz1
        have hz1_0 : w.heap.size < w1.heap.size := by omega
        have ha1 : Below w.heap.size w w1 := below_call (by repeat (first | exact Below.refl _ _ | assumption | refine Below.drew ?_ | refine below_drewN ?_ _ | refine Below.alloc ?_ (by first | omega | (simp; done) | (simp; omega)) _ | refine Below.setCell ?_ (by first | omega | (simp; done) | (simp; omega)) _)) hb1
        go_wp2_with fail
        refine (validLevels_any _ _ _ _ _ _ (HZ.out.below (by repeat (first | exact Below.refl _ _ | assumption | refine Below.drew ?_ | refine below_drewN ?_ _ | refine Below.alloc ?_ (by first | omega | (simp; done) | (simp; omega)) _ | refine Below.setCell ?_ (by first | omega | (simp; done) | (simp; omega)) _)))).mono ?_
        rintro e2 w2 ⟨rfl, hb2⟩
        obtain ⟨hc2, hf2⟩ := bcell hb2
        have hz2 := hb2.size
        try simp at hz2
        have ha2 : Below w.heap.size w w2 := below_call (by repeat (first | exact Below.refl _ _ | assumption | refine Below.drew ?_ | refine below_drewN ?_ _ | refine Below.alloc ?_ (by first | omega | (simp; done) | (simp; omega)) _ | refine Below.setCell ?_ (by first | omega | (simp; done) | (simp; omega)) _)) hb2
        rw [G1.out]
        go_wp2_with fail
        refine (HI.out _).mono ?_
        rintro e3 w3 ⟨rfl, rfl⟩
        go_wp2
        go_ret2
        exact ⟨by rw [HR.out]; rfl, (by repeat (first | exact Below.refl _ _ | assumption | refine Below.drew ?_ | refine below_drewN ?_ _ | refine Below.alloc ?_ (by first | omega | (simp; done) | (simp; omega)) _ | refine Below.setCell ?_ (by first | omega | (simp; done) | (simp; omega)) _))⟩
      · have HN := Lib.hid (fun h0 => bgI_none (h := h) (j := j) (l := l) (d := d) (H := H) (le := le) (mo := mo) (zs := zs) g (by rw [g1, g2]; rfl) h0)
        have HS := Lib.hid (fun h0 => bgI_some (h := h) (j := j) (l := l) (d := d) (H := H) (le := le) (mo := mo) (zs := zs) g (by rw [g1, g2]; rfl) h0)
        obtain ⟨_, _, _, _, f3, f4, f5, f6, _⟩ := fmtB_t g
        obtain ⟨s1, s2, s3, s4, _⟩ := levB_t g1
        obtain ⟨x1, x2, x3⟩ := limB_t g2
        have s0 : 0 ≤ H := by omega
        rw [hl] at s3
        have G1 := Lib.hid g1
        have HIN := Lib.hid s4
        have HL := Lib.hid hl
        rw [g2] at HI
        clear g g1 g2 hl s4
        go_enter Try.func27, Try.ntmps27
        go_wp2_with fail
        refine (HV.out _).mono ?_
        rintro e1 w1 ⟨rfl, hb1⟩
        obtain ⟨hc1, hf1⟩ := bcell hb1
        have hz1 := hb1.size
        try simp at hz1
        have hz1_0 : w.heap.size < w1.heap.size := by omega
        have ha1 : Below w.heap.size w w1 := below_call (by repeat (first | exact Below.refl _ _ | assumption | refine Below.drew ?_ | refine below_drewN ?_ _ | refine Below.alloc ?_ (by first | omega | (simp; done) | (simp; omega)) _ | refine Below.setCell ?_ (by first | omega | (simp; done) | (simp; omega)) _)) hb1
        have F : Hid (w1.heap[w.heap.size]? = some _) := blk_call (by first | (refine blk_new' _ _ ?_; simp; done) | (refine blk_alloc (blk_new' _ _ ?_); simp; done) | (refine blk_alloc (blk_alloc (blk_new' _ _ ?_)); simp; done)) hb1
        have F_0 := cellOf F.out 0
        simp at F_0
        have F_1 := cellOf F.out 1
        simp at F_1
        have F_2 := cellOf F.out 2
        simp at F_2
        have F_3 := cellOf F.out 3
        simp at F_3
        have F_lt := blk_lt F.out
        have F_le := Nat.le_of_lt F_lt
        have F_l1 := Nat.le_succ_of_le F_le
        clear hc1 hf1
        go_wp2_with fail
        refine (validLevels_any _ _ _ _ _ _ (HZ.out.below (by repeat (first | exact Below.refl _ _ | assumption | refine Below.drew ?_ | refine below_drewN ?_ _ | refine Below.alloc ?_ (by first | omega | (simp; done) | (simp; omega)) _ | refine Below.setCell ?_ (by first | omega | (simp; done) | (simp; omega)) _)))).mono ?_
        rintro e2 w2 ⟨rfl, hb2⟩
        obtain ⟨hc2, hf2⟩ := bcell hb2
        have hz2 := hb2.size
        try simp at hz2
        have ha2 : Below w.heap.size w w2 := below_call (by repeat (first | exact Below.refl _ _ | assumption | refine Below.drew ?_ | refine below_drewN ?_ _ | refine Below.alloc ?_ (by first | omega | (simp; done) | (simp; omega)) _ | refine Below.setCell ?_ (by first | omega | (simp; done) | (simp; omega)) _)) hb2
        rw [G1.out]
        have F2 := Lib.hid (blk_call F.out hb2)
        clear hc2 hf2
        go_wp2_with fail
        refine (HI.out _).mono ?_
        rintro e3 w3 ⟨rfl, rfl⟩
        go_wp2_with fail
        go_loopw [12, 13, 14, 15] (fun bs os i _ wr => ∃ k : Nat, k ≤ 40 ∧ i = .int .i64 ((k : Int) + 1) ∧ bs = .int .i64 (bgBest h H le mo zs k).1 ∧ os = .int .i64 (bgBest h H le mo zs k).2 ∧ Below w.heap.size w wr ∧ wr.heap[w.heap.size]? = some (.cells #[.int .i64 l, .int .i64 d, .int .i64 h, .int .i64 j] 26 (0, 0))) (fun _ _ i _ _ => (41 - intOf i).toNat)
        case atStart => exact ⟨0, by omega, rfl, rfl, rfl, ha2, F2.out⟩
        case round =>
          obtain ⟨k, hk, rfl, rfl, rfl, hB, hF⟩ := hrel
          have HF := Lib.hid hF
          have c0 := cellOf hF 0
          have c1 := cellOf hF 1
          have c2 := cellOf hF 2
          have c3 := cellOf hF 3
          have clt := blk_lt hF
          simp at c0 c1 c2 c3
          have HX : Hid (bgBest h H le mo zs (k + 1) = bgStep h H le mo zs (bgBest h H le mo zs k) ((k : Int) + 1)) := rfl
          clear hF
          have hz := hB.size
          by_cases hn : k < 40
          · have HT := Lib.hid (fun W => fits_any l d h j H le mo ((k : Int) + 1) W f3 f4 (by omega) (by omega) x1 x2 x3)
            cases hg : fitB h H le mo ((k : Int) + 1)
            · have HC := Lib.hid (bg_no (zs := zs) (p := bgBest h H le mo zs k) hg)
              generalize bgBest h H le mo zs k = p at *
              rw [hg] at HT
              clear hg
              go_wp2_with fail
              refine (HT.out _).mono ?_
              rintro e2 w3 ⟨rfl, hb3⟩
              have hF2 := Lib.hid (blk_call HF.out hb3)
              have hB2 := below_call hB hb3
              go_wp2
              go_roundw
              case rel => exact ⟨k + 1, by omega, by go_num, by rw [HX.out, HC.out], by rw [HX.out, HC.out], hB2, hF2.out⟩
              case measure => simp [intOf]; omega
            · have HC1 := Lib.hid (fun hb => bg_first (zs := zs) (p := bgBest h H le mo zs k) hg hb)
              have HC2 := Lib.hid (fun hb => bg_less (zs := zs) (p := bgBest h H le mo zs k) hg hb)
              have HC3 := Lib.hid (fun hb h2 => bg_more (zs := zs) (p := bgBest h H le mo zs k) hg hb h2)
              have HSU : Hid (preS (offs H ((k : Int) + 1) zs) zs.length = sumI H ((k : Int) + 1) zs) := rfl
              rw [HL.out] at HSU
              have HLO := Lib.hid (fun W (hW : IsRow .i64 W a len cap zs) => levelsOff_any H ((k : Int) + 1) a len cap zs W s0 s2 (by omega) (by omega) HIN.out s3 hW)
              have HOB := Lib.hid (offs_bd (n := (k : Int) + 1) s0 s2 (by omega) (by omega) HIN.out)
              have HOL := Lib.hid (offs_len H ((k : Int) + 1) zs)
              generalize bgBest h H le mo zs k = p at *
              obtain ⟨p1, p2⟩ := p
              simp only at HC1 HC2 HC3
              rw [hg] at HT
              clear hg
              go_wp2_with fail
              refine (HT.out _).mono ?_
              rintro e2 w3 ⟨rfl, hb3⟩
              have hF2 := Lib.hid (blk_call HF.out hb3)
              have hB2 := below_call hB hb3
              go_wp2_with fail
              refine (HLO.out _ (HZ.out.below hB2)).mono ?_
              rintro e4 w4 ⟨a4, c4, rfl, hO4, hb4⟩
              have hF4 := Lib.hid (blk_call hF2.out hb4)
              have hB4 := below_call hB2 hb4
              rw [HOL.out, HL.out] at hO4 ⊢
              have HO4 := Lib.hid hO4
              clear hO4
              go_wp2_with fail
              refine (sumOf_any _ _ _ _ _ HO4.out.row (by omega) (fun i hi => by have := HOB.out i hi; omega)).mono ?_
              rintro e5 w5 ⟨rfl, rfl⟩
              rw [HSU.out]
              generalize sumI H ((k : Int) + 1) zs = u at *
              by_cases hb0 : p1 = 0
              · have hb0' : (p1 == 0) = true := by simpa using hb0
                have HCC := Lib.hid (HC1.out hb0)
                clear hb0
                go_wp2
                go_roundw
                case rel => exact ⟨k + 1, by omega, by go_num, by rw [HX.out, HCC.out], by rw [HX.out, HCC.out], hB4, hF4.out⟩
                case measure => simp [intOf]; omega
              · have hb0' : (p1 == 0) = false := by simpa using hb0
                by_cases hlt : u < p2
                · have HCC := Lib.hid (HC2.out hlt)
                  clear hb0
                  go_wp2
                  go_roundw
                  case rel => exact ⟨k + 1, by omega, by go_num, by rw [HX.out, HCC.out], by rw [HX.out, HCC.out], hB4, hF4.out⟩
                  case measure => simp [intOf]; omega
                · have HCC := Lib.hid (HC3.out hb0 (by omega))
                  clear hb0
                  go_wp2
                  go_roundw
                  case rel => exact ⟨k + 1, by omega, by go_num, by rw [HX.out, HCC.out], by rw [HX.out, HCC.out], hB4, hF4.out⟩
                  case measure => simp [intOf]; omega
          · obtain rfl : k = 40 := by omega
            clear HX
            by_cases hb0 : (bgBest h H le mo zs 40).1 = 0
            · have HR := Lib.hid (HN.out hb0)
              have hb0' : ((bgBest h H le mo zs 40).1 == 0) = true := by simpa using hb0
              clear hb0
              go_wp2
              go_ret2
              exact ⟨by rw [HR.out]; rfl, hB⟩
            · have HR := Lib.hid (HS.out hb0)
              have hb0' : ((bgBest h H le mo zs 40).1 == 0) = false := by simpa using hb0
              clear hb0
              go_wp2
              go_ret2
              exact ⟨by rw [HR.out]; rfl, hB⟩
theorem bgI_lim {l d h j H le mo c : Int} {zs : List Int} (hc : limC l d h j H le mo = c) (h0 : c ≠ 0) : bgI l d h j H le mo zs = (0, c) := by
  rcases limC_cases l d h j H le mo with ⟨e, _⟩ | ⟨e, g⟩ | ⟨e, g, g1⟩
  · exact absurd (hc.symm.trans e) h0
  · rw [bgI_bad g, ← hc, e]
  · rw [← hc, e]
    refine bgI_range g ?_
    rcases g1 with g1 | ⟨_, g2⟩
    · have : levB zs H = false := by unfold levB; rw [g1]; rfl
      rw [this]; rfl
    · rw [g2]; simp
set_option maxHeartbeats 4000000 in
theorem specBestGauge_any (l d h j H le mo : Int) (a : Option Addr) (len cap : Nat) (zs : List Int) (w : World) (hz : IsRow .i64 w a len cap zs) :
    Calls Try.prog 26 #[.agg #[.int .i64 l, .int .i64 d, .int .i64 h, .int .i64 j], .int .i64 H, .int .i64 le, .int .i64 mo, .slice a len cap] w fun e w' => e = .returned (.tuple #[.int .i64 (bgI l d h j H le mo zs).1, .int .i64 (bgI l d h j H le mo zs).2]) ∧ Below w.heap.size w w' := by
  have hl := hz.1
  have HZ := Lib.hid hz
  have HLM := Lib.hid (fun W => l10Limits_any l d h j H le mo W)
  clear hz
  by_cases hc : limC l d h j H le mo = 0
  · rcases limC_cases l d h j H le mo with ⟨_, g, _, g2⟩ | ⟨h0, _⟩ | ⟨h0, _⟩
    · rw [hc] at HLM
      cases g1 : levB zs H
      · have HR := Lib.hid (bgI_range (H := H) (le := le) (mo := mo) (zs := zs) g (by rw [g1]; rfl))
        have G1 := Lib.hid g1
        clear g g1 g2 hl hc
        go_enter Try.func26, Try.ntmps26
        go_wp2_with fail
        refine (HLM.out _).mono ?_
        rintro e1 w1 ⟨rfl, hb1⟩
        obtain ⟨hc1, hf1⟩ := bcell hb1
        have hz1 := hb1.size
        try simp at hz1
        have hz1_0 : w.heap.size < w1.heap.size := by omega
        have ha1 : Below w.heap.size w w1 := below_call (by repeat (first | exact Below.refl _ _ | assumption | refine Below.drew ?_ | refine below_drewN ?_ _ | refine Below.alloc ?_ (by first | omega | (simp; done) | (simp; omega)) _ | refine Below.setCell ?_ (by first | omega | (simp; done) | (simp; omega)) _)) hb1
        go_wp2_with fail
        refine (l10Levels_any _ _ _ _ _ _ (HZ.out.below (by repeat (first | exact Below.refl _ _ | assumption | refine Below.drew ?_ | refine below_drewN ?_ _ | refine Below.alloc ?_ (by first | omega | (simp; done) | (simp; omega)) _ | refine Below.setCell ?_ (by first | omega | (simp; done) | (simp; omega)) _)))).mono ?_
        rintro e2 w2 ⟨rfl, hb2⟩
        obtain ⟨hc2, hf2⟩ := bcell hb2
        have hz2 := hb2.size
        try simp at hz2
        have ha2 : Below w.heap.size w w2 := below_call (by repeat (first | exact Below.refl _ _ | assumption | refine Below.drew ?_ | refine below_drewN ?_ _ | refine Below.alloc ?_ (by first | omega | (simp; done) | (simp; omega)) _ | refine Below.setCell ?_ (by first | omega | (simp; done) | (simp; omega)) _)) hb2
        rw [G1.out]
        go_wp2
        go_ret2
        exact ⟨by rw [HR.out]; rfl, (by repeat (first | exact Below.refl _ _ | assumption | refine Below.drew ?_ | refine below_drewN ?_ _ | refine Below.alloc ?_ (by first | omega | (simp; done) | (simp; omega)) _ | refine Below.setCell ?_ (by first | omega | (simp; done) | (simp; omega)) _))⟩
      · have HN := Lib.hid (fun h0 => bgI_none (h := h) (j := j) (l := l) (d := d) (H := H) (le := le) (mo := mo) (zs := zs) g (by rw [g1, g2]; rfl) h0)
        have HS := Lib.hid (fun h0 => bgI_some (h := h) (j := j) (l := l) (d := d) (H := H) (le := le) (mo := mo) (zs := zs) g (by rw [g1, g2]; rfl) h0)
        obtain ⟨_, _, _, _, f3, f4, f5, f6, _⟩ := fmtB_t g
        obtain ⟨s1, s2, s3, s4, _⟩ := levB_t g1
        obtain ⟨x1, x2, x3⟩ := limB_t g2
        have s0 : 0 ≤ H := by omega
        rw [hl] at s3
        have G1 := Lib.hid g1
        have HIN := Lib.hid s4
        have HL := Lib.hid hl
        clear g g1 g2 hl s4 hc
        go_enter Try.func26, Try.ntmps26
        go_wp2_with fail
        refine (HLM.out _).mono ?_
        rintro e1 w1 ⟨rfl, hb1⟩
        obtain ⟨hc1, hf1⟩ := bcell hb1
        have hz1 := hb1.size
        try simp at hz1
        have hz1_0 : w.heap.size < w1.heap.size := by omega
        have ha1 : Below w.heap.size w w1 := below_call (by repeat (first | exact Below.refl _ _ | assumption | refine Below.drew ?_ | refine below_drewN ?_ _ | refine Below.alloc ?_ (by first | omega | (simp; done) | (simp; omega)) _ | refine Below.setCell ?_ (by first | omega | (simp; done) | (simp; omega)) _)) hb1
        have F : Hid (w1.heap[w.heap.size]? = some _) := blk_call (by first | (refine blk_new' _ _ ?_; simp; done) | (refine blk_alloc (blk_new' _ _ ?_); simp; done) | (refine blk_alloc (blk_alloc (blk_new' _ _ ?_)); simp; done)) hb1
        have F_0 := cellOf F.out 0
        simp at F_0
        have F_1 := cellOf F.out 1
        simp at F_1
        have F_2 := cellOf F.out 2
        simp at F_2
        have F_3 := cellOf F.out 3
        simp at F_3
        have F_lt := blk_lt F.out
        have F_le := Nat.le_of_lt F_lt
        have F_l1 := Nat.le_succ_of_le F_le
        clear hc1 hf1
        go_wp2_with fail
        refine (l10Levels_any _ _ _ _ _ _ (HZ.out.below (by repeat (first | exact Below.refl _ _ | assumption | refine Below.drew ?_ | refine below_drewN ?_ _ | refine Below.alloc ?_ (by first | omega | (simp; done) | (simp; omega)) _ | refine Below.setCell ?_ (by first | omega | (simp; done) | (simp; omega)) _)))).mono ?_
        rintro e2 w2 ⟨rfl, hb2⟩
        obtain ⟨hc2, hf2⟩ := bcell hb2
        have hz2 := hb2.size
        try simp at hz2
        have ha2 : Below w.heap.size w w2 := below_call (by repeat (first | exact Below.refl _ _ | assumption | refine Below.drew ?_ | refine below_drewN ?_ _ | refine Below.alloc ?_ (by first | omega | (simp; done) | (simp; omega)) _ | refine Below.setCell ?_ (by first | omega | (simp; done) | (simp; omega)) _)) hb2
        rw [G1.out]
        have F2 := Lib.hid (blk_call F.out hb2)
        clear hc2 hf2
        go_wp2_with fail
        go_loopw [13, 14, 15, 16, 17] (fun bs os i _ _ wr => ∃ k : Nat, k ≤ 40 ∧ i = .int .i64 ((k : Int) + 1) ∧ bs = .int .i64 (bgBest h H le mo zs k).1 ∧ os = .int .i64 (bgBest h H le mo zs k).2 ∧ Below w.heap.size w wr ∧ wr.heap[w.heap.size]? = some (.cells #[.int .i64 l, .int .i64 d, .int .i64 h, .int .i64 j] 26 (0, 0))) (fun _ _ i _ _ _ => (41 - intOf i).toNat)
        case atStart => exact ⟨0, by omega, rfl, rfl, rfl, ha2, F2.out⟩
        case round =>
          obtain ⟨k, hk, rfl, rfl, rfl, hB, hF⟩ := hrel
          have HF := Lib.hid hF
          have c0 := cellOf hF 0
          have c1 := cellOf hF 1
          have c2 := cellOf hF 2
          have c3 := cellOf hF 3
          have clt := blk_lt hF
          simp at c0 c1 c2 c3
          have HX : Hid (bgBest h H le mo zs (k + 1) = bgStep h H le mo zs (bgBest h H le mo zs k) ((k : Int) + 1)) := rfl
          clear hF
          have hz := hB.size
          by_cases hn : k < 40
          · have HT := Lib.hid (fun W => l10Fits_any l d h j H le mo ((k : Int) + 1) W f3 f4 (by omega) (by omega) x1 x2 x3 s0 s2)
            cases hg : fitB h H le mo ((k : Int) + 1)
            · have HC := Lib.hid (bg_no (zs := zs) (p := bgBest h H le mo zs k) hg)
              generalize bgBest h H le mo zs k = p at *
              rw [hg] at HT
              clear hg
              go_wp2_with fail
              refine (HT.out _).mono ?_
              rintro e2 w3 ⟨rfl, hb3⟩
              have hF2 := Lib.hid (blk_call HF.out hb3)
              have hB2 := below_call hB hb3
              go_wp2
              go_roundw
              case rel => exact ⟨k + 1, by omega, by go_num, by rw [HX.out, HC.out], by rw [HX.out, HC.out], hB2, hF2.out⟩
              case measure => simp [intOf]; omega
            · have HC1 := Lib.hid (fun hb => bg_first (zs := zs) (p := bgBest h H le mo zs k) hg hb)
              have HC2 := Lib.hid (fun hb => bg_less (zs := zs) (p := bgBest h H le mo zs k) hg hb)
              have HC3 := Lib.hid (fun hb h2 => bg_more (zs := zs) (p := bgBest h H le mo zs k) hg hb h2)
              have HSU : Hid (preS (offs H ((k : Int) + 1) zs) zs.length = sumI H ((k : Int) + 1) zs) := rfl
              rw [HL.out] at HSU
              have HSB := Lib.hid (fun m (hm : m ≤ len) => sum_bd (n := (k : Int) + 1) s0 s2 (by omega) (by omega) HIN.out m (by rw [HL.out]; exact hm) (by rw [HL.out]; exact s3))
              have HOG := Lib.hid (fun m (hm : m < len) => offs_get (H := H) (n := (k : Int) + 1) (zs := zs) (k := m) (by rw [HL.out]; exact hm))
              have HPN : Hid (∀ m, preS (offs H ((k : Int) + 1) zs) (m + 1) = preS (offs H ((k : Int) + 1) zs) m + (offs H ((k : Int) + 1) zs).getD m 0) := fun m => rfl
              have HVV := Lib.hid (fun m (hm : m < len) => insB_t HIN.out m (by rw [HL.out]; exact hm))
              have HOO := Lib.hid (fun x h1 h2 => lvOff_bd (H := H) (c := (k : Int) + 1) (v := x) s0 s2 (by omega) (by omega) h1 h2)
              have HP0 : Hid (preS (offs H ((k : Int) + 1) zs) 0 = 0) := rfl
              generalize bgBest h H le mo zs k = p at *
              obtain ⟨p1, p2⟩ := p
              simp only at HC1 HC2 HC3
              rw [hg] at HT
              clear hg
              go_wp2_with fail
              refine (HT.out _).mono ?_
              rintro e2 w3 ⟨rfl, hb3⟩
              have hF2 := Lib.hid (blk_call HF.out hb3)
              have hB2 := below_call hB hb3
              have n1 : (1 : Int) ≤ (k : Int) + 1 := by omega
              have n2 : (k : Int) + 1 ≤ 40 := by omega
              clear c0 c1 c2 c3
              generalize offs H ((k : Int) + 1) zs = Y at *
              go_wp2_with fail
              go_loop [16, 17] (fun s i => ∃ m : Nat, m ≤ len ∧ i = .int .i64 (m : Int) ∧ s = .int .i64 (preS Y m)) (fun _ i => (len - intOf i).toNat)
              case atStart => exact ⟨0, by omega, rfl, by rw [HP0.out]⟩
              case round =>
                obtain ⟨m, hm, rfl, rfl⟩ := hrel
                by_cases hlt : m < len
                · have hlt' : (m : Int) < (len : Int) := by omega
                  obtain ⟨b, o, rfl, hb, hc⟩ := (HZ.out.below hB2).cell hlt
                  obtain ⟨v1, v2⟩ := HVV.out m hlt
                  have HG := HOG.out m hlt
                  obtain ⟨t1, t2⟩ := HSB.out m hm
                  have HQ := HPN.out m
                  rw [HG] at HQ
                  have HQ' := Lib.hid HQ
                  clear HQ HG
                  generalize zs.getD m 0 = x at *
                  generalize preS Y m = s at *
                  obtain ⟨q1, q2⟩ := HOO.out x (by omega) (by omega)
                  go_wp2_with fail
                  refine (l10Off_any _ _ _ _ s0 s2 n1 n2 (by omega) (by omega)).mono ?_
                  rintro e4 w4 ⟨rfl, rfl⟩
                  generalize lvOff H ((k : Int) + 1) x = y at *
                  go_wp2
                  go_round
                  case rel => exact ⟨m + 1, by omega, by go_num, by rw [HQ'.out]⟩
                  case measure => simp [intOf]; omega
                · obtain rfl : m = len := by omega
                  rw [HSU.out]
                  generalize sumI H ((k : Int) + 1) zs = u at *
                  by_cases hb0 : p1 = 0
                  · have hb0' : (p1 == 0) = true := by simpa using hb0
                    have HCC := Lib.hid (HC1.out hb0)
                    clear hb0
                    go_wp2
                    go_roundw
                    case rel => exact ⟨k + 1, by omega, by go_num, by rw [HX.out, HCC.out], by rw [HX.out, HCC.out], hB2, hF2.out⟩
                    case measure => simp [intOf]; omega
                  · have hb0' : (p1 == 0) = false := by simpa using hb0
                    by_cases hlt : u < p2
                    · have HCC := Lib.hid (HC2.out hlt)
                      clear hb0
                      go_wp2
                      go_roundw
                      case rel => exact ⟨k + 1, by omega, by go_num, by rw [HX.out, HCC.out], by rw [HX.out, HCC.out], hB2, hF2.out⟩
                      case measure => simp [intOf]; omega
                    · have HCC := Lib.hid (HC3.out hb0 (by omega))
                      clear hb0
                      go_wp2
                      go_roundw
                      case rel => exact ⟨k + 1, by omega, by go_num, by rw [HX.out, HCC.out], by rw [HX.out, HCC.out], hB2, hF2.out⟩
                      case measure => simp [intOf]; omega
          · obtain rfl : k = 40 := by omega
            clear HX
            by_cases hb0 : (bgBest h H le mo zs 40).1 = 0
            · have HR := Lib.hid (HN.out hb0)
              have hb0' : ((bgBest h H le mo zs 40).1 == 0) = true := by simpa using hb0
              clear hb0
              go_wp2
              go_ret2
              exact ⟨by rw [HR.out]; rfl, hB⟩
            · have HR := Lib.hid (HS.out hb0)
              have hb0' : ((bgBest h H le mo zs 40).1 == 0) = false := by simpa using hb0
              clear hb0
              go_wp2
              go_ret2
              exact ⟨by rw [HR.out]; rfl, hB⟩
    · rw [hc] at h0; cases h0
    · rw [hc] at h0; cases h0
  · have HR := Lib.hid (bgI_lim (zs := zs) rfl hc)
    generalize limC l d h j H le mo = x at *
    have hc1 : (x != 0) = true := by simpa using hc
    have hc2 : (x == 0) = false := by simpa using hc
    clear hc hl
    go_enter Try.func26, Try.ntmps26
    go_wp2_with fail
    refine (HLM.out _).mono ?_
    rintro e1 w1 ⟨rfl, hb1⟩
    obtain ⟨hc1, hf1⟩ := bcell hb1
    have hz1 := hb1.size
    try simp at hz1
    have hz1_0 : w.heap.size < w1.heap.size := by omega
    have ha1 : Below w.heap.size w w1 := below_call (by repeat (first | exact Below.refl _ _ | assumption | refine Below.drew ?_ | refine below_drewN ?_ _ | refine Below.alloc ?_ (by first | omega | (simp; done) | (simp; omega)) _ | refine Below.setCell ?_ (by first | omega | (simp; done) | (simp; omega)) _)) hb1
    go_wp2
    go_ret2
    exact ⟨by rw [HR.out]; rfl, (by repeat (first | exact Below.refl _ _ | assumption | refine Below.drew ?_ | refine below_drewN ?_ _ | refine Below.alloc ?_ (by first | omega | (simp; done) | (simp; omega)) _ | refine Below.setCell ?_ (by first | omega | (simp; done) | (simp; omega)) _))⟩
end Go.Proofs.Ytgpcehokdfehjaa
