/- Contracts of JointsEvenly, program and reference: which joints a call returns in a new slice, and its code; no old memory turns. -/
import Derived.Test.YtgpcehokdfehjaaDoorGauge
import Derived.Test.YtgpcehokdfehjaaDoorSlice
namespace Go.Proofs.YtgpcehokdfehjaaDoor
open Go.RowKit

/-- The k-th of c joints that have A together. -/
def jointAt (A c : Int) (k : Nat) : Int := if (k : Int) < A % c then A / c + 1 else A / c
def evens (A c : Int) (k : Nat) : List Int := (List.range k).map (jointAt A c)
theorem evens_len (A c : Int) (k : Nat) : (evens A c k).length = k := by simp [evens]
theorem evens_next (A c : Int) (k : Nat) : evens A c (k + 1) = evens A c k ++ [jointAt A c k] := by simp [evens, List.range_succ]
theorem jointAt_lt {A c : Int} {k : Nat} (h : (k : Int) < A % c) : jointAt A c k = A / c + 1 := if_pos h
theorem jointAt_ge {A c : Int} {k : Nat} (h : ¬ (k : Int) < A % c) : jointAt A c k = A / c := if_neg h
/-- What JointsEvenly returns. -/
def evenlyI (l d h j H c : Int) : List Int := if bedC l d h j H c = 0 then evens (H - c * h) c c.toNat else []
set_option maxHeartbeats 4000000 in
theorem jointsEvenly_any (l d h j H c : Int) (w : World) :
    Calls Tryd.prog 14 #[.agg #[.int .i64 l, .int .i64 d, .int .i64 h, .int .i64 j], .int .i64 H, .int .i64 c] w (NewI w (evenlyI l d h j H c) (bedC l d h j H c)) := by
  have HB := Lib.hid (bedCode_any l d h j H c)
  rcases bedC_cases l d h j H c with ⟨hc, g, g1, g2⟩ | hc
  · obtain ⟨_, _, _, _, h3, h4, _, _, _⟩ := fmtB_t g
    obtain ⟨s1, s2, s3, s4⟩ := storB_t g1
    obtain ⟨m1, m2⟩ := mul_bd (a := c) (b := h) (A := 40) (B := 150) (by omega) s4 (by omega) h4
    have HR := Lib.hid (show evenlyI l d h j H c = evens (H - c * h) c c.toNat from if_pos hc)
    rw [HR.out]
    rw [hc] at HB ⊢
    clear hc g g1 HR
    have q1 : 0 ≤ (H - c * h) / c := Int.ediv_nonneg (by omega) (by omega)
    have q2 : (H - c * h) / c ≤ H - c * h := Int.ediv_le_self _ (by omega)
    have HA := Lib.hid (rfl : evens (H - c * h) c c.toNat = evens (H - c * h) c c.toNat)
    obtain ⟨n, rfl⟩ := Int.eq_ofNat_of_zero_le (show 0 ≤ c by omega)
    rw [Int.toNat_natCast]
    obtain ⟨i0, hi, hi0, hi1, hi2⟩ := info_parts info_i64
    go_enter Tryd.func14, Tryd.ntmps14
    go_wp2_with fail
    refine (HB.out _).mono ?_
    rintro e1 w1 ⟨rfl, hb1⟩
    obtain ⟨hc1, hf1⟩ := bcell hb1
    have hz1 := hb1.size
    try simp at hz1
    have hz1_0 : w.heap.size < w1.heap.size := by omega
    have ha1 : Below w.heap.size w w1 := below_call (by repeat (first | exact Below.refl _ _ | assumption | refine Below.drew ?_ | refine below_drewN ?_ _ | refine Below.alloc ?_ (by first | omega | (simp; done) | (simp; omega)) _ | refine Below.setCell ?_ (by first | omega | (simp; done) | (simp; omega)) _)) hb1
    go_wp2_with fail
    clear hc1 hf1
    go_loopw [10, 11, 12, 28] (fun os _ _ i wr => ∃ k : Nat, k ≤ n ∧ i = .int .i64 (k : Int) ∧ OwnI wr w.heap.size os (evens (H - n * h) n k) ∧ Below w.heap.size w wr) (fun _ _ _ i _ => (n - intOf i).toNat)
    case atStart => exact ⟨0, by omega, rfl, ownI_empty _ _ (by omega), (by repeat (first | exact Below.refl _ _ | assumption | refine Below.drew ?_ | refine below_drewN ?_ _ | refine Below.alloc ?_ (by first | omega | (simp; done) | (simp; omega)) _ | refine Below.setCell ?_ (by first | omega | (simp; done) | (simp; omega)) _))⟩
    case round =>
      obtain ⟨k, hk, rfl, hO, hB⟩ := hrel
      have hz := hB.size
      have hOl := hO
      unfold OwnI at hOl
      rw [evens_len] at hOl
      by_cases hlt : k < n
      · have hlt' : (k : Int) < (n : Int) := by omega
        have HN := Lib.hid (evens_next (H - n * h) n k)
        have HO := Lib.hid hO
        have HL := Lib.hid (evens_len (H - n * h) n k)
        clear hO
        by_cases hx : (k : Int) < (H - n * h) % n
        · have HJ := Lib.hid (jointAt_lt hx)
          simp at hx
          go_wp2_with (at_builtin; refine wpList_append_own _ rfl _ _ 28 rfl w.heap.size 2 i0 (.int .i64 0) 1 8 Tryd.underlying28 hi hi0 hi1 hi2 rfl (by decide) _ _ _ rfl (hOl.alloc _) ⟨wr.heap.size, 0, none⟩ 1 1 [.int .i64 ((H - n * h) / n + 1)] rfl rfl ?c1 ?c2 ?c3 ?c4 ?c5 ?_)
          case c1 => exact cell_one_new _ _ _
          case c2 => simp [Value.oneCell']
          case c3 => unfold maxLen; omega
          case c4 => omega
          case c5 => simp; omega
          intro v' w1 hown1 hgrow1 _
          have hO1 := Lib.hid (OwnI.snoc hown1 (by rw [HL.out]))
          have hB1 := Lib.hid (below_append (hB.alloc hz _) (HO.out.alloc _) hgrow1)
          clear hown1 hgrow1 hOl
          go_wp2
          go_roundw
          case rel => exact ⟨k + 1, by omega, by go_num, by rw [HN.out, HJ.out]; exact hO1.out, hB1.out⟩
          case measure => simp [intOf]; omega
        · have HJ := Lib.hid (jointAt_ge hx)
          simp at hx
          go_wp2_with (at_builtin; refine wpList_append_own _ rfl _ _ 28 rfl w.heap.size 2 i0 (.int .i64 0) 1 8 Tryd.underlying28 hi hi0 hi1 hi2 rfl (by decide) _ _ _ rfl (hOl.alloc _) ⟨wr.heap.size, 0, none⟩ 1 1 [.int .i64 ((H - n * h) / n)] rfl rfl ?c1 ?c2 ?c3 ?c4 ?c5 ?_)
          case c1 => exact cell_one_new _ _ _
          case c2 => simp [Value.oneCell']
          case c3 => unfold maxLen; omega
          case c4 => omega
          case c5 => simp; omega
          intro v' w1 hown1 hgrow1 _
          have hO1 := Lib.hid (OwnI.snoc hown1 (by rw [HL.out]))
          have hB1 := Lib.hid (below_append (hB.alloc hz _) (HO.out.alloc _) hgrow1)
          clear hown1 hgrow1 hOl
          go_wp2
          go_roundw
          case rel => exact ⟨k + 1, by omega, by go_num, by rw [HN.out, HJ.out]; exact hO1.out, hB1.out⟩
          case measure => simp [intOf]; omega
      · obtain rfl : k = n := by omega
        have HO := Lib.hid (newI_mk (code := 0) hO hB)
        clear hO hOl
        go_wp2
        go_ret2
        exact HO.out
  · have HR := Lib.hid (show evenlyI l d h j H c = [] from if_neg hc)
    rw [HR.out]
    clear HR
    generalize bedC l d h j H c = x at *
    have hc1 : (x != 0) = true := by simpa using hc
    clear hc
    go_enter Tryd.func14, Tryd.ntmps14
    go_wp2_with fail
    refine (HB.out _).mono ?_
    rintro e1 w1 ⟨rfl, hb1⟩
    obtain ⟨hc1, hf1⟩ := bcell hb1
    have hz1 := hb1.size
    try simp at hz1
    have hz1_0 : w.heap.size < w1.heap.size := by omega
    have ha1 : Below w.heap.size w w1 := below_call (by repeat (first | exact Below.refl _ _ | assumption | refine Below.drew ?_ | refine below_drewN ?_ _ | refine Below.alloc ?_ (by first | omega | (simp; done) | (simp; omega)) _ | refine Below.setCell ?_ (by first | omega | (simp; done) | (simp; omega)) _)) hb1
    go_wp2
    go_ret2
    exact newI_mk (ownI_nil _ _) (by repeat (first | exact Below.refl _ _ | assumption | refine Below.drew ?_ | refine below_drewN ?_ _ | refine Below.alloc ?_ (by first | omega | (simp; done) | (simp; omega)) _ | refine Below.setCell ?_ (by first | omega | (simp; done) | (simp; omega)) _))
set_option maxHeartbeats 4000000 in
theorem specJointsEvenly_any (l d h j H c : Int) (w : World) :
    Calls Tryd.prog 15 #[.agg #[.int .i64 l, .int .i64 d, .int .i64 h, .int .i64 j], .int .i64 H, .int .i64 c] w (NewI w (evenlyI l d h j H c) (bedC l d h j H c)) := by
  have HB := Lib.hid (l10Bed_any l d h j H c)
  rcases bedC_cases l d h j H c with ⟨hc, g, g1, g2⟩ | hc
  · obtain ⟨_, _, _, _, h3, h4, _, _, _⟩ := fmtB_t g
    obtain ⟨s1, s2, s3, s4⟩ := storB_t g1
    obtain ⟨m1, m2⟩ := mul_bd (a := c) (b := h) (A := 40) (B := 150) (by omega) s4 (by omega) h4
    have HR := Lib.hid (show evenlyI l d h j H c = evens (H - c * h) c c.toNat from if_pos hc)
    rw [HR.out]
    rw [hc] at HB ⊢
    clear hc g g1 HR
    have q1 : 0 ≤ (H - c * h) / c := Int.ediv_nonneg (by omega) (by omega)
    have q2 : (H - c * h) / c ≤ H - c * h := Int.ediv_le_self _ (by omega)
    have HA := Lib.hid (rfl : evens (H - c * h) c c.toNat = evens (H - c * h) c c.toNat)
    obtain ⟨n, rfl⟩ := Int.eq_ofNat_of_zero_le (show 0 ≤ c by omega)
    rw [Int.toNat_natCast]
    obtain ⟨i0, hi, hi0, hi1, hi2⟩ := info_parts info_i64
    go_enter Tryd.func15, Tryd.ntmps15
    go_wp2_with fail
    refine (HB.out _).mono ?_
    rintro e1 w1 ⟨rfl, hb1⟩
    obtain ⟨hc1, hf1⟩ := bcell hb1
    have hz1 := hb1.size
    try simp at hz1
    have hz1_0 : w.heap.size < w1.heap.size := by omega
    have ha1 : Below w.heap.size w w1 := below_call (by repeat (first | exact Below.refl _ _ | assumption | refine Below.drew ?_ | refine below_drewN ?_ _ | refine Below.alloc ?_ (by first | omega | (simp; done) | (simp; omega)) _ | refine Below.setCell ?_ (by first | omega | (simp; done) | (simp; omega)) _)) hb1
    go_wp2_with fail
    clear hc1 hf1
    go_loopw [9, 11, 12] (fun os i _ wr => ∃ k : Nat, k ≤ n ∧ i = .int .i64 (k : Int) ∧ OwnI wr w.heap.size os (evens (H - n * h) n k) ∧ Below w.heap.size w wr) (fun _ i _ _ => (n - intOf i).toNat)
    case atStart => exact ⟨0, by omega, rfl, ownI_empty _ _ (by omega), (by repeat (first | exact Below.refl _ _ | assumption | refine Below.drew ?_ | refine below_drewN ?_ _ | refine Below.alloc ?_ (by first | omega | (simp; done) | (simp; omega)) _ | refine Below.setCell ?_ (by first | omega | (simp; done) | (simp; omega)) _))⟩
    case round =>
      obtain ⟨k, hk, rfl, hO, hB⟩ := hrel
      have hz := hB.size
      have hOl := hO
      unfold OwnI at hOl
      rw [evens_len] at hOl
      by_cases hlt : k < n
      · have hlt' : (k : Int) < (n : Int) := by omega
        have HN := Lib.hid (evens_next (H - n * h) n k)
        have HO := Lib.hid hO
        have HL := Lib.hid (evens_len (H - n * h) n k)
        clear hO
        by_cases hx : (k : Int) < (H - n * h) % n
        · have HJ := Lib.hid (jointAt_lt hx)
          simp at hx
          go_wp2_with (at_builtin; refine wpList_append_own _ rfl _ _ 28 rfl w.heap.size 2 i0 (.int .i64 0) 1 8 Tryd.underlying28 hi hi0 hi1 hi2 rfl (by decide) _ _ _ rfl (hOl.alloc _) ⟨wr.heap.size, 0, none⟩ 1 1 [.int .i64 ((H - n * h) / n + 1)] rfl rfl ?c1 ?c2 ?c3 ?c4 ?c5 ?_)
          case c1 => exact cell_one_new _ _ _
          case c2 => simp [Value.oneCell']
          case c3 => unfold maxLen; omega
          case c4 => omega
          case c5 => simp; omega
          intro v' w1 hown1 hgrow1 _
          have hO1 := Lib.hid (OwnI.snoc hown1 (by rw [HL.out]))
          have hB1 := Lib.hid (below_append (hB.alloc hz _) (HO.out.alloc _) hgrow1)
          clear hown1 hgrow1 hOl
          go_wp2
          go_roundw
          case rel => exact ⟨k + 1, by omega, by go_num, by rw [HN.out, HJ.out]; exact hO1.out, hB1.out⟩
          case measure => simp [intOf]; omega
        · have HJ := Lib.hid (jointAt_ge hx)
          simp at hx
          go_wp2_with (at_builtin; refine wpList_append_own _ rfl _ _ 28 rfl w.heap.size 2 i0 (.int .i64 0) 1 8 Tryd.underlying28 hi hi0 hi1 hi2 rfl (by decide) _ _ _ rfl (hOl.alloc _) ⟨wr.heap.size, 0, none⟩ 1 1 [.int .i64 ((H - n * h) / n)] rfl rfl ?c1 ?c2 ?c3 ?c4 ?c5 ?_)
          case c1 => exact cell_one_new _ _ _
          case c2 => simp [Value.oneCell']
          case c3 => unfold maxLen; omega
          case c4 => omega
          case c5 => simp; omega
          intro v' w1 hown1 hgrow1 _
          have hO1 := Lib.hid (OwnI.snoc hown1 (by rw [HL.out]))
          have hB1 := Lib.hid (below_append (hB.alloc hz _) (HO.out.alloc _) hgrow1)
          clear hown1 hgrow1 hOl
          go_wp2
          go_roundw
          case rel => exact ⟨k + 1, by omega, by go_num, by rw [HN.out, HJ.out]; exact hO1.out, hB1.out⟩
          case measure => simp [intOf]; omega
      · obtain rfl : k = n := by omega
        have HO := Lib.hid (newI_mk (code := 0) hO hB)
        clear hO hOl
        go_wp2
        go_ret2
        exact HO.out
  · have HR := Lib.hid (show evenlyI l d h j H c = [] from if_neg hc)
    rw [HR.out]
    clear HR
    generalize bedC l d h j H c = x at *
    have hc1 : (x != 0) = true := by simpa using hc
    clear hc
    go_enter Tryd.func15, Tryd.ntmps15
    go_wp2_with fail
    refine (HB.out _).mono ?_
    rintro e1 w1 ⟨rfl, hb1⟩
    obtain ⟨hc1, hf1⟩ := bcell hb1
    have hz1 := hb1.size
    try simp at hz1
    have hz1_0 : w.heap.size < w1.heap.size := by omega
    have ha1 : Below w.heap.size w w1 := below_call (by repeat (first | exact Below.refl _ _ | assumption | refine Below.drew ?_ | refine below_drewN ?_ _ | refine Below.alloc ?_ (by first | omega | (simp; done) | (simp; omega)) _ | refine Below.setCell ?_ (by first | omega | (simp; done) | (simp; omega)) _)) hb1
    go_wp2
    go_ret2
    exact newI_mk (ownI_nil _ _) (by repeat (first | exact Below.refl _ _ | assumption | refine Below.drew ?_ | refine below_drewN ?_ _ | refine Below.alloc ?_ (by first | omega | (simp; done) | (simp; omega)) _ | refine Below.setCell ?_ (by first | omega | (simp; done) | (simp; omega)) _))
theorem evenlyI_len (l d h j H c : Int) : (evenlyI l d h j H c).length ≤ 1000000 := by
  unfold evenlyI
  rcases bedC_cases l d h j H c with ⟨hc, g, g1, g2⟩ | hc
  · obtain ⟨s1, s2, s3, s4⟩ := storB_t g1
    rw [if_pos hc, evens_len]; omega
  · rw [if_neg hc]; simp
end Go.Proofs.YtgpcehokdfehjaaDoor
