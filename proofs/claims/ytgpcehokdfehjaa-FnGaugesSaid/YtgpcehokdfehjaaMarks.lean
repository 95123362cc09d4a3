/- Contracts of the functions on marks (markOf, nearestMark, levelsOff, StepsBetween, LevelsOff and their twins of the reference): what each call returns; no old memory turns. -/
import Derived.Test.YtgpcehokdfehjaaLevels
namespace Go.Proofs.Ytgpcehokdfehjaa
open Go.RowKit

/-- A number over another, rounded to the nearest integer. -/
def rndI (n d : Int) : Int := (2 * n + d) / (2 * d)
set_option maxHeartbeats 400000 in
theorem rounded_any (n d : Int) (w : World) (h1 : 0 ≤ n) (h2 : n ≤ 1000000000000000000) (h3 : 1 ≤ d) (h4 : d ≤ 1000000000000000000) :
    Calls Try.prog 53 #[.int .i64 n, .int .i64 d] w fun e w' => e = .returned (.int .i64 (rndI n d)) ∧ w = w' := by
  have HR := Lib.hid (show rndI n d = (2 * n + d) / (2 * d) from rfl)
  go_enter Try.func53, Try.ntmps53
  go_wp2
  go_ret
  exact ⟨ret_int (by rw [HR.out]), rfl⟩
/-- A mark. -/
def markI (H c k : Int) : Int := rndI (k * H) c
theorem rnd_bd {n d : Int} (h1 : 0 ≤ n) (h3 : 1 ≤ d) : 0 ≤ rndI n d ∧ rndI n d ≤ 2 * n + d := by
  unfold rndI
  exact ⟨Int.ediv_nonneg (by omega) (by omega), Int.ediv_le_self _ (by omega)⟩
theorem mark_bd {H c k : Int} (h1 : 0 ≤ H) (h2 : H ≤ 6000) (c1 : 1 ≤ c) (c2 : c ≤ 40) (k1 : 0 ≤ k) (k2 : k ≤ 40) : 0 ≤ markI H c k ∧ markI H c k ≤ 1000000 := by
  obtain ⟨m1, m2⟩ := mul_bd (a := k) (b := H) (A := 40) (B := 6000) k1 k2 h1 h2
  obtain ⟨r1, r2⟩ := rnd_bd (n := k * H) (d := c) m1 c1
  unfold markI
  omega
set_option maxHeartbeats 400000 in
theorem markOf_any (H c k : Int) (w : World) (h1 : 0 ≤ H) (h2 : H ≤ 6000) (c1 : 1 ≤ c) (c2 : c ≤ 40) (k1 : 0 ≤ k) (k2 : k ≤ 40) :
    Calls Try.prog 74 #[.int .i64 H, .int .i64 c, .int .i64 k] w fun e w' => e = .returned (.int .i64 (markI H c k)) ∧ w = w' := by
  obtain ⟨m1, m2⟩ := mul_bd (a := k) (b := H) (A := 40) (B := 6000) k1 k2 h1 h2
  go_enter Try.func74, Try.ntmps74
  go_wp2_with fail
  refine (rounded_any _ _ _ (by omega) (by omega) (by omega) (by omega)).mono ?_
  rintro e1 w1 ⟨rfl, rfl⟩
  go_wp2
  go_ret
  exact ⟨rfl, rfl⟩
set_option maxHeartbeats 400000 in
theorem l10Mark_any (H c k : Int) (w : World) (h1 : 0 ≤ H) (h2 : H ≤ 6000) (c1 : 1 ≤ c) (c2 : c ≤ 40) (k1 : 0 ≤ k) (k2 : k ≤ 40) :
    Calls Try.prog 72 #[.int .i64 H, .int .i64 c, .int .i64 k] w fun e w' => e = .returned (.int .i64 (markI H c k)) ∧ w = w' := by
  obtain ⟨m1, m2⟩ := mul_bd (a := 2 * k) (b := H) (A := 80) (B := 6000) (by omega) (by omega) h1 h2
  have HR := Lib.hid (show markI H c k = (2 * k * H + c) / (2 * c) by unfold markI rndI; rw [Int.mul_assoc])
  go_enter Try.func72, Try.ntmps72
  go_wp2
  go_ret
  exact ⟨ret_int (by rw [HR.out]), rfl⟩
/-- How far a mark is from a level. -/
def farI (H c v k : Int) : Int := ((markI H c k - v).natAbs : Int)
/-- The first of the marks 0 .. n that is nearest to a level. -/
def nearK (H c v : Int) : Nat → Int
  | 0 => 0
  | n + 1 => if farI H c v ((n : Int) + 1) < farI H c v (nearK H c v n) then (n : Int) + 1 else nearK H c v n
theorem nearK_bd (H c v : Int) (n : Nat) : 0 ≤ nearK H c v n ∧ nearK H c v n ≤ n := by
  induction n with
  | zero => simp [nearK]
  | succ n ih => unfold nearK; split <;> omega
theorem nearK_yes {H c v : Int} {n : Nat} (h : farI H c v ((n : Int) + 1) < farI H c v (nearK H c v n)) : nearK H c v (n + 1) = (n : Int) + 1 := if_pos h
theorem nearK_no {H c v : Int} {n : Nat} (h : ¬ farI H c v ((n : Int) + 1) < farI H c v (nearK H c v n)) : nearK H c v (n + 1) = nearK H c v n := if_neg h
def nearI (H c v : Int) : Int := nearK H c v c.toNat
def lvOff (H c v : Int) : Int := farI H c v (nearI H c v)
set_option maxHeartbeats 2000000 in
theorem nearestMark_any (H c v : Int) (w : World) (h1 : 0 ≤ H) (h2 : H ≤ 6000) (c1 : 1 ≤ c) (c2 : c ≤ 40) (v1 : 0 ≤ v) (v2 : v ≤ 6000) :
    Calls Try.prog 75 #[.int .i64 H, .int .i64 c, .int .i64 v] w fun e w' => e = .returned (.int .i64 (nearI H c v)) ∧ w = w' := by
  obtain ⟨n, rfl⟩ := Int.eq_ofNat_of_zero_le (show 0 ≤ c by omega)
  have HR := Lib.hid (show nearI H n v = nearK H n v n by simp [nearI])
  have HZ := Lib.hid (show nearK H n v 0 = 0 from rfl)
  go_enter Try.func75, Try.ntmps75
  go_wp2_with fail
  go_loop [7, 8] (fun b i => ∃ k : Nat, k ≤ n ∧ i = .int .i64 ((k : Int) + 1) ∧ b = .int .i64 (nearK H n v k)) (fun _ i => (n + 1 - intOf i).toNat)
  case atStart => exact ⟨0, by omega, rfl, by rw [HZ.out]⟩
  case round =>
    obtain ⟨k, hk, rfl, rfl⟩ := hrel
    by_cases hlt : k < n
    · have hlt' : (k : Int) + 1 ≤ (n : Int) := by omega
      obtain ⟨n1, n2⟩ := nearK_bd H n v k
      obtain ⟨x1, x2⟩ := mark_bd (k := (k : Int) + 1) h1 h2 c1 c2 (by omega) (by omega)
      obtain ⟨y1, y2⟩ := mark_bd (k := nearK H n v k) h1 h2 c1 c2 (by omega) (by omega)
      have FX := Lib.hid (show ((markI H n ((k : Int) + 1) - v).natAbs : Int) = farI H n v ((k : Int) + 1) from rfl)
      have FY := Lib.hid (show ((markI H n (nearK H n v k) - v).natAbs : Int) = farI H n v (nearK H n v k) from rfl)
      by_cases hf : farI H n v ((k : Int) + 1) < farI H n v (nearK H n v k)
      · have HN := Lib.hid (nearK_yes hf)
        generalize nearK H n v k = b at *
        go_wp2_with fail
        refine (markOf_any _ _ _ _ h1 h2 c1 c2 (by omega) (by omega)).mono ?_
        rintro e1 w1 ⟨rfl, rfl⟩
        go_wp2_with fail
        refine (apart_any _ _ _ (by omega) (by omega) (by omega) (by omega)).mono ?_
        rintro e2 w2 ⟨rfl, rfl⟩
        rw [FX.out]
        go_wp2_with fail
        refine (markOf_any _ _ _ _ h1 h2 c1 c2 (by omega) (by omega)).mono ?_
        rintro e3 w3 ⟨rfl, rfl⟩
        go_wp2_with fail
        refine (apart_any _ _ _ (by omega) (by omega) (by omega) (by omega)).mono ?_
        rintro e4 w4 ⟨rfl, rfl⟩
        rw [FY.out]
        go_wp2
        go_round
        case rel => exact ⟨k + 1, by omega, by go_num, by rw [HN.out]⟩
        case measure => simp [intOf]; omega
      · have HN := Lib.hid (nearK_no hf)
        generalize nearK H n v k = b at *
        go_wp2_with fail
        refine (markOf_any _ _ _ _ h1 h2 c1 c2 (by omega) (by omega)).mono ?_
        rintro e1 w1 ⟨rfl, rfl⟩
        go_wp2_with fail
        refine (apart_any _ _ _ (by omega) (by omega) (by omega) (by omega)).mono ?_
        rintro e2 w2 ⟨rfl, rfl⟩
        rw [FX.out]
        go_wp2_with fail
        refine (markOf_any _ _ _ _ h1 h2 c1 c2 (by omega) (by omega)).mono ?_
        rintro e3 w3 ⟨rfl, rfl⟩
        go_wp2_with fail
        refine (apart_any _ _ _ (by omega) (by omega) (by omega) (by omega)).mono ?_
        rintro e4 w4 ⟨rfl, rfl⟩
        rw [FY.out]
        go_wp2
        go_round
        case rel => exact ⟨k + 1, by omega, by go_num, by rw [HN.out]⟩
        case measure => simp [intOf]; omega
    · obtain rfl : k = n := by omega
      have hlt' : ¬ (k : Int) + 1 ≤ (k : Int) := by omega
      clear hlt
      go_wp2
      go_ret
      exact ⟨ret_int (by rw [HR.out]), rfl⟩
set_option maxHeartbeats 2000000 in
theorem l10Nearest_any (H c v : Int) (w : World) (h1 : 0 ≤ H) (h2 : H ≤ 6000) (c1 : 1 ≤ c) (c2 : c ≤ 40) (v1 : 0 ≤ v) (v2 : v ≤ 6000) :
    Calls Try.prog 73 #[.int .i64 H, .int .i64 c, .int .i64 v] w fun e w' => e = .returned (.int .i64 (nearI H c v)) ∧ w = w' := by
  obtain ⟨n, rfl⟩ := Int.eq_ofNat_of_zero_le (show 0 ≤ c by omega)
  have HR := Lib.hid (show nearI H n v = nearK H n v n by simp [nearI])
  have HZ := Lib.hid (show nearK H n v 0 = 0 from rfl)
  go_enter Try.func73, Try.ntmps73
  go_wp2_with fail
  go_loop [7, 8] (fun b i => ∃ k : Nat, k ≤ n ∧ i = .int .i64 ((k : Int) + 1) ∧ b = .int .i64 (nearK H n v k)) (fun _ i => (n + 1 - intOf i).toNat)
  case atStart => exact ⟨0, by omega, rfl, by rw [HZ.out]⟩
  case round =>
    obtain ⟨k, hk, rfl, rfl⟩ := hrel
    by_cases hlt : k < n
    · have hlt' : (k : Int) + 1 ≤ (n : Int) := by omega
      obtain ⟨n1, n2⟩ := nearK_bd H n v k
      obtain ⟨x1, x2⟩ := mark_bd (k := (k : Int) + 1) h1 h2 c1 c2 (by omega) (by omega)
      obtain ⟨y1, y2⟩ := mark_bd (k := nearK H n v k) h1 h2 c1 c2 (by omega) (by omega)
      have FX := Lib.hid (show ((markI H n ((k : Int) + 1) - v).natAbs : Int) = farI H n v ((k : Int) + 1) from rfl)
      have FY := Lib.hid (show ((markI H n (nearK H n v k) - v).natAbs : Int) = farI H n v (nearK H n v k) from rfl)
      by_cases hf : farI H n v ((k : Int) + 1) < farI H n v (nearK H n v k)
      · have HN := Lib.hid (nearK_yes hf)
        generalize nearK H n v k = b at *
        go_wp2_with fail
        refine (l10Mark_any _ _ _ _ h1 h2 c1 c2 (by omega) (by omega)).mono ?_
        rintro e1 w1 ⟨rfl, rfl⟩
        go_wp2_with fail
        refine (l02Size_any _ _ (by omega) (by omega)).mono ?_
        rintro e2 w2 ⟨rfl, rfl⟩
        rw [FX.out]
        go_wp2_with fail
        refine (l10Mark_any _ _ _ _ h1 h2 c1 c2 (by omega) (by omega)).mono ?_
        rintro e3 w3 ⟨rfl, rfl⟩
        go_wp2_with fail
        refine (l02Size_any _ _ (by omega) (by omega)).mono ?_
        rintro e4 w4 ⟨rfl, rfl⟩
        rw [FY.out]
        go_wp2
        go_round
        case rel => exact ⟨k + 1, by omega, by go_num, by rw [HN.out]⟩
        case measure => simp [intOf]; omega
      · have HN := Lib.hid (nearK_no hf)
        generalize nearK H n v k = b at *
        go_wp2_with fail
        refine (l10Mark_any _ _ _ _ h1 h2 c1 c2 (by omega) (by omega)).mono ?_
        rintro e1 w1 ⟨rfl, rfl⟩
        go_wp2_with fail
        refine (l02Size_any _ _ (by omega) (by omega)).mono ?_
        rintro e2 w2 ⟨rfl, rfl⟩
        rw [FX.out]
        go_wp2_with fail
        refine (l10Mark_any _ _ _ _ h1 h2 c1 c2 (by omega) (by omega)).mono ?_
        rintro e3 w3 ⟨rfl, rfl⟩
        go_wp2_with fail
        refine (l02Size_any _ _ (by omega) (by omega)).mono ?_
        rintro e4 w4 ⟨rfl, rfl⟩
        rw [FY.out]
        go_wp2
        go_round
        case rel => exact ⟨k + 1, by omega, by go_num, by rw [HN.out]⟩
        case measure => simp [intOf]; omega
    · obtain rfl : k = n := by omega
      have hlt' : ¬ (k : Int) + 1 ≤ (k : Int) := by omega
      clear hlt
      go_wp2
      go_ret
      exact ⟨ret_int (by rw [HR.out]), rfl⟩
theorem lvOff_bd {H c v : Int} (h1 : 0 ≤ H) (h2 : H ≤ 6000) (c1 : 1 ≤ c) (c2 : c ≤ 40) (v1 : 0 ≤ v) (v2 : v ≤ 6000) : 0 ≤ lvOff H c v ∧ lvOff H c v ≤ 1000000 := by
  obtain ⟨n, rfl⟩ := Int.eq_ofNat_of_zero_le (show 0 ≤ c by omega)
  have hn : nearI H n v = nearK H n v n := by simp [nearI]
  obtain ⟨n1, n2⟩ := nearK_bd H n v n
  obtain ⟨x1, x2⟩ := mark_bd (k := nearI H n v) h1 h2 c1 c2 (by omega) (by omega)
  unfold lvOff farI
  omega
set_option maxHeartbeats 400000 in
theorem l10Off_any (H c v : Int) (w : World) (h1 : 0 ≤ H) (h2 : H ≤ 6000) (c1 : 1 ≤ c) (c2 : c ≤ 40) (v1 : 0 ≤ v) (v2 : v ≤ 6000) :
    Calls Try.prog 55 #[.int .i64 H, .int .i64 c, .int .i64 v] w fun e w' => e = .returned (.int .i64 (lvOff H c v)) ∧ w = w' := by
  have hb : 0 ≤ nearI H c v ∧ nearI H c v ≤ c := by
    obtain ⟨n, rfl⟩ := Int.eq_ofNat_of_zero_le (show 0 ≤ c by omega)
    have hn : nearI H n v = nearK H n v n := by simp [nearI]
    rw [hn]; exact nearK_bd H n v n
  obtain ⟨n1, n2⟩ := hb
  obtain ⟨x1, x2⟩ := mark_bd (k := nearI H c v) h1 h2 c1 c2 n1 (by omega)
  have HR := Lib.hid (show lvOff H c v = ((markI H c (nearI H c v) - v).natAbs : Int) from rfl)
  go_enter Try.func55, Try.ntmps55
  go_wp2_with fail
  refine (l10Nearest_any _ _ _ _ h1 h2 c1 c2 v1 v2).mono ?_
  rintro e1 w1 ⟨rfl, rfl⟩
  go_wp2_with fail
  refine (l10Mark_any _ _ _ _ h1 h2 c1 c2 n1 (by omega)).mono ?_
  rintro e2 w2 ⟨rfl, rfl⟩
  go_wp2_with fail
  refine (l02Size_any _ _ (by omega) (by omega)).mono ?_
  rintro e3 w3 ⟨rfl, rfl⟩
  rw [← HR.out]
  go_wp2
  go_ret
  exact ⟨rfl, rfl⟩
/-- How far levels are from the marks. -/
def offs (H c : Int) (zs : List Int) : List Int := zs.map (lvOff H c)
set_option maxHeartbeats 4000000 in
theorem levelsOff_any (H c : Int) (a : Option Addr) (len cap : Nat) (zs : List Int) (w : World) (h1 : 0 ≤ H) (h2 : H ≤ 6000) (c1 : 1 ≤ c) (c2 : c ≤ 40) (hin : insB zs 1 (H - 1) = true) (hlen : len ≤ 20) (h : IsRow .i64 w a len cap zs) :
    Calls Try.prog 56 #[.int .i64 H, .int .i64 c, .slice a len cap] w (NewL w (offs H c zs)) := by
  have hl := h.1
  have HZ := Lib.hid h
  have HL := Lib.hid hl
  have HV := Lib.hid (insB_t hin)
  have HM := Lib.hid (fun k (hk : k < len) => map_take_next (f := lvOff H c) (zs := zs) (k := k) (by rw [hl]; exact hk))
  have HK := Lib.hid (fun k (hk : k ≤ len) => map_take_len (f := lvOff H c) (zs := zs) (k := k) (by rw [hl]; exact hk))
  have HA := Lib.hid (show (zs.take len).map (lvOff H c) = offs H c zs by rw [← hl, List.take_length]; rfl)
  clear h hl hin
  obtain ⟨i0, hi, hi0, hi1, hi2⟩ := info_parts info_i64
  go_enter Try.func56, Try.ntmps56
  go_wp2_with fail
  go_loopw [7, 9, 13] (fun os _ i wr => ∃ k : Nat, k ≤ len ∧ i = .int .i64 (k : Int) ∧ OwnI wr w.heap.size os ((zs.take k).map (lvOff H c)) ∧ Below w.heap.size w wr) (fun _ _ i _ => (len - intOf i).toNat)
  case atStart => exact ⟨0, by omega, rfl, ownI_empty _ _ (by omega), (by repeat (first | exact Below.refl _ _ | assumption | refine Below.drew ?_ | refine below_drewN ?_ _ | refine Below.alloc ?_ (by first | omega | (simp; done) | (simp; omega)) _ | refine Below.setCell ?_ (by first | omega | (simp; done) | (simp; omega)) _))⟩
  case round =>
    obtain ⟨k, hk, rfl, hO, hB⟩ := hrel
    have hz := hB.size
    by_cases hlt : k < len
    · have hlt' : (k : Int) < (len : Int) := by omega
      obtain ⟨b, o, rfl, hb, hc⟩ := (HZ.out.below hB).cell hlt
      obtain ⟨v1, v2⟩ := HV.out k (by rw [HL.out]; exact hlt)
      have HN := Lib.hid (HM.out k hlt)
      have HP := Lib.hid (HK.out k hk)
      generalize (zs.take k).map (lvOff H c) = P at *
      have HO := Lib.hid hO
      have hOl := hO
      unfold OwnI at hOl
      rw [HP.out] at hOl
      clear hO
      generalize zs.getD k 0 = x at *
      have hbd : 0 ≤ nearI H c x ∧ nearI H c x ≤ c := by
        obtain ⟨n, hn'⟩ := Int.eq_ofNat_of_zero_le (show 0 ≤ c by omega)
        have hn : nearI H c x = nearK H c x n := by simp [nearI, hn']
        rw [hn]; have := nearK_bd H c x n; omega
      obtain ⟨n1, n2⟩ := hbd
      obtain ⟨x1, x2⟩ := mark_bd (k := nearI H c x) h1 h2 c1 c2 n1 (by omega)
      have HR := Lib.hid (show ((x - markI H c (nearI H c x)).natAbs : Int) = lvOff H c x by show _ = ((markI H c (nearI H c x) - x).natAbs : Int); omega)
      go_wp2_with fail
      refine (nearestMark_any _ _ _ _ h1 h2 c1 c2 (by omega) (by omega)).mono ?_
      rintro e1 w1 ⟨rfl, rfl⟩
      go_wp2_with fail
      refine (markOf_any _ _ _ _ h1 h2 c1 c2 n1 (by omega)).mono ?_
      rintro e2 w2 ⟨rfl, rfl⟩
      go_wp2_with fail
      refine (apart_any _ _ _ (by omega) (by omega) (by omega) (by omega)).mono ?_
      rintro e3 w3 ⟨rfl, rfl⟩
      rw [HR.out]
      go_wp2_with (at_builtin; refine wpList_append_own _ rfl _ _ 35 rfl w.heap.size 2 i0 (.int .i64 0) 1 8 Try.underlying35 hi hi0 hi1 hi2 rfl (by decide) _ _ _ rfl (hOl.alloc _) ⟨wr.heap.size, 0, none⟩ 1 1 [.int .i64 (lvOff H c x)] rfl rfl ?c1 ?c2 ?c3 ?c4 ?c5 ?_)
      case c1 => exact cell_one_new _ _ _
      case c2 => simp [Value.oneCell']
      case c3 => unfold maxLen; omega
      case c4 => omega
      case c5 => simp; omega
      intro v' w1' hown1 hgrow1 _
      have hO1 := Lib.hid (OwnI.snoc hown1 (by rw [HP.out]))
      have hB1 := Lib.hid (below_append (hB.alloc hz _) (HO.out.alloc _) hgrow1)
      clear hown1 hgrow1 hOl
      go_wp2
      go_roundw
      case rel => exact ⟨k + 1, by omega, by go_num, by rw [HN.out]; exact hO1.out, hB1.out⟩
      case measure => simp [intOf]; omega
    · obtain rfl : k = len := by omega
      have HO := Lib.hid (newL_mk hO hB)
      clear hO
      go_wp2
      go_ret
      rw [← HA.out]
      exact HO.out
end Go.Proofs.Ytgpcehokdfehjaa
