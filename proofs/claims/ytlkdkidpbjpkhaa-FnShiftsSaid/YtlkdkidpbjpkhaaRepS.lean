/- Contracts of RepeatTile, program and reference; no old memory turns; condition: the slice can be read. -/
import Derived.Test.YtlkdkidpbjpkhaaShT
import Derived.Test.YtlkdkidpbjpkhaaShelfR
namespace Go.Proofs.Ytlkdkidpbjpkhaa
set_option linter.unusedVariables false
open Go.RowKit

/-- A row again and again. -/
def rpS (c : Nat) (s : ByteArray) : ByteArray := ⟨(Lib.repeatL s.data.toList c).toArray⟩
theorem rpS_size (c : Nat) (s : ByteArray) : (rpS c s).size = c * s.size := by
  show (Lib.repeatL s.data.toList c).toArray.size = c * s.data.size
  rw [List.size_toArray, Lib.repeatL_length]; simp
theorem rpS_zero (s : ByteArray) : rpS 0 s = ByteArray.empty := rfl
theorem rpS_next (c : Nat) (s : ByteArray) : rpS c s ++ s = rpS (c + 1) s := by
  unfold rpS
  rw [Lib.repeatL_add, Lib.repeatL_one]
  apply ByteArray.ext
  rw [ByteArray.data_append]
  simp
/-- The rows of so many tiles, and of one tile's first rows behind them. -/
def rpU (ss : List ByteArray) (c : Nat) : Nat → List ByteArray
  | 0 => []
  | k + 1 => rpU ss c k ++ ss.map (rpS c)
def rpR (ss : List ByteArray) (c k y : Nat) : List ByteArray := rpU ss c k ++ (ss.take y).map (rpS c)
theorem rpR_zero (ss : List ByteArray) (c k : Nat) : rpR ss c k 0 = rpU ss c k := by simp [rpR]
theorem rpR_all (ss : List ByteArray) (c k : Nat) : rpR ss c k ss.length = rpU ss c (k + 1) := by simp [rpR, rpU]
theorem rpR_next {ss : List ByteArray} {c k y : Nat} (h : y < ss.length) : rpR ss c k (y + 1) = rpR ss c k y ++ [rpS c (ss.getD y ByteArray.empty)] := by
  unfold rpR
  rw [List.take_succ_eq_append_getElem h, List.map_append, List.getD_eq_getElem?_getD, List.getElem?_eq_getElem h, List.append_assoc]; rfl
theorem rpU_len (ss : List ByteArray) (c k : Nat) : (rpU ss c k).length = k * ss.length := by
  induction k with
  | zero => simp [rpU]
  | succ k ih => simp [rpU, ih, Nat.succ_mul]
theorem rpR_len {ss : List ByteArray} {c k y : Nat} (h : y ≤ ss.length) : (rpR ss c k y).length = k * ss.length + y := by
  unfold rpR; rw [List.length_append, rpU_len]; simp; omega
theorem rpU_size {ss : List ByteArray} {c k : Nat} (h : ∀ s ∈ ss, s.size ≤ 24) (hc : c ≤ 1000) : ∀ s ∈ rpU ss c k, s.size ≤ maxLen := by
  induction k with
  | zero => intro s hs; cases hs
  | succ k ih =>
    intro s hs
    rcases List.mem_append.1 hs with h1 | h1
    · exact ih s h1
    · obtain ⟨t, ht, rfl⟩ := List.mem_map.1 h1
      rw [rpS_size]
      have := Nat.mul_le_mul hc (h t ht)
      unfold maxLen; omega
theorem small_get {ss : List ByteArray} (h : ∀ s ∈ ss, s.size ≤ 24) (i : Nat) : (ss.getD i ByteArray.empty).size ≤ 24 := by
  rw [List.getD_eq_getElem?_getD]
  rcases hi : ss[i]? with _ | s
  · simp
  · exact h s (List.mem_of_getElem? hi)
theorem pat_small {ss : List ByteArray} (h : patB ss = true) : ∀ s ∈ ss, s.size ≤ 24 := fun s hs => by
  obtain ⟨v1, v2, v3, v4, v5⟩ := patB_t h
  obtain ⟨i, hi, rfl⟩ := List.mem_iff_getElem.1 hs
  have := (v5 i hi).1
  rw [List.getD_eq_getElem?_getD, List.getElem?_eq_getElem hi] at this
  have e : (some ss[i]).getD ByteArray.empty = ss[i] := rfl
  rw [e] at this; omega
set_option maxRecDepth 100000 in
set_option maxHeartbeats 4000000 in
theorem l14Repeat_any (a : Option Addr) (len cap : Nat) (ss : List ByteArray) (A U : Nat) (w : World) (h : IsStrs w a len cap ss) (hs : ∀ s ∈ ss, s.size ≤ 24) (hlen : len ≤ 24) (hA : A ≤ 1000) (hU : U ≤ 1000) :
    Calls Try.prog 69 #[.slice a len cap, .int .i64 (A : Int), .int .i64 (U : Int)] w (NewS w (rpU ss A U)) := by
  have hl := h.1
  have HSM := Lib.hid (fun i => small_get hs i)
  have HNX := Lib.hid (fun k y (hy : y < len) => rpR_next (ss := ss) (c := A) (k := k) (y := y) (by rw [hl]; exact hy))
  have HLN := Lib.hid (fun k y (hy : y ≤ len) => (rpR_len (ss := ss) (c := A) (k := k) (y := y) (by rw [hl]; exact hy)).trans (by rw [hl]))
  have HR0 := Lib.hid (fun k => rpR_zero ss A k)
  have HRA : Hid (∀ k, rpR ss A k len = rpU ss A (k + 1)) := Lib.hid (fun k => by rw [← hl]; exact rpR_all ss A k)
  have HU0 : Hid (rpU ss A 0 = []) := Lib.hid rfl
  have HKL := Lib.hid (fun k (hk : k ≤ U) => Nat.mul_le_mul hk hlen)
  have H := Lib.hid h
  obtain ⟨i0, hi, hi0, hi1, hi2⟩ := info_parts info_str
  clear h hl hs
  go_enter Try.func69, Try.ntmps69
  go_wp2_with fail
  go_loopw [7, 8, 9, 10, 11] (fun os i _ _ _ wr => ∃ (k : Nat) (vo : Value), k ≤ U ∧ vo = os ∧ i = .int .i64 (k : Int) ∧ OwnS wr w.heap.size vo (rpU ss A k) ∧ Below w.heap.size w wr) (fun _ i _ _ _ _ => (U - intOf i).toNat)
  case atStart => exact ⟨0, _, by omega, rfl, rfl, by rw [HU0.out]; exact ownS_empty _ _ (Nat.le_refl _), (by repeat (first | exact Below.refl _ _ | assumption | refine Below.drew ?_ | refine below_drewN ?_ _ | refine Below.alloc ?_ (by first | omega | (simp; done) | (simp; omega)) _ | refine Below.setCell ?_ (by first | omega | (simp; done) | (simp; omega)) _))⟩
  case round =>
    obtain ⟨k, vo, hk, rfl, rfl, hO, hB⟩ := hrel
    have HO := Lib.hid hO
    have HB := Lib.hid hB
    clear hO hB
    by_cases hlk : k < U
    · have hlk' : (k : Int) < (U : Int) := by omega
      have hkl := HKL.out k hk
      go_wp2_with fail
      go_loopw [7, 9, 10, 11] (fun os i _ _ wr => ∃ (y : Nat) (vo : Value), y ≤ len ∧ vo = os ∧ i = .int .i64 (y : Int) ∧ OwnS wr w.heap.size vo (rpR ss A k y) ∧ Below w.heap.size w wr) (fun _ i _ _ _ => (len - intOf i).toNat)
      case atStart => exact ⟨0, _, by omega, rfl, rfl, by rw [HR0.out]; exact HO.out, HB.out⟩
      case round =>
        clear HO HB
        obtain ⟨y, vo, hy, rfl, rfl, hO, hB⟩ := hrel
        by_cases hly : y < len
        · have hly' : (y : Int) < (len : Int) := by omega
          obtain ⟨b, o, rfl, hb, hc0⟩ := (H.out.below hB).cell hly
          have hsr := HSM.out y
          have HN := Lib.hid (HNX.out k y hly)
          have HLK := Lib.hid (HLN.out k y hy)
          generalize rpR ss A k y = P at *
          generalize ss.getD y ByteArray.empty = row at *
          have HO := Lib.hid hO
          have HB := Lib.hid hB
          have hBz := hB.size
          clear hO hB
          go_wp2_with fail
          go_loop [10, 11] (fun ls i => ∃ n : Nat, n ≤ A ∧ i = .int .i64 (n : Int) ∧ ls = .string (rpS n row)) (fun _ i => (A - intOf i).toNat)
          case atStart => exact ⟨0, by omega, rfl, by rw [rpS_zero]; rfl⟩
          case round =>
            obtain ⟨n, hn, rfl, rfl⟩ := hrel
            by_cases hln : n < A
            · have hln' : (n : Int) < (A : Int) := by omega
              have HS1 := Lib.hid (rpS_next n row)
              have hz1 := rpS_size n row
              have hz2 : n * row.size ≤ 1000 * 24 := Nat.mul_le_mul (by omega) hsr
              have hz : ¬ 9223372036854775807 < (rpS n row).size + row.size := by omega
              clear hz1 hz2
              go_wp2
              go_round
              case rel => exact ⟨n + 1, by omega, by go_num, by rw [HS1.out]⟩
              case measure => first | (simp [intOf]; done) | (simp [intOf]; omega)
            · obtain rfl : n = A := by omega
              have hOl := HO.out
              unfold OwnS at hOl
              rw [HLK.out] at hOl
              go_wp2_with (at_builtin; refine wpList_append_new _ rfl _ _ 22 rfl _ 9 i0 (.string ByteArray.empty) 1 16 Try.underlying22 hi hi0 hi1 hi2 rfl (by decide) _ _ _ rfl (World.ownsRow.alloc hOl _) ⟨wr.heap.size, 0, none⟩ 1 1 [.string (rpS n row)] rfl rfl (cell_one_new _ _ _) (by simp [Value.oneCell']) (by unfold maxLen; omega) (by omega) (by first | omega | (simp; done) | (simp; omega)) (by decide) ?_; intro v' w1' hown1 hgrow1 hnew1)
              have hOn := OwnS.snoc hown1 (by rw [HLK.out])
              rw [← HN.out] at hOn
              have HOn := Lib.hid hOn
              have HBn := Lib.hid (below_row (HB.out.alloc hBz _) (Nat.le_refl _) (World.ownsRow.alloc hOl _) hgrow1)
              clear hown1 hgrow1 hnew1 hOn hOl
              go_wp2
              go_roundw
              case rel => exact ⟨y + 1, _, by omega, rfl, by go_num, HOn.out, HBn.out⟩
              case measure => first | (simp [intOf]; done) | (simp [intOf]; omega)
        · obtain rfl : y = len := by omega
          have HO := Lib.hid hO
          have HB := Lib.hid hB
          clear hO hB
          go_wp2
          go_roundw
          case rel => exact ⟨k + 1, _, by omega, rfl, by go_num, by rw [← HRA.out]; exact HO.out, HB.out⟩
          case measure => first | (simp [intOf]; done) | (simp [intOf]; omega)
    · obtain rfl : k = U := by omega
      go_wp2
      go_ret
      exact newS_mk HO.out HB.out
/-- The code, and the pattern of tiles. -/
def rtW (a u : Int) : Bool := inB a 1 24 && inB u 1 24
def rtF (ss : List ByteArray) (a u : Int) : Bool := decide (24 < (patN ss : Int) * a) || decide (24 < (ss.length : Int) * u)
def rtC (ss : List ByteArray) (a u : Int) : Int := if patB ss = false then 1 else if rtW a u = false then 2 else if rtF ss a u = true then 5 else 0
def rtI (ss : List ByteArray) (a u : Int) : List ByteArray := if rtC ss a u = 0 then rpU ss a.toNat u.toNat else []
theorem rt_1 {ss : List ByteArray} {a u : Int} (h : patB ss = false) : rtC ss a u = 1 ∧ rtI ss a u = [] := by simp [rtC, rtI, h]
theorem rt_2 {ss : List ByteArray} {a u : Int} (h : patB ss = true) (h2 : rtW a u = false) : rtC ss a u = 2 ∧ rtI ss a u = [] := by simp [rtC, rtI, h, h2]
theorem rt_5 {ss : List ByteArray} {a u : Int} (h : patB ss = true) (h2 : rtW a u = true) (h3 : rtF ss a u = true) : rtC ss a u = 5 ∧ rtI ss a u = [] := by simp [rtC, rtI, h, h2, h3]
theorem rt_0 {ss : List ByteArray} {a u : Int} (h : patB ss = true) (h2 : rtW a u = true) (h3 : rtF ss a u = false) : rtC ss a u = 0 ∧ rtI ss a u = rpU ss a.toNat u.toNat := by simp [rtC, rtI, h, h2, h3]
theorem rtI_len (ss : List ByteArray) (a u : Int) : (rtI ss a u).length ≤ 1000000 := by
  unfold rtI
  split
  · rename_i h
    cases g : patB ss
    · rw [(rt_1 g).1] at h; cases h
    · cases g2 : rtW a u
      · rw [(rt_2 g g2).1] at h; cases h
      · have b := (patB_t g).2.1
        have g3 : inB u 1 24 = true := by simp only [rtW, Bool.and_eq_true] at g2; exact g2.2
        have c := inB_t g3
        rw [rpU_len]
        have := Nat.mul_le_mul (show u.toNat ≤ 24 by omega) b
        omega
  · simp
set_option maxRecDepth 100000 in
set_option maxHeartbeats 4000000 in
theorem specRepeatTile_any (a : Option Addr) (len cap : Nat) (ss : List ByteArray) (x u : Int) (w : World) (h : IsStrs w a len cap ss) :
    Calls Try.prog 45 #[.slice a len cap, .int .i64 x, .int .i64 u] w (NewSC w (rtI ss x u) (rtC ss x u)) := by
  have H0 := Lib.hid h
  have HV := Lib.hid (fun W hW => l14Ok_any a len cap ss W hW)
  cases g : patB ss
  · obtain ⟨k1, k2⟩ := rt_1 (a := x) (u := u) g
    rw [k1, k2]
    rw [g] at HV
    clear h g k1 k2
    go_enter Try.func45, Try.ntmps45
    go_wp2_with fail
    refine (HV.out _ (H0.out.below (by repeat (first | exact Below.refl _ _ | assumption | refine Below.drew ?_ | refine below_drewN ?_ _ | refine Below.alloc ?_ (by first | omega | (simp; done) | (simp; omega)) _ | refine Below.setCell ?_ (by first | omega | (simp; done) | (simp; omega)) _)))).mono ?_
    rintro e1 w1 ⟨rfl, hb1⟩
    obtain ⟨hc1, hf1⟩ := bcell hb1
    have hz1 := hb1.size
    try simp at hz1
    have ha1 : Below w.heap.size w w1 := below_call (by repeat (first | exact Below.refl _ _ | assumption | refine Below.drew ?_ | refine below_drewN ?_ _ | refine Below.alloc ?_ (by first | omega | (simp; done) | (simp; omega)) _ | refine Below.setCell ?_ (by first | omega | (simp; done) | (simp; omega)) _)) hb1
    go_wp2
    go_ret2
    exact newSC_mk (ownS_nil _ _) nil_size (by repeat (first | exact Below.refl _ _ | assumption | refine Below.drew ?_ | refine below_drewN ?_ _ | refine Below.alloc ?_ (by first | omega | (simp; done) | (simp; omega)) _ | refine Below.setCell ?_ (by first | omega | (simp; done) | (simp; omega)) _))
  · have HW1 := Lib.hid (fun W => l00In_any x 1 24 W)
    have HW2 := Lib.hid (fun W => l00In_any u 1 24 W)
    rw [g] at HV
    cases g1 : inB x 1 24
    · obtain ⟨k1, k2⟩ := rt_2 (a := x) (u := u) g (by simp [rtW, g1])
      rw [k1, k2]
      rw [g1] at HW1
      clear h g k1 k2 g1
      go_enter Try.func45, Try.ntmps45
      go_wp2_with fail
      refine (HV.out _ (H0.out.below (by repeat (first | exact Below.refl _ _ | assumption | refine Below.drew ?_ | refine below_drewN ?_ _ | refine Below.alloc ?_ (by first | omega | (simp; done) | (simp; omega)) _ | refine Below.setCell ?_ (by first | omega | (simp; done) | (simp; omega)) _)))).mono ?_
      rintro e1 w1 ⟨rfl, hb1⟩
      obtain ⟨hc1, hf1⟩ := bcell hb1
      have hz1 := hb1.size
      try simp at hz1
      have ha1 : Below w.heap.size w w1 := below_call (by repeat (first | exact Below.refl _ _ | assumption | refine Below.drew ?_ | refine below_drewN ?_ _ | refine Below.alloc ?_ (by first | omega | (simp; done) | (simp; omega)) _ | refine Below.setCell ?_ (by first | omega | (simp; done) | (simp; omega)) _)) hb1
      go_wp2_with fail
      refine (HW1.out _).mono ?_
      rintro e q ⟨rfl, rfl⟩
      go_wp2
      go_ret2
      exact newSC_mk (ownS_nil _ _) nil_size (by repeat (first | exact Below.refl _ _ | assumption | refine Below.drew ?_ | refine below_drewN ?_ _ | refine Below.alloc ?_ (by first | omega | (simp; done) | (simp; omega)) _ | refine Below.setCell ?_ (by first | omega | (simp; done) | (simp; omega)) _))
    · cases g2 : inB u 1 24
      · obtain ⟨k1, k2⟩ := rt_2 (a := x) (u := u) g (by simp [rtW, g2])
        rw [k1, k2]
        rw [g1] at HW1
        rw [g2] at HW2
        clear h g k1 k2 g1 g2
        go_enter Try.func45, Try.ntmps45
        go_wp2_with fail
        refine (HV.out _ (H0.out.below (by repeat (first | exact Below.refl _ _ | assumption | refine Below.drew ?_ | refine below_drewN ?_ _ | refine Below.alloc ?_ (by first | omega | (simp; done) | (simp; omega)) _ | refine Below.setCell ?_ (by first | omega | (simp; done) | (simp; omega)) _)))).mono ?_
        rintro e1 w1 ⟨rfl, hb1⟩
        obtain ⟨hc1, hf1⟩ := bcell hb1
        have hz1 := hb1.size
        try simp at hz1
        have ha1 : Below w.heap.size w w1 := below_call (by repeat (first | exact Below.refl _ _ | assumption | refine Below.drew ?_ | refine below_drewN ?_ _ | refine Below.alloc ?_ (by first | omega | (simp; done) | (simp; omega)) _ | refine Below.setCell ?_ (by first | omega | (simp; done) | (simp; omega)) _)) hb1
        go_wp2_with fail
        refine (HW1.out _).mono ?_
        rintro e q ⟨rfl, rfl⟩
        go_wp2_with fail
        refine (HW2.out _).mono ?_
        rintro e q ⟨rfl, rfl⟩
        go_wp2
        go_ret2
        exact newSC_mk (ownS_nil _ _) nil_size (by repeat (first | exact Below.refl _ _ | assumption | refine Below.drew ?_ | refine below_drewN ?_ _ | refine Below.alloc ?_ (by first | omega | (simp; done) | (simp; omega)) _ | refine Below.setCell ?_ (by first | omega | (simp; done) | (simp; omega)) _))
      · have gw : rtW x u = true := by simp [rtW, g1, g2]
        obtain ⟨x1, x2⟩ := inB_t g1
        obtain ⟨u1, u2⟩ := inB_t g2
        have hl := h.1
        obtain ⟨v1, v2, v3, v4, v5⟩ := patB_t g
        rw [hl] at v1 v2
        obtain ⟨b, o, rfl, hb⟩ := h.addr (by omega)
        have hd0 := h.same (i := 0) (by omega)
        simp only [Nat.add_zero] at hd0
        have hz0 : (ss.getD 0 ByteArray.empty).size = patN ss := rfl
        have hs := pat_small g
        have e5 := fun q => rt_5 (ss := ss) (a := x) (u := u) g gw q
        have e0 := fun q => rt_0 (ss := ss) (a := x) (u := u) g gw q
        have hF : rtF ss x u = (decide (24 < (patN ss : Int) * x) || decide (24 < (len : Int) * u)) := by unfold rtF; rw [hl]
        generalize ss.getD 0 ByteArray.empty = r0 at hd0 hz0
        generalize patN ss = W at *
        rw [g1] at HW1
        rw [g2] at HW2
        have hl0 : (0 : Int) < (len : Int) := by omega
        have w1 : 0 ≤ x * (W : Int) := Int.mul_nonneg (by omega) (by omega)
        have w2 : x * (W : Int) ≤ 24 * 24 := Int.mul_le_mul (by omega) (by omega) (by omega) (by omega)
        have w3 : 0 ≤ u * (len : Int) := Int.mul_nonneg (by omega) (by omega)
        have w4 : u * (len : Int) ≤ 24 * 24 := Int.mul_le_mul (by omega) (by omega) (by omega) (by omega)
        have i1 := IntWalk.i64_in (x * (W : Int)) (by omega)
        have i2 := IntWalk.i64_in (u * (len : Int)) (by omega)
        have c1 : (W : Int) * x = x * (W : Int) := Int.mul_comm _ _
        have c2 : (len : Int) * u = u * (len : Int) := Int.mul_comm _ _
        by_cases f1 : 24 < x * (W : Int)
        · obtain ⟨k1, k2⟩ := e5 (by rw [hF, decide_eq_true (show 24 < (W : Int) * x by rw [c1]; exact f1)]; rfl)
          rw [k1, k2]
          clear h g k1 k2 g1 g2 gw hF e5 e0 v5 hs hl c1 c2
          go_enter Try.func45, Try.ntmps45
          go_wp2_with fail
          refine (HV.out _ (H0.out.below (by repeat (first | exact Below.refl _ _ | assumption | refine Below.drew ?_ | refine below_drewN ?_ _ | refine Below.alloc ?_ (by first | omega | (simp; done) | (simp; omega)) _ | refine Below.setCell ?_ (by first | omega | (simp; done) | (simp; omega)) _)))).mono ?_
          rintro e1 w1 ⟨rfl, hb1⟩
          obtain ⟨hc1, hf1⟩ := bcell hb1
          have hz1 := hb1.size
          try simp at hz1
          have ha1 : Below w.heap.size w w1 := below_call (by repeat (first | exact Below.refl _ _ | assumption | refine Below.drew ?_ | refine below_drewN ?_ _ | refine Below.alloc ?_ (by first | omega | (simp; done) | (simp; omega)) _ | refine Below.setCell ?_ (by first | omega | (simp; done) | (simp; omega)) _)) hb1
          have hd1 := keep1 ha1 hd0
          go_wp2_with fail
          refine (HW1.out _).mono ?_
          rintro e q ⟨rfl, rfl⟩
          go_wp2_with fail
          refine (HW2.out _).mono ?_
          rintro e q ⟨rfl, rfl⟩
          go_wp2
          go_ret2
          exact newSC_mk (ownS_nil _ _) nil_size (by repeat (first | exact Below.refl _ _ | assumption | refine Below.drew ?_ | refine below_drewN ?_ _ | refine Below.alloc ?_ (by first | omega | (simp; done) | (simp; omega)) _ | refine Below.setCell ?_ (by first | omega | (simp; done) | (simp; omega)) _))
        · by_cases f2 : 24 < u * (len : Int)
          · obtain ⟨k1, k2⟩ := e5 (by rw [hF, decide_eq_true (show 24 < (len : Int) * u by rw [c2]; exact f2), Bool.or_true])
            rw [k1, k2]
            clear h g k1 k2 g1 g2 gw hF e5 e0 v5 hs hl c1 c2
            go_enter Try.func45, Try.ntmps45
            go_wp2_with fail
            refine (HV.out _ (H0.out.below (by repeat (first | exact Below.refl _ _ | assumption | refine Below.drew ?_ | refine below_drewN ?_ _ | refine Below.alloc ?_ (by first | omega | (simp; done) | (simp; omega)) _ | refine Below.setCell ?_ (by first | omega | (simp; done) | (simp; omega)) _)))).mono ?_
            rintro e1 w1 ⟨rfl, hb1⟩
            obtain ⟨hc1, hf1⟩ := bcell hb1
            have hz1 := hb1.size
            try simp at hz1
            have ha1 : Below w.heap.size w w1 := below_call (by repeat (first | exact Below.refl _ _ | assumption | refine Below.drew ?_ | refine below_drewN ?_ _ | refine Below.alloc ?_ (by first | omega | (simp; done) | (simp; omega)) _ | refine Below.setCell ?_ (by first | omega | (simp; done) | (simp; omega)) _)) hb1
            have hd1 := keep1 ha1 hd0
            go_wp2_with fail
            refine (HW1.out _).mono ?_
            rintro e q ⟨rfl, rfl⟩
            go_wp2_with fail
            refine (HW2.out _).mono ?_
            rintro e q ⟨rfl, rfl⟩
            go_wp2
            go_ret2
            exact newSC_mk (ownS_nil _ _) nil_size (by repeat (first | exact Below.refl _ _ | assumption | refine Below.drew ?_ | refine below_drewN ?_ _ | refine Below.alloc ?_ (by first | omega | (simp; done) | (simp; omega)) _ | refine Below.setCell ?_ (by first | omega | (simp; done) | (simp; omega)) _))
          · obtain ⟨k1, k2⟩ := e0 (by rw [hF, decide_eq_false (show ¬ 24 < (W : Int) * x by rw [c1]; exact f1), decide_eq_false (show ¬ 24 < (len : Int) * u by rw [c2]; exact f2)]; rfl)
            rw [k1, k2]
            obtain ⟨A, rfl⟩ : ∃ A : Nat, x = (A : Int) := ⟨x.toNat, by omega⟩
            obtain ⟨U, rfl⟩ : ∃ U : Nat, u = (U : Int) := ⟨u.toNat, by omega⟩
            have hA : A ≤ 1000 := by omega
            have hU : U ≤ 1000 := by omega
            rw [show ((A : Int)).toNat = A by omega, show ((U : Int)).toNat = U by omega]
            have HSZ := Lib.hid (rpU_size (k := U) hs hA)
            have hlen : len ≤ 24 := v2
            have HA := Lib.hid (fun W hW => l14Repeat_any (some ⟨b, o, none⟩) len cap ss A U W hW hs hlen hA hU)
            clear h g k1 k2 g1 g2 gw hF e5 e0 v5 hs hl c1 c2
            go_enter Try.func45, Try.ntmps45
            go_wp2_with fail
            refine (HV.out _ (H0.out.below (by repeat (first | exact Below.refl _ _ | assumption | refine Below.drew ?_ | refine below_drewN ?_ _ | refine Below.alloc ?_ (by first | omega | (simp; done) | (simp; omega)) _ | refine Below.setCell ?_ (by first | omega | (simp; done) | (simp; omega)) _)))).mono ?_
            rintro e1 w1 ⟨rfl, hb1⟩
            obtain ⟨hc1, hf1⟩ := bcell hb1
            have hz1 := hb1.size
            try simp at hz1
            have ha1 : Below w.heap.size w w1 := below_call (by repeat (first | exact Below.refl _ _ | assumption | refine Below.drew ?_ | refine below_drewN ?_ _ | refine Below.alloc ?_ (by first | omega | (simp; done) | (simp; omega)) _ | refine Below.setCell ?_ (by first | omega | (simp; done) | (simp; omega)) _)) hb1
            have hd1 := keep1 ha1 hd0
            go_wp2_with fail
            refine (HW1.out _).mono ?_
            rintro e q ⟨rfl, rfl⟩
            go_wp2_with fail
            refine (HW2.out _).mono ?_
            rintro e q ⟨rfl, rfl⟩
            go_wp2_with fail
            refine (HA.out _ (H0.out.below (by repeat (first | exact Below.refl _ _ | assumption | refine Below.drew ?_ | refine below_drewN ?_ _ | refine Below.alloc ?_ (by first | omega | (simp; done) | (simp; omega)) _ | refine Below.setCell ?_ (by first | omega | (simp; done) | (simp; omega)) _)))).mono ?_
            rintro e w2 ⟨xx, c, rfl, hO, hb2⟩
            have ha2 := below_call ha1 hb2
            have hz2 := ha1.size
            have HO := Lib.hid (hO.base hz2)
            clear hO
            go_wp2
            go_ret2
            exact newSC_mk HO.out HSZ.out ha2
end Go.Proofs.Ytlkdkidpbjpkhaa
