/- Contracts of the program's functions on walls (ValidWall, FirstClash, IsBonded) and of the law's own on lists (a2Has, a2Apart); condition: all texts are courses. -/
import Derived.BigRegion
import Derived.Test.YtklhaanapembdaaCourS
import Derived.Test.YtklhaanapembdaaM37

namespace Go.Proofs.Ytklhaanapembdaa
set_option linter.unusedVariables false
open Go.RowKit

theorem results_tmp4 {fn : Func} {t u v x : Tmp} (h : fn.results = #[.tmp t, .tmp u, .tmp v, .tmp x]) (tmps : Array Value) (P : Program) (w : World) :
    (results fn tmps).run P w = .ok (.tuple #[tmps.getD t undef, tmps.getD u undef, tmps.getD v undef, tmps.getD x undef]) w := by
  simp [results, h]
theorem apartU_of {xs ys : List Int} {lap : Int} (h : ∀ i, i < xs.length → ∀ j, j < ys.length → lap ≤ max (xs.getD i 0 - ys.getD j 0) (ys.getD j 0 - xs.getD i 0)) : ApartU xs ys lap := by
  intro x hx y hy
  obtain ⟨i, hi, rfl⟩ := List.getElem_of_mem hx
  obtain ⟨j, hj, rfl⟩ := List.getElem_of_mem hy
  have := h i hi j hj
  simpa [List.getD_eq_getElem?_getD, hi, hj] using this
theorem apartU_at {xs ys : List Int} {lap : Int} (h : ApartU xs ys lap) {i j : Nat} (hi : i < xs.length) (hj : j < ys.length) : lap ≤ max (xs.getD i 0 - ys.getD j 0) (ys.getD j 0 - xs.getD i 0) := by
  rw [List.getD_eq_getElem?_getD, List.getElem?_eq_getElem hi, List.getD_eq_getElem?_getD, List.getElem?_eq_getElem hj]
  exact h _ (List.getElem_mem hi) _ (List.getElem_mem hj)
theorem getD_mem {xs : List Int} {i : Nat} (hi : i < xs.length) : xs.getD i 0 ∈ xs := by
  rw [List.getD_eq_getElem?_getD, List.getElem?_eq_getElem hi]; exact List.getElem_mem hi
/-- All are courses of one length. -/
def WallOk (L : Int) (ss : List ByteArray) : Prop := ∀ k, k < ss.length → Cour L (ss.getD k ByteArray.empty)
set_option maxHeartbeats 1000000 in
theorem validWallC_yes (L : Int) (s : ByteArray) (b : Nat) (a : Option Addr) (n cap : Nat) (ss : List ByteArray) (w : World) (h : Cour L s) (hs : IsStrs w a n cap ss) (n1 : 1 ≤ n) (h0 : Cour L (ss.getD 0 ByteArray.empty)) (hb : w.cell? ⟨b, 0, none⟩ = some (.slice a n cap)) :
    Calls Try.prog 136 #[.string s, .pointer (some ⟨b, 0, none⟩)] w fun e w' => e = .returned (.bool false) ∧ Below w.heap.size w w' := by
  obtain ⟨r, o, rfl, hr, hc⟩ := hs.cell (i := 0) (by omega)
  simp only [Nat.add_zero] at hc
  have HV := Lib.hid (fun W => validCourse_yes L s W h)
  have HL1 := Lib.hid (fun W => lengthOf_any s W (by have := h.s1; omega))
  have HL0 := Lib.hid (fun W => lengthOf_any (ss.getD 0 ByteArray.empty) W (by have := h0.s1; omega))
  rw [h.sm] at HL1
  rw [h0.sm] at HL0
  have n1' : (0 : Int) < (n : Int) := by omega
  generalize ss.getD 0 ByteArray.empty = s0 at *
  clear h h0 hs
  go_enter Try.func136, Try.ntmps136
  go_wp2
  go_quiet (first | (go_at_call 137; exact Calls.quiet_of_same ((HV.out _).mono fun _ _ h => ⟨h.1, h.2.symm⟩)) | (go_at_call 138; with_reducible exact Calls.quiet_of_same ((HL1.out _).mono fun _ _ h => ⟨h.1, h.2.symm⟩)) | (go_at_call 138; with_reducible exact Calls.quiet_of_same ((HL0.out _).mono fun _ _ h => ⟨h.1, h.2.symm⟩)))
  go_wp2
  go_ret
  exact ⟨ret_bool (by simp), (by repeat (first | exact Below.refl _ _ | assumption | refine Below.drew ?_ | refine below_drewN ?_ _ | refine Below.alloc ?_ (by first | omega | (simp; done) | (simp; omega)) _ | refine Below.setCell ?_ (by first | omega | (simp; done) | (simp; omega)) _))⟩
theorem IsStrs.below' {w w' : World} {B : Nat} {a : Option Addr} {len cap : Nat} {ss : List ByteArray} (h : IsStrs w a len cap ss) (hb : Below w.heap.size w w') : IsStrs w' a len cap ss := h.below hb
set_option maxHeartbeats 2000000 in
theorem indexFS_yes (L : Int) (b : Nat) (a : Option Addr) (n cap : Nat) (ss : List ByteArray) (w : World) (hs : IsStrs w a n cap ss) (n1 : 1 ≤ n) (hw : WallOk L ss) (hb : w.cell? ⟨b, 0, none⟩ = some (.slice a n cap)) :
    Calls Try.prog 144 #[.slice a n cap, .func (Fn.func 136) #[] #[.pointer (some ⟨b, 0, none⟩)]] w fun e w' => e = .returned (.int .i64 (-1)) ∧ Below w.heap.size w w' := by
  have hl := hs.1
  have hm : n ≤ maxLen := Nat.le_trans hs.2.1 hs.2.2.1
  unfold maxLen at hm
  have HC := Lib.hid (fun k (hk : k < n) (W : World) (hB : Below w.heap.size w W) => validWallC_yes L (ss.getD k ByteArray.empty) b a n cap ss W (hw k (by rw [hl]; exact hk)) (hs.below hB) n1 (hw 0 (by rw [hl]; omega)) (keep1 hB hb))
  have HS := Lib.hid hs
  clear hs hl hw hb
  go_enter Try.func144, Try.ntmps144
  go_wp2_with fail
  go_loopw [5, 8] (fun _ i wr => ∃ k : Nat, k ≤ n ∧ i = .int .i64 (k : Int) ∧ Below w.heap.size w wr) (fun _ i _ => (n - intOf i).toNat)
  case atStart => exact ⟨0, by omega, rfl, (by repeat (first | exact Below.refl _ _ | assumption | refine Below.drew ?_ | refine below_drewN ?_ _ | refine Below.alloc ?_ (by first | omega | (simp; done) | (simp; omega)) _ | refine Below.setCell ?_ (by first | omega | (simp; done) | (simp; omega)) _))⟩
  case round =>
    obtain ⟨k, hk, rfl, hB⟩ := hrel
    have hz := hB.size
    by_cases hlt : k < n
    · have hlt' : (k : Int) < (n : Int) := by omega
      obtain ⟨r, o, rfl, hr, hc⟩ := (HS.out.below hB).cell hlt
      have HK := Lib.hid (HC.out k hlt _ hB)
      generalize ss.getD k ByteArray.empty = s at *
      go_wp2_with fail
      refine HK.out.mono ?_
      rintro e1 w1 ⟨rfl, hb1⟩
      have hB1 := Lib.hid (below_call hB hb1)
      clear hb1 HK hc
      go_wp2
      go_roundw
      case rel => exact ⟨k + 1, by omega, by go_num, hB1.out⟩
      case measure => first | (simp [intOf]; done) | (simp [intOf]; omega)
    · obtain rfl : k = n := by omega
      go_wp2
      go_ret
      exact ⟨rfl, hB⟩
set_option maxHeartbeats 1000000 in
theorem containsFS_yes (L : Int) (b : Nat) (a : Option Addr) (n cap : Nat) (ss : List ByteArray) (w : World) (hs : IsStrs w a n cap ss) (n1 : 1 ≤ n) (hw : WallOk L ss) (hb : w.cell? ⟨b, 0, none⟩ = some (.slice a n cap)) :
    Calls Try.prog 135 #[.slice a n cap, .func (Fn.func 136) #[] #[.pointer (some ⟨b, 0, none⟩)]] w fun e w' => e = .returned (.bool false) ∧ Below w.heap.size w w' := by
  have HC := Lib.hid (indexFS_yes L b a n cap ss w hs n1 hw hb)
  clear hs hb hw
  go_enter Try.func135, Try.ntmps135
  go_wp2_with fail
  refine HC.out.mono ?_
  rintro e1 w1 ⟨rfl, hb1⟩
  go_wp2
  go_ret
  exact ⟨rfl, hb1⟩
set_option maxHeartbeats 1000000 in
theorem validWall_yes (L : Int) (a : Option Addr) (n cap : Nat) (ss : List ByteArray) (w : World) (hs : IsStrs w a n cap ss) (n1 : 1 ≤ n) (n2 : n ≤ 40) (hw : WallOk L ss) :
    Calls Try.prog 122 #[.slice a n cap] w fun e w' => e = .returned (.bool true) ∧ Below w.heap.size w w' := by
  have hb0 : Below w.heap.size w (w.alloc (.cells #[.slice a n cap] 48)) := (Below.refl _ _).alloc (Nat.le_refl _) _
  have hcell : (w.alloc (.cells #[.slice a n cap] 48)).cell? ⟨w.heap.size, 0, none⟩ = some (.slice a n cap) := by rw [cellOf (blk_new _ _)]; rfl
  have HC := Lib.hid (containsFS_yes L w.heap.size a n cap ss _ (hs.below hb0) n1 hw hcell)
  have hI : inB (n : Int) 1 40 = true := inB_mk ⟨by omega, by omega⟩
  have HI := Lib.hid (fun W => within_any (n : Int) 1 40 W)
  rw [hI] at HI
  have HB := Lib.hid hb0
  clear hI hcell hb0 hs hw
  go_enter Try.func122, Try.ntmps122
  go_wp2_with fail
  refine (HI.out _).mono ?_
  rintro e1 w1 ⟨rfl, rfl⟩
  go_wp2_with fail
  refine HC.out.mono ?_
  rintro e1 w1 ⟨rfl, hb1⟩
  have HB1 := Lib.hid (below_call HB.out hb1)
  clear hb1
  go_wp2
  go_ret
  exact ⟨rfl, HB1.out⟩
set_option maxHeartbeats 1000000 in
theorem wallCode_yes (L lap : Int) (a : Option Addr) (n cap : Nat) (ss : List ByteArray) (w : World) (hs : IsStrs w a n cap ss) (n1 : 1 ≤ n) (n2 : n ≤ 40) (hw : WallOk L ss) (l1 : 1 ≤ lap) (l4 : lap ≤ 4) :
    Calls Try.prog 81 #[.slice a n cap, .int .i64 lap] w fun e w' => e = .returned (.int .i64 0) ∧ Below w.heap.size w w' := by
  have HC := Lib.hid (validWall_yes L a n cap ss w hs n1 n2 hw)
  have hI : inB lap 1 4 = true := inB_mk ⟨by omega, by omega⟩
  have HI := Lib.hid (fun W => within_any lap 1 4 W)
  rw [hI] at HI
  clear hI hs hw
  go_enter Try.func81, Try.ntmps81
  go_wp2_with fail
  refine HC.out.mono ?_
  rintro e1 w1 ⟨rfl, hb1⟩
  go_wp2_with fail
  refine (HI.out _).mono ?_
  rintro e1 w2 ⟨rfl, rfl⟩
  go_wp2
  go_ret
  exact ⟨rfl, hb1⟩
set_option maxHeartbeats 400000 in
theorem apartM_any (a b : Int) (w : World) (h1 : -1000000 ≤ a) (h2 : a ≤ 1000000) (h3 : -1000000 ≤ b) (h4 : b ≤ 1000000) :
    Calls Try.prog 83 #[.int .i64 a, .int .i64 b] w fun e w' => e = .returned (.int .i64 (max (a - b) (b - a))) ∧ w = w' := by
  by_cases h : a - b < b - a
  · have HE := Lib.hid (show max (a - b) (b - a) = b - a by omega)
    go_enter Try.func83, Try.ntmps83
    go_wp2
    go_ret
    exact ⟨ret_int (by rw [HE.out]), rfl⟩
  · have HE := Lib.hid (show max (a - b) (b - a) = a - b by omega)
    go_enter Try.func83, Try.ntmps83
    go_wp2
    go_ret
    exact ⟨ret_int (by rw [HE.out]), rfl⟩
/-- What FirstClash tells. -/
def Clash (w : World) (ss : List ByteArray) (lap : Int) (e : Ending) (w' : World) : Prop :=
  Below w.heap.size w w' ∧ ((AllApart ss lap ∧ e = .returned (.tuple #[.int .i64 0, .int .i64 0, .int .i64 0, .int .i64 3])) ∨
    ∃ (k : Nat) (x y : Int), ClashAt ss lap k x y ∧ e = .returned (.tuple #[.int .i64 (k : Int), .int .i64 x, .int .i64 y, .int .i64 0]))
def apM (x y : Int) : Int := max (x - y) (y - x)
set_option maxRecDepth 100000 in
set_option maxHeartbeats 4000000 in
theorem firstClash_any (L lap : Int) (a : Option Addr) (n cap : Nat) (ss : List ByteArray) (w : World) (hs : IsStrs w a n cap ss) (n1 : 1 ≤ n) (n2 : n ≤ 40) (hw : WallOk L ss) (l1 : 1 ≤ lap) (l4 : lap ≤ 4) :
    Calls Try.prog 31 #[.slice a n cap, .int .i64 lap] w (Clash w ss lap) := by
  have hl := hs.1
  have HWC := Lib.hid (wallCode_yes L lap a n cap ss w hs n1 n2 hw l1 l4)
  have HL := Lib.hid hl
  have HW := Lib.hid (fun k (hk : k < n) => hw k (by rw [hl]; exact hk))
  have HS := Lib.hid hs
  clear hs hw hl
  go_enter Try.func31, Try.ntmps31
  go_wp2_with fail
  refine HWC.out.mono ?_
  rintro e1 w1 ⟨rfl, hb1⟩
  have HB1 := Lib.hid hb1
  clear hb1 HWC
  go_wp2_with fail
  go_loopw [9] (fun i wr => ∃ k : Nat, 1 ≤ k ∧ k ≤ n ∧ i = .int .i64 (k : Int) ∧ (∀ j, j + 1 < k → ApartU (perpU (ss.getD j ByteArray.empty)) (perpU (ss.getD (j + 1) ByteArray.empty)) lap) ∧ Below w.heap.size w wr) (fun i _ => (n - intOf i).toNat)
  case atStart => exact ⟨1, by omega, by omega, rfl, fun j hj => by omega, HB1.out⟩
  case round =>
    obtain ⟨k, hk1, hk, rfl, hA, hB⟩ := hrel
    have HA := Lib.hid hA
    clear hA
    have hz := hB.size
    by_cases hlt : k < n
    · obtain ⟨q, rfl⟩ : ∃ q, k = q + 1 := ⟨k - 1, by omega⟩
      have hlt' : ((q + 1 : Nat) : Int) < (n : Int) := by omega
      obtain ⟨r, o, rfl, hr, hc⟩ := (HS.out.below hB).cell hlt
      have C1 := HW.out (q + 1) hlt
      have C0 := HW.out q (by omega)
      have HP1 := Lib.hid (coursePerpends_any (ss.getD (q + 1) ByteArray.empty) wr C1.s0 C1.s1)
      have HP0 := Lib.hid (fun W => coursePerpends_any (ss.getD q ByteArray.empty) W C0.s0 C0.s1)
      have B1 := perpU_bd _ C1.s1
      have B0 := perpU_bd _ C0.s1
      have hlen1 := perpU_len (ss.getD (q + 1) ByteArray.empty)
      have hlen0 := perpU_len (ss.getD q ByteArray.empty)
      have g1 := C1.s1
      have g0 := C0.s1
      have HNX : Hid (ApartU (perpU (ss.getD q ByteArray.empty)) (perpU (ss.getD (q + 1) ByteArray.empty)) lap → ∀ j, j + 1 < q + 1 + 1 → ApartU (perpU (ss.getD j ByteArray.empty)) (perpU (ss.getD (j + 1) ByteArray.empty)) lap) := Lib.hid (fun h j hj => by
        rcases Nat.lt_succ_iff_lt_or_eq.1 hj with h' | h'
        · exact HA.out j h'
        · obtain rfl : j = q := by omega
          exact h)
      have HCL : Hid (∀ x y, x ∈ perpU (ss.getD q ByteArray.empty) → y ∈ perpU (ss.getD (q + 1) ByteArray.empty) → max (x - y) (y - x) < lap → ClashAt ss lap q x y) := Lib.hid (fun x y hx hy hlt => ⟨by rw [HL.out]; omega, hx, hy, hlt⟩)
      have HZ := Lib.hid (fun W (hb : Below w.heap.size w W) => (HS.out.below hb).cell (i := q) (by omega))
      have hd1 : (perpU (ss.getD (q + 1) ByteArray.empty)).length ≤ 60 := by omega
      have hd0 : (perpU (ss.getD q ByteArray.empty)).length ≤ 60 := by omega
      clear C1 C0 hlen1 hlen0 g1 g0 HA
      generalize ss.getD (q + 1) ByteArray.empty = s1 at *
      generalize ss.getD q ByteArray.empty = s0 at *
      generalize perpU s1 = ys at *
      generalize perpU s0 = xs at *
      have HB1' := Lib.hid B1
      have HB0' := Lib.hid B0
      clear B1 B0
      go_wp2_with fail
      refine HP1.out.mono ?_
      rintro e2 w2 ⟨ah, ch, rfl, hO2, hb2⟩
      have hB2 := below_call hB hb2
      have hz2 := hB2.size
      obtain ⟨r0, o0, ha0, hr0, hc0⟩ := HZ.out _ hB2
      injection ha0 with ha0
      injection ha0 with ha1 ha2
      subst ha1 ha2
      have HR2 := Lib.hid hO2.row
      have HB2 := Lib.hid hB2
      clear hO2 hb2 HP1 hB2 hc hB
      go_wp2_with fail
      refine (HP0.out _).mono ?_
      rintro e3 w3 ⟨al, cl, rfl, hO3, hb3⟩
      have HR3 := Lib.hid hO3.row
      have HR4 := Lib.hid (HR2.out.below hb3)
      have HB3 := Lib.hid (below_call HB2.out hb3)
      generalize hnx : xs.length = nx at *
      generalize hny : ys.length = ny at *
      have HNXL := Lib.hid hnx
      have HNYL := Lib.hid hny
      clear hO3 hb3 HP0 HR2 HB2 hc0 hnx hny HZ
      go_wp2_with fail
      go_loop [12, 14, 39, 45] (fun _ _ i _ => ∃ p : Nat, p ≤ nx ∧ i = .int .i64 (p : Int) ∧ ∀ x, x < p → ∀ y, y < ny → lap ≤ max (xs.getD x 0 - ys.getD y 0) (ys.getD y 0 - xs.getD x 0)) (fun _ _ i _ => (nx - intOf i).toNat)
      case atStart => exact ⟨0, by omega, rfl, fun x hx => by omega⟩
      case round =>
        obtain ⟨p, hp, rfl, hI⟩ := hrel
        have HI := Lib.hid hI
        clear hI
        by_cases hlp : p < nx
        · have hlp' : (p : Int) < (nx : Int) := by omega
          obtain ⟨rx, ox, rfl, hrx, hcx⟩ := HR3.out.cell hlp
          have HXM := Lib.hid (getD_mem (xs := xs) (i := p) (by rw [HNXL.out]; exact hlp))
          obtain ⟨bx0, bx1⟩ := HB0'.out _ HXM.out
          generalize hxx : xs.getD p 0 = x at *
          have HXX := Lib.hid hxx
          clear hxx
          go_wp2_with fail
          go_loop [14, 45] (fun _ i => ∃ j : Nat, j ≤ ny ∧ i = .int .i64 (j : Int) ∧ ∀ y, y < j → lap ≤ max (x - ys.getD y 0) (ys.getD y 0 - x)) (fun _ i => (ny - intOf i).toNat)
          case atStart => exact ⟨0, by omega, rfl, fun y hy => by omega⟩
          case round =>
            obtain ⟨j, hj, rfl, hJ⟩ := hrel
            have HJ := Lib.hid hJ
            clear hJ
            by_cases hlj : j < ny
            · have hlj' : (j : Int) < (ny : Int) := by omega
              obtain ⟨ry, oy, rfl, hry, hcy⟩ := HR4.out.cell hlj
              have HYM := Lib.hid (getD_mem (xs := ys) (i := j) (by rw [HNYL.out]; exact hlj))
              obtain ⟨by0, by1⟩ := HB1'.out _ HYM.out
              have HJN : Hid (lap ≤ max (x - ys.getD j 0) (ys.getD j 0 - x) → ∀ y, y < j + 1 → lap ≤ max (x - ys.getD y 0) (ys.getD y 0 - x)) := Lib.hid (fun h y hy => by
                rcases Nat.lt_succ_iff_lt_or_eq.1 hy with h' | rfl
                · exact HJ.out y h'
                · exact h)
              generalize ys.getD j 0 = y at *
              have HAP := Lib.hid (apartM_any x y w3 (by omega) (by omega) (by omega) (by omega))
              have HMX := Lib.hid (show max (x - y) (y - x) = apM x y from rfl)
              rw [HMX.out] at HAP HJN
              by_cases hc : apM x y < lap
              · have HCL' := Lib.hid (HCL.out x y HXM.out HYM.out (by rw [HMX.out]; exact hc))
                go_wp2_with fail
                refine HAP.out.mono ?_
                rintro e4 w4 ⟨rfl, rfl⟩
                go_wp2
                (try simp only [Exit.inBlock, Exit.then])
                refine bodyPost_ret (results_tmp4 rfl _ _ _) rfl ?_
                exact ⟨HB3.out, .inr ⟨q, x, y, HCL'.out, by first | rfl | (simp; done)⟩⟩
              · have HJ1 := Lib.hid (HJN.out (by omega))
                go_wp2_with fail
                refine HAP.out.mono ?_
                rintro e4 w4 ⟨rfl, rfl⟩
                go_wp2
                go_round
                case rel => exact ⟨j + 1, by omega, by go_num, HJ1.out⟩
                case measure => first | (simp [intOf]; done) | (simp [intOf]; omega)
            · obtain rfl : j = ny := by omega
              have HI1 : Hid (∀ x', x' < p + 1 → ∀ y, y < j → lap ≤ max (xs.getD x' 0 - ys.getD y 0) (ys.getD y 0 - xs.getD x' 0)) := Lib.hid (fun x' hx' => by
                rcases Nat.lt_succ_iff_lt_or_eq.1 hx' with h' | rfl
                · exact HI.out x' h'
                · rw [HXX.out]; exact HJ.out)
              go_wp2
              go_round
              case rel => exact ⟨p + 1, by omega, by go_num, HI1.out⟩
              case measure => first | (simp [intOf]; done) | (simp [intOf]; omega)
        · obtain rfl : p = nx := by omega
          have HA1 := Lib.hid (HNX.out (apartU_of (fun i hi j hj => HI.out i (by rw [HNXL.out] at hi; exact hi) j (by rw [HNYL.out] at hj; exact hj))))
          go_wp2
          go_roundw
          case rel => exact ⟨q + 1 + 1, by omega, by omega, by go_num, HA1.out, HB3.out⟩
          case measure => first | (simp [intOf]; done) | (simp [intOf]; omega)
    · obtain rfl : k = n := by omega
      have HAA : Hid (AllApart ss lap) := Lib.hid (fun j hj => HA.out j (by rw [HL.out] at hj; exact hj))
      go_wp2
      (try simp only [Exit.inBlock, Exit.then])
      refine bodyPost_ret (results_tmp4 rfl _ _ _) rfl ?_
      exact ⟨hB, .inl ⟨HAA.out, by first | rfl | (simp; done)⟩⟩
/-- What IsBonded tells. -/
def Bonded (w : World) (ss : List ByteArray) (lap : Int) (e : Ending) (w' : World) : Prop :=
  Below w.heap.size w w' ∧ ((AllApart ss lap ∧ e = .returned (.tuple #[.bool true, .int .i64 0])) ∨ (¬ AllApart ss lap ∧ e = .returned (.tuple #[.bool false, .int .i64 0])))
set_option maxHeartbeats 1000000 in
theorem isBonded_any (L lap : Int) (a : Option Addr) (n cap : Nat) (ss : List ByteArray) (w : World) (hs : IsStrs w a n cap ss) (n1 : 1 ≤ n) (n2 : n ≤ 40) (hw : WallOk L ss) (l1 : 1 ≤ lap) (l4 : lap ≤ 4) :
    Calls Try.prog 30 #[.slice a n cap, .int .i64 lap] w (Bonded w ss lap) := by
  have HC := Lib.hid (wallCode_yes L lap a n cap ss w hs n1 n2 hw l1 l4)
  have HF := Lib.hid (fun W (hB : Below w.heap.size w W) => firstClash_any L lap a n cap ss W (hs.below hB) n1 n2 hw l1 l4)
  clear hs hw
  go_enter Try.func30, Try.ntmps30
  go_wp2_with fail
  refine HC.out.mono ?_
  rintro e1 w1 ⟨rfl, hb1⟩
  go_wp2_with fail
  refine (HF.out _ hb1).mono ?_
  rintro e2 w2 ⟨hb2, ⟨hA, rfl⟩ | ⟨k, x, y, hC, rfl⟩⟩
  · have HX : Hid (AllApart ss lap) := Lib.hid hA
    have HB := Lib.hid (below_call hb1 hb2)
    clear hA hb2 hb1
    go_wp2
    go_ret2
    exact ⟨HB.out, .inl ⟨HX.out, by first | rfl | (simp; done)⟩⟩
  · have HX : Hid (¬ AllApart ss lap) := Lib.hid hC.no
    have HB := Lib.hid (below_call hb1 hb2)
    clear hC hb2 hb1
    go_wp2
    go_ret2
    exact ⟨HB.out, .inr ⟨HX.out, by first | rfl | (simp; done)⟩⟩
end Go.Proofs.Ytklhaanapembdaa
/- Contracts of the law's own functions on lists (a2Has, a2Apart), where they answer yes; condition: the lists can be read. -/
namespace Go.Proofs.Ytklhaanapembdaa
set_option linter.unusedVariables false
open Go.RowKit

set_option maxHeartbeats 1000000 in
theorem a2Has_yes (a : Option Addr) (n c : Nat) (zs : List Int) (x : Int) (w : World) (h : IsRow .i64 w a n c zs) (hx : x ∈ zs) :
    Calls Try.prog 33 #[.slice a n c, .int .i64 x] w fun e w' => e = .returned (.bool true) ∧ w = w' := by
  obtain ⟨j, hj, hjx⟩ := List.getElem_of_mem hx
  have hl := h.1
  have hm : n ≤ maxLen := Nat.le_trans h.2.1 h.2.2.1
  unfold maxLen at hm
  have hjn : j < n := by omega
  have HJ : Hid (zs.getD j 0 = x) := Lib.hid (by rw [List.getD_eq_getElem?_getD, List.getElem?_eq_getElem hj]; exact hjx)
  have H := Lib.hid h
  clear h hl hx hjx hj
  go_enter Try.func33, Try.ntmps33
  go_wp2_with fail
  go_loop [5] (fun i => ∃ k : Nat, k ≤ j ∧ i = .int .i64 (k : Int)) (fun i => (n - intOf i).toNat)
  case atStart => exact ⟨0, by omega, rfl⟩
  case round =>
    obtain ⟨k, hk, rfl⟩ := hrel
    have hlt : k < n := by omega
    have hlt' : (k : Int) < (n : Int) := by omega
    obtain ⟨b, o, rfl, hb, hc⟩ := H.out.cell hlt
    have HKJ : Hid (¬ zs.getD k 0 = x → k + 1 ≤ j) := Lib.hid (fun hy => by
      rcases Nat.lt_or_ge k j with h | h
      · omega
      · exfalso
        obtain rfl : k = j := by omega
        exact hy HJ.out)
    generalize zs.getD k 0 = y at *
    by_cases hy : y = x
    · have hy' : (y == x) = true := by simpa using hy
      clear hy
      go_wp2
      go_ret
      exact ⟨rfl, rfl⟩
    · have hkj : k + 1 ≤ j := HKJ.out hy
      have hy' : (y == x) = false := by simpa using hy
      clear hy
      go_wp2
      go_round
      case rel => exact ⟨k + 1, by omega, by go_num⟩
      case measure => first | (simp [intOf]; done) | (simp [intOf]; omega)
set_option maxRecDepth 100000 in
set_option maxHeartbeats 2000000 in
theorem a2Apart_yes (a a' : Option Addr) (n c n' c' : Nat) (xs ys : List Int) (lap : Int) (w : World) (h : IsRow .i64 w a n c xs) (h' : IsRow .i64 w a' n' c' ys) (hx : ∀ x ∈ xs, 0 ≤ x ∧ x ≤ 240) (hy : ∀ y ∈ ys, 0 ≤ y ∧ y ≤ 240) (hA : ApartU xs ys lap) :
    Calls Try.prog 34 #[.slice a n c, .slice a' n' c', .int .i64 lap] w fun e w' => e = .returned (.bool true) ∧ Below w.heap.size w w' := by
  have hm : n ≤ maxLen := Nat.le_trans h.2.1 h.2.2.1
  have hm' : n' ≤ maxLen := Nat.le_trans h'.2.1 h'.2.2.1
  unfold maxLen at hm hm'
  have HXB := Lib.hid (fun k (hk : k < n) => hx _ (getD_mem (xs := xs) (i := k) (by rw [h.1]; exact hk)))
  have HYB := Lib.hid (fun k (hk : k < n') => hy _ (getD_mem (xs := ys) (i := k) (by rw [h'.1]; exact hk)))
  have HA := Lib.hid (fun i j (hi : i < n) (hj : j < n') => apartU_at hA (i := i) (j := j) (by rw [h.1]; exact hi) (by rw [h'.1]; exact hj))
  have H := Lib.hid h
  have H' := Lib.hid h'
  clear h h' hx hy hA
  go_enter Try.func34, Try.ntmps34
  go_wp2_with fail
  go_loopw [7, 8] (fun i _ wr => ∃ k : Nat, k ≤ n ∧ i = .int .i64 (k : Int) ∧ Below w.heap.size w wr) (fun i _ _ => (n - intOf i).toNat)
  case atStart => exact ⟨0, by omega, rfl, (by repeat (first | exact Below.refl _ _ | assumption | refine Below.drew ?_ | refine below_drewN ?_ _ | refine Below.alloc ?_ (by first | omega | (simp; done) | (simp; omega)) _ | refine Below.setCell ?_ (by first | omega | (simp; done) | (simp; omega)) _))⟩
  case round =>
    obtain ⟨k, hk, rfl, hB⟩ := hrel
    by_cases hlt : k < n
    · have hlt' : (k : Int) < (n : Int) := by omega
      obtain ⟨b, o, rfl, hb, hc⟩ := (H.out.below hB).cell hlt
      obtain ⟨x0, x1⟩ := HXB.out k hlt
      have HAk := Lib.hid (fun j (hj : j < n') => HA.out k j hlt hj)
      have HCX := Lib.hid (fun W (hW : Below w.heap.size w W) => (H.out.below hW).cell hlt)
      generalize xs.getD k 0 = x at *
      have HB := Lib.hid hB
      clear hc hB
      go_wp2_with fail
      obtain ⟨wo, hwo⟩ : ∃ wo : World, wo = wr := ⟨_, rfl⟩
      rw [← hwo] at HB ⊢
      clear hwo
      go_loopw [8] (fun i wz => ∃ j : Nat, j ≤ n' ∧ i = .int .i64 (j : Int) ∧ Below w.heap.size w wz) (fun i _ => (n' - intOf i).toNat)
      case atStart => exact ⟨0, by omega, rfl, HB.out⟩
      case round =>
        obtain ⟨j, hj, rfl, hBz⟩ := hrel
        by_cases hlj : j < n'
        · have hlj' : (j : Int) < (n' : Int) := by omega
          obtain ⟨b', o', rfl, hb', hc'⟩ := (H'.out.below hBz).cell hlj
          obtain ⟨rx, ox, hrx, _, hcx⟩ := HCX.out _ hBz
          injection hrx with hrx
          injection hrx with hr1 hr2
          subst hr1 hr2
          obtain ⟨y0, y1⟩ := HYB.out j hlj
          have hAp := HAk.out j hlj
          generalize ys.getD j 0 = y at *
          have i1 := IntWalk.i64_in (x - y) (by omega)
          have i2 := IntWalk.i64_in (y - x) (by omega)
          obtain ⟨m, hm1⟩ : ∃ m, (if x - y ≤ y - x then y - x else x - y) = m := ⟨_, rfl⟩
          have hm2 : (if x - y < y - x then y - x else x - y) = m := by rw [← hm1]; repeat' split
                                                                        all_goals omega
          have hm3 : max (x - y) (y - x) = m := by rw [← hm1]; split <;> omega
          have hml : lap ≤ m := by rw [← hm3]; exact hAp
          have t2 : decide (m < lap) = false := decide_eq_false (by omega)
          clear hAp
          go_wp2
          go_quiet (fail)
          clear i1 i2 hm1 hm2
          go_wp2
          go_roundw
          case rel => exact ⟨j + 1, by omega, by go_num, (by repeat (first | exact Below.refl _ _ | assumption | refine Below.drew ?_ | refine below_drewN ?_ _ | refine Below.alloc ?_ (by first | omega | (simp; done) | (simp; omega)) _ | refine Below.setCell ?_ (by first | omega | (simp; done) | (simp; omega)) _))⟩
          case measure => first | (simp [intOf]; done) | (simp [intOf]; omega)
        · obtain rfl : j = n' := by omega
          go_wp2
          go_roundw
          case rel => exact ⟨k + 1, by omega, by go_num, hBz⟩
          case measure => first | (simp [intOf]; done) | (simp [intOf]; omega)
    · obtain rfl : k = n := by omega
      go_wp2
      go_ret
      exact ⟨rfl, hB⟩
end Go.Proofs.Ytklhaanapembdaa
