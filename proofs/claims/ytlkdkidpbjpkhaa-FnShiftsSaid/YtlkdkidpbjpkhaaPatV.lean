/- Contracts of ValidPattern, program and reference: whether rows are a pattern; no old memory turns; condition: the slice can be read. -/
import Derived.Test.YtlkdkidpbjpkhaaSame
import Derived.Test.YtlkdkidpbjpkhaaNum
import Derived.Test.YtlkdkidpbjpkhaaShelf
import Derived.Outline
namespace Go.Proofs.Ytlkdkidpbjpkhaa
open Go.RowKit

/-- A byte of a pattern. -/
def patC (c : UInt8) : Bool := decide (c = 35) || decide (c = 46)
def onlyB (s : ByteArray) : Bool := (List.range s.size).all fun i => patC (s.data.toList.getD i 0)
theorem onlyB_t {s : ByteArray} (h : onlyB s = true) (i : Nat) (hi : i < s.size) : patC (s.data.toList.getD i 0) = true := List.all_eq_true.1 h i (by simpa using hi)
theorem onlyB_mk {s : ByteArray} (h : ∀ i, i < s.size → patC (s.data.toList.getD i 0) = true) : onlyB s = true := List.all_eq_true.2 fun i hi => h i (by simpa using hi)
theorem onlyB_no {s : ByteArray} {i : Nat} (hi : i < s.size) (h : patC (s.data.toList.getD i 0) = false) : onlyB s = false := by
  cases e : onlyB s
  · rfl
  · rw [onlyB_t e i hi] at h; cases h
theorem byteAt (s : ByteArray) (i : Nat) (hi : i < s.size) : s.data.toList.getD i 0 = s[i] := by
  rw [List.getD_eq_getElem?_getD, List.getElem?_eq_getElem (by simpa using hi)]
  rfl
theorem index_pat (c : UInt8) : decide (Lib.indexByte [35, 46] c < 0) = !patC c := by
  unfold Lib.indexByte Lib.indexByte Lib.indexByte patC
  by_cases h1 : c = 35
  · subst h1; decide
  · by_cases h2 : c = 46
    · subst h2; decide
    · have e1 : ((35 : UInt8) == c) = false := by simpa using fun e => h1 e.symm
      have e2 : ((46 : UInt8) == c) = false := by simpa using fun e => h2 e.symm
      simp [e1, e2, h1, h2]
/-- A row of a pattern whose rows have n bytes. -/
def rowB (n : Nat) (s : ByteArray) : Bool := inB (s.size : Int) 1 24 && (decide (s.size = n) && onlyB s)
/-- All rows are rows of a pattern. -/
def rowsB (n : Nat) (ss : List ByteArray) : Bool := (List.range ss.length).all fun i => rowB n (ss.getD i ByteArray.empty)
theorem rowsB_t {n : Nat} {ss : List ByteArray} (h : rowsB n ss = true) (k : Nat) (hk : k < ss.length) : rowB n (ss.getD k ByteArray.empty) = true := List.all_eq_true.1 h k (by simpa using hk)
theorem rowsB_mk {n : Nat} {ss : List ByteArray} (h : ∀ k, k < ss.length → rowB n (ss.getD k ByteArray.empty) = true) : rowsB n ss = true := List.all_eq_true.2 fun k hk => h k (by simpa using hk)
theorem rowsB_no {n : Nat} {ss : List ByteArray} {k : Nat} (hk : k < ss.length) (h : rowB n (ss.getD k ByteArray.empty) = false) : rowsB n ss = false := by
  cases e : rowsB n ss
  · rfl
  · rw [rowsB_t e k hk] at h; cases h
def patN (ss : List ByteArray) : Nat := (ss.getD 0 ByteArray.empty).size
def patB (ss : List ByteArray) : Bool := inB (ss.length : Int) 1 24 && rowsB (patN ss) ss
theorem patB_t {ss : List ByteArray} (h : patB ss = true) : 1 ≤ ss.length ∧ ss.length ≤ 24 ∧ 1 ≤ patN ss ∧ patN ss ≤ 24 ∧ (∀ i, i < ss.length → (ss.getD i ByteArray.empty).size = patN ss ∧ onlyB (ss.getD i ByteArray.empty) = true) := by
  simp only [patB, Bool.and_eq_true] at h
  obtain ⟨h1, h2⟩ := h
  have h1 := inB_t h1
  have hr : ∀ i, i < ss.length → 1 ≤ patN ss ∧ patN ss ≤ 24 ∧ (ss.getD i ByteArray.empty).size = patN ss ∧ onlyB (ss.getD i ByteArray.empty) = true := by
    intro i hi
    have := rowsB_t h2 i hi
    simp only [rowB, Bool.and_eq_true, decide_eq_true_eq] at this
    obtain ⟨g1, g2, g3⟩ := this
    have g1 := inB_t g1
    exact ⟨by omega, by omega, g2, g3⟩
  have := hr 0 (by omega)
  exact ⟨by omega, by omega, this.1, this.2.1, fun i hi => (hr i hi).2.2⟩
theorem indexPat_any (c : UInt8) (w : World) :
    Calls Try.prog 72 #[.string ⟨#[35, 46]⟩, .int .u8 (c.toNat : Int)] w fun e w' => (∃ v : Int, e = .returned (.int .i64 v) ∧ decide (v < 0) = !patC c) ∧ w = w' := by
  refine (indexByte_any _ _ _).mono ?_
  rintro e w' ⟨rfl, rfl⟩
  refine ⟨⟨_, rfl, ?_⟩, rfl⟩
  have e : ((c.toNat : Int).toNat.toUInt8) = c := by simp
  rw [e]
  exact index_pat c
set_option maxHeartbeats 1000000 in
theorem onlyOf_any (s : ByteArray) (w : World) (hs : s.size ≤ maxLen) :
    Calls Try.prog 53 #[.string s, .string ⟨#[35, 46]⟩] w fun e w' => e = .returned (.bool (onlyB s)) ∧ w = w' := by
  unfold maxLen at hs
  go_enter Try.func53, Try.ntmps53
  go_wp2
  go_loop [5, 8] (fun _ i => ∃ k : Nat, k ≤ s.size ∧ i = .int .i64 (k : Int) ∧ ∀ m, m < k → patC (s.data.toList.getD m 0) = true) (fun _ i => (s.size - intOf i).toNat)
  case atStart => exact ⟨0, by omega, rfl, fun m hm => by omega⟩
  case round =>
    obtain ⟨k, hk, rfl, hI⟩ := hrel
    have HI := Lib.hid hI
    clear hI
    by_cases hlt : k < s.size
    · have hlt' : (k : Int) < (s.size : Int) := by omega
      have HB := Lib.hid (byteAt s k hlt)
      cases hx : patC s[k]
      · have HR : Hid (onlyB s = false) := Lib.hid (onlyB_no hlt (by rw [HB.out]; exact hx))
        have HX := Lib.hid hx
        clear hx
        go_wp2_with fail
        refine (indexPat_any _ _).mono ?_
        rintro e1 w1 ⟨⟨v, rfl, hv⟩, rfl⟩
        rw [HX.out] at hv
        have hv1 : decide (v < 0) = true := hv
        have hv2 : v < 0 := of_decide_eq_true hv1
        clear hv hv1
        go_wp2
        go_ret
        exact ⟨ret_bool (by rw [HR.out]), rfl⟩
      · have HN : Hid (∀ m, m < k + 1 → patC (s.data.toList.getD m 0) = true) := Lib.hid fun m hm => by
          rcases Nat.lt_succ_iff_lt_or_eq.1 hm with h | rfl
          · exact HI.out m h
          · rw [HB.out]; exact hx
        have HX := Lib.hid hx
        clear hx
        go_wp2_with fail
        refine (indexPat_any _ _).mono ?_
        rintro e1 w1 ⟨⟨v, rfl, hv⟩, rfl⟩
        rw [HX.out] at hv
        have hv2 : ¬ v < 0 := of_decide_eq_false hv
        clear hv
        go_wp2
        go_round
        case rel => exact ⟨k + 1, by omega, by go_num, HN.out⟩
        case measure => simp [intOf]; omega
    · obtain rfl : k = s.size := by omega
      have HR : Hid (onlyB s = true) := Lib.hid (onlyB_mk HI.out)
      go_wp2
      go_ret
      exact ⟨ret_bool (by rw [HR.out]), rfl⟩
set_option maxHeartbeats 1000000 in
theorem validC_any (s : ByteArray) (b : Nat) (a : Option Addr) (len cap : Nat) (ss : List ByteArray) (w : World) (hs : s.size ≤ maxLen) (hc : w.cell? ⟨b, 0, none⟩ = some (.slice a len cap)) (h : IsStrs w a len cap ss) (hl : 0 < len) :
    Calls Try.prog 52 #[.string s, .pointer (some ⟨b, 0, none⟩)] w fun e w' => e = .returned (.bool (!rowB (patN ss) s)) ∧ w = w' := by
  obtain ⟨b0, o0, rfl, hb, hc0⟩ := h.cell hl
  have hm0 := h.max 0
  have HM := Lib.hid hs
  have hl' : (0 : Int) < (len : Int) := by omega
  have HR : Hid (rowB (patN ss) s = (inB (s.size : Int) 1 24 && (decide (s.size = (ss.getD 0 ByteArray.empty).size) && onlyB s))) := Lib.hid rfl
  have hm1 := hs
  unfold maxLen at hm0 hm1
  have HW := Lib.hid (fun W => within_any (s.size : Int) 1 24 W)
  have HO := Lib.hid (fun W => onlyOf_any s W hs)
  simp only [Nat.add_zero] at hc0
  generalize ss.getD 0 ByteArray.empty = x at *
  clear h hs hl
  cases e1 : inB (s.size : Int) 1 24
  · have X1 := Lib.hid e1
    rw [e1] at HW
    clear e1
    go_enter Try.func52, Try.ntmps52
    go_wp2_with fail
    refine (HW.out _).mono ?_
    rintro e1 w1 ⟨rfl, rfl⟩
    go_wp2
    go_ret
    exact ⟨ret_bool (by rw [HR.out, X1.out]; rfl), rfl⟩
  · have X1 := Lib.hid e1
    rw [e1] at HW
    clear e1
    by_cases e2 : s.size = x.size
    · have X2 : Hid (decide (s.size = x.size) = true) := Lib.hid (decide_eq_true e2)
      have T2 : ((s.size : Int) != (x.size : Int)) = false := by simp; omega
      clear e2
      cases e3 : onlyB s
      all_goals
        have X3 := Lib.hid e3
        rw [e3] at HO
        clear e3
        go_enter Try.func52, Try.ntmps52
        go_wp2_with fail
        refine (HW.out _).mono ?_
        rintro e1 w1 ⟨rfl, rfl⟩
        go_wp2_with fail
        refine (HO.out _).mono ?_
        rintro e2 w2 ⟨rfl, rfl⟩
        go_wp2
        go_ret
        exact ⟨ret_bool (by rw [HR.out, X1.out, X2.out, X3.out]; rfl), rfl⟩
    · have X2 : Hid (decide (s.size = x.size) = false) := Lib.hid (decide_eq_false e2)
      have T2 : ((s.size : Int) != (x.size : Int)) = true := by simp; omega
      clear e2
      go_enter Try.func52, Try.ntmps52
      go_wp2_with fail
      refine (HW.out _).mono ?_
      rintro e1 w1 ⟨rfl, rfl⟩
      go_wp2
      go_ret
      exact ⟨ret_bool (by rw [HR.out, X1.out, X2.out]; rfl), rfl⟩
set_option maxHeartbeats 1000000 in
theorem indexS_any (a : Option Addr) (len cap : Nat) (ss : List ByteArray) (b : Nat) (w : World) (hc : w.cell? ⟨b, 0, none⟩ = some (.slice a len cap)) (h : IsStrs w a len cap ss) :
    Calls Try.prog 71 #[.slice a len cap, .func (Fn.func 52) #[] #[.pointer (some ⟨b, 0, none⟩)]] w
      fun e w' => (∃ r : Int, e = .returned (.int .i64 r) ∧ -1 ≤ r ∧ r ≤ 9223372036854775807 ∧ (decide (0 ≤ r)) = !rowsB (patN ss) ss) ∧ w = w' := by
  have hl := h.1
  have hm : len ≤ maxLen := Nat.le_trans h.2.1 h.2.2.1
  unfold maxLen at hm
  have H := Lib.hid h
  have HL := Lib.hid hl
  have HX := Lib.hid h.max
  have HC := Lib.hid (fun s hs hlen => validC_any s b a len cap ss w hs hc h hlen)
  clear h hl
  go_enter Try.func71, Try.ntmps71
  go_wp2
  go_loop [5, 8] (fun _ i => ∃ k : Nat, k ≤ len ∧ i = .int .i64 (k : Int) ∧ ∀ m, m < k → rowB (patN ss) (ss.getD m ByteArray.empty) = true) (fun _ i => (len - intOf i).toNat)
  case atStart => exact ⟨0, by omega, rfl, fun m hm => by omega⟩
  case round =>
    obtain ⟨k, hk, rfl, hI⟩ := hrel
    have HI := Lib.hid hI
    clear hI
    by_cases hlt : k < len
    · obtain ⟨b', o', rfl, hb', hc'⟩ := H.out.cell hlt
      have hlt' : (k : Int) < (len : Int) := by omega
      have hx0 := HX.out k
      cases hx : rowB (patN ss) (ss.getD k ByteArray.empty)
      · have HR := Lib.hid (rowsB_no (by rw [HL.out]; exact hlt) hx)
        have HY := Lib.hid hx
        clear hx
        generalize ss.getD k ByteArray.empty = x at *
        go_wp2_with fail
        refine (HC.out _ hx0 (by omega)).mono ?_
        rintro e1 w1 ⟨rfl, rfl⟩
        rw [HY.out]
        go_wp2
        go_ret
        exact ⟨⟨k, rfl, by omega, by omega, by rw [HR.out]; simp⟩, rfl⟩
      · have HN : Hid (∀ m, m < k + 1 → rowB (patN ss) (ss.getD m ByteArray.empty) = true) := Lib.hid fun m hm => by
          rcases Nat.lt_succ_iff_lt_or_eq.1 hm with h | rfl
          · exact HI.out m h
          · exact hx
        have HY := Lib.hid hx
        clear hx
        generalize ss.getD k ByteArray.empty = x at *
        go_wp2_with fail
        refine (HC.out _ hx0 (by omega)).mono ?_
        rintro e1 w1 ⟨rfl, rfl⟩
        rw [HY.out]
        go_wp2
        go_round
        case rel => exact ⟨k + 1, by omega, by go_num, HN.out⟩
        case measure => simp [intOf]; omega
    · obtain rfl : k = len := by omega
      have HR := Lib.hid (rowsB_mk (n := patN ss) (fun m hm => HI.out m (by rw [HL.out] at hm; exact hm)))
      go_wp2
      go_ret
      exact ⟨⟨-1, rfl, by omega, by omega, by rw [HR.out]; rfl⟩, rfl⟩
set_option maxHeartbeats 400000 in
theorem containsS_any (a : Option Addr) (len cap : Nat) (ss : List ByteArray) (b : Nat) (w : World) (hc : w.cell? ⟨b, 0, none⟩ = some (.slice a len cap)) (h : IsStrs w a len cap ss) :
    Calls Try.prog 51 #[.slice a len cap, .func (Fn.func 52) #[] #[.pointer (some ⟨b, 0, none⟩)]] w
      fun e w' => e = .returned (.bool (!rowsB (patN ss) ss)) ∧ w = w' := by
  go_enter Try.func51, Try.ntmps51
  go_wp2_with fail
  refine (indexS_any _ _ _ _ _ _ hc h).mono ?_
  rintro e1 w1 ⟨⟨r, rfl, r1, r2, hr⟩, rfl⟩
  go_wp2
  go_ret
  exact ⟨ret_bool (by rw [← hr]), rfl⟩
set_option maxHeartbeats 1000000 in
theorem validPattern_any (a : Option Addr) (len cap : Nat) (ss : List ByteArray) (w : World) (h : IsStrs w a len cap ss) :
    Calls Try.prog 22 #[.slice a len cap] w fun e w' => e = .returned (.bool (patB ss)) ∧ Below w.heap.size w w' := by
  have hl := h.1
  have HR : Hid (patB ss = (inB (len : Int) 1 24 && rowsB (patN ss) ss)) := Lib.hid (by unfold patB; rw [hl])
  have H := Lib.hid h
  have HW := Lib.hid (fun W => within_any (len : Int) 1 24 W)
  clear h hl
  cases e1 : inB (len : Int) 1 24
  · have X1 := Lib.hid e1
    rw [e1] at HW
    clear e1
    go_enter Try.func22, Try.ntmps22
    go_wp2_with fail
    refine (HW.out _).mono ?_
    rintro e1 w1 ⟨rfl, rfl⟩
    go_wp2
    go_ret
    exact ⟨ret_bool (by rw [HR.out, X1.out]; rfl), (by repeat (first | exact Below.refl _ _ | assumption | refine Below.drew ?_ | refine below_drewN ?_ _ | refine Below.alloc ?_ (by first | omega | (simp; done) | (simp; omega)) _ | refine Below.setCell ?_ (by first | omega | (simp; done) | (simp; omega)) _))⟩
  · have X1 := Lib.hid e1
    rw [e1] at HW
    clear e1
    go_enter Try.func22, Try.ntmps22
    go_wp2_with fail
    refine (HW.out _).mono ?_
    rintro e1 w1 ⟨rfl, rfl⟩
    go_wp2_with fail
    refine (containsS_any _ _ _ _ _ _ (by simp [go_sem]) (H.out.below (by repeat (first | exact Below.refl _ _ | assumption | refine Below.drew ?_ | refine below_drewN ?_ _ | refine Below.alloc ?_ (by first | omega | (simp; done) | (simp; omega)) _ | refine Below.setCell ?_ (by first | omega | (simp; done) | (simp; omega)) _)))).mono ?_
    rintro e2 w2 ⟨rfl, rfl⟩
    go_wp2
    go_ret
    exact ⟨ret_bool (by rw [HR.out, X1.out]; simp), (by repeat (first | exact Below.refl _ _ | assumption | refine Below.drew ?_ | refine below_drewN ?_ _ | refine Below.alloc ?_ (by first | omega | (simp; done) | (simp; omega)) _ | refine Below.setCell ?_ (by first | omega | (simp; done) | (simp; omega)) _))⟩
end Go.Proofs.Ytlkdkidpbjpkhaa
