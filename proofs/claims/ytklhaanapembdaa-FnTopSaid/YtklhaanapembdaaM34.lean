/- The plain law of courses: quarters, cut pieces, perpends; a course of odd length has a cut piece; no program in sight. -/
import Derived.Test.YtklhaanapembdaaBase
import Derived.Test.YtklhaanapembdaaM01

namespace Go.Proofs.Ytklhaanapembdaa
set_option linter.unusedVariables false

/-- The quarters of a piece, and whether it is cut. -/
def qU (c : UInt8) : Int := if c = 83 then 4 else if c = 84 then 3 else if c = 72 then 2 else if c = 66 then 2 else if c = 67 then 1 else 0
def kU (c : UInt8) : Bool := decide (c = 84) || (decide (c = 66) || decide (c = 67))
def cU (c : UInt8) : Int := if kU c then 1 else 0
def sumU : List UInt8 → Int
  | [] => 0
  | c :: cs => qU c + sumU cs
def cutU : List UInt8 → Int
  | [] => 0
  | c :: cs => cU c + cutU cs
theorem qU_bd (c : UInt8) : 0 ≤ qU c ∧ qU c ≤ 4 := by
  unfold qU; repeat' split
  all_goals omega
theorem cU_bd (c : UInt8) : 0 ≤ cU c ∧ cU c ≤ 1 := by unfold cU; split <;> omega
theorem qU_odd (c : UInt8) : qU c % 2 ≤ cU c := by
  have hb := cU_bd c
  by_cases h1 : c = 83
  · subst h1; decide
  · by_cases h2 : c = 84
    · subst h2; decide
    · by_cases h3 : c = 72
      · subst h3; decide
      · by_cases h4 : c = 66
        · subst h4; decide
        · by_cases h5 : c = 67
          · subst h5; decide
          · unfold qU; rw [if_neg h1, if_neg h2, if_neg h3, if_neg h4, if_neg h5]; omega
theorem sumU_append (l m : List UInt8) : sumU (l ++ m) = sumU l + sumU m := by
  induction l with
  | nil => simp [sumU]
  | cons c l ih => simp only [List.cons_append, sumU, ih]; omega
theorem cutU_append (l m : List UInt8) : cutU (l ++ m) = cutU l + cutU m := by
  induction l with
  | nil => simp [cutU]
  | cons c l ih => simp only [List.cons_append, cutU, ih]; omega
theorem sumU_bd (l : List UInt8) : 0 ≤ sumU l ∧ sumU l ≤ 4 * l.length := by
  induction l with
  | nil => simp [sumU]
  | cons c l ih => have := qU_bd c; simp only [sumU, List.length_cons]; omega
theorem cutU_bd (l : List UInt8) : 0 ≤ cutU l ∧ cutU l ≤ l.length := by
  induction l with
  | nil => simp [cutU]
  | cons c l ih => have := cU_bd c; simp only [cutU, List.length_cons]; omega
/-- A course of odd length has a cut piece. -/
theorem odd_cut (l : List UInt8) : sumU l % 2 ≤ cutU l := by
  induction l with
  | nil => simp [sumU, cutU]
  | cons c l ih => have := qU_odd c; simp only [sumU, cutU]; omega
/-- All are pieces. -/
def Pcs (l : List UInt8) : Prop := ∀ c ∈ l, 1 ≤ qU c
theorem pcs_len {l : List UInt8} (h : Pcs l) : (l.length : Int) ≤ sumU l := by
  induction l with
  | nil => simp [sumU]
  | cons c l ih =>
    have h1 := h c (by simp)
    have h2 := ih (fun x hx => h x (by simp [hx]))
    simp only [sumU, List.length_cons]; omega
theorem Pcs.append {l m : List UInt8} (h : Pcs l) (k : Pcs m) : Pcs (l ++ m) := fun c hc => by
  rcases List.mem_append.1 hc with h1 | h1
  · exact h c h1
  · exact k c h1
theorem Pcs.one {c : UInt8} (h : 1 ≤ qU c) : Pcs [c] := fun x hx => by rw [List.mem_singleton.1 hx]; exact h
theorem Pcs.at {l : List UInt8} (h : Pcs l) {i : Nat} (hi : i < l.length) : 1 ≤ qU (l.getD i 0) := by
  refine h _ ?_
  rw [List.getD_eq_getElem?_getD, List.getElem?_eq_getElem hi]; exact List.getElem_mem hi
/-- What lies before a piece, with it and without. -/
theorem take_snoc (l : List UInt8) (k : Nat) (h : k < l.length) : l.take (k + 1) = l.take k ++ [l.getD k 0] := by
  rw [List.take_succ_eq_append_getElem h, List.getD_eq_getElem?_getD, List.getElem?_eq_getElem h]; rfl
def preU (s : ByteArray) (k : Nat) : Int := sumU (s.data.toList.take k)
def preC (s : ByteArray) (k : Nat) : Int := cutU (s.data.toList.take k)
def bU (s : ByteArray) (k : Nat) : UInt8 := s.data.toList.getD k 0
theorem bU_at (s : ByteArray) (i : Nat) (hi : i < s.size) : bU s i = s[i] := by
  unfold bU
  rw [List.getD_eq_getElem?_getD, List.getElem?_eq_getElem (by simpa using hi)]
  rfl
theorem preU_zero (s : ByteArray) : preU s 0 = 0 := by simp [preU, sumU]
theorem preC_zero (s : ByteArray) : preC s 0 = 0 := by simp [preC, cutU]
theorem preU_succ (s : ByteArray) (k : Nat) (h : k < s.size) : preU s (k + 1) = preU s k + qU (bU s k) := by
  unfold preU bU
  rw [take_snoc _ _ (by simpa using h), sumU_append]; simp [sumU]
theorem preC_succ (s : ByteArray) (k : Nat) (h : k < s.size) : preC s (k + 1) = preC s k + cU (bU s k) := by
  unfold preC bU
  rw [take_snoc _ _ (by simpa using h), cutU_append]; simp [cutU]
theorem preU_all (s : ByteArray) : preU s s.size = sumU s.data.toList := by
  unfold preU; rw [List.take_of_length_le (by simp)]
theorem preC_all (s : ByteArray) : preC s s.size = cutU s.data.toList := by
  unfold preC; rw [List.take_of_length_le (by simp)]
theorem preU_bd (s : ByteArray) (k : Nat) : 0 ≤ preU s k ∧ preU s k ≤ 4 * k := by
  have := sumU_bd (s.data.toList.take k)
  have h2 : (s.data.toList.take k).length ≤ k := List.length_take_le _ _
  unfold preU; omega
theorem preC_bd (s : ByteArray) (k : Nat) : 0 ≤ preC s k ∧ preC s k ≤ k := by
  have := cutU_bd (s.data.toList.take k)
  have h2 : (s.data.toList.take k).length ≤ k := List.length_take_le _ _
  unfold preC; omega
/-- A course of a length. -/
structure Cour (L : Int) (s : ByteArray) : Prop where
  s0 : 1 ≤ s.size
  s1 : s.size ≤ 60
  pc : Pcs s.data.toList
  sm : sumU s.data.toList = L
  l1 : L ≤ 200
theorem cour_mk {L : Int} {s : ByteArray} (h : Pcs s.data.toList) (hs : sumU s.data.toList = L) (h1 : 1 ≤ L) (h2 : L ≤ 40) : Cour L s := by
  have hl := pcs_len h
  have e : s.data.toList.length = s.size := by simp
  refine ⟨?_, by omega, h, hs, by omega⟩
  rcases Nat.eq_zero_or_pos s.size with h0 | h0
  · have hn : s.data.toList = [] := List.eq_nil_of_length_eq_zero (by omega)
    rw [hn] at hs; simp [sumU] at hs; omega
  · exact h0
theorem Cour.piece {L : Int} {s : ByteArray} (h : Cour L s) {k : Nat} (hk : k < s.size) : 1 ≤ qU (bU s k) := h.pc.at (by simpa using hk)
/-- The perpends of a course. -/
def perpU (s : ByteArray) : List Int := (List.range (s.size - 1)).map fun i => preU s (i + 1)
def perpK (s : ByteArray) (k : Nat) : List Int := (List.range k).map fun i => preU s (i + 1)
theorem perpK_succ (s : ByteArray) (k : Nat) : perpK s (k + 1) = perpK s k ++ [preU s (k + 1)] := by
  simp [perpK, List.range_succ]
theorem perpU_len (s : ByteArray) : (perpU s).length = s.size - 1 := by simp [perpU]
theorem perpU_bd (s : ByteArray) (h : s.size ≤ 60) : ∀ x ∈ perpU s, 0 ≤ x ∧ x ≤ 240 := by
  intro x hx
  simp only [perpU, List.mem_map, List.mem_range] at hx
  obtain ⟨i, hi, rfl⟩ := hx
  have := preU_bd s (i + 1)
  omega
/-- All perpends of two courses are apart. -/
def ApartU (a b : List Int) (lap : Int) : Prop := ∀ x ∈ a, ∀ y ∈ b, lap ≤ max (x - y) (y - x)
/-- Concatenation of a piece's letter and a text. -/
theorem sumU_join (a b : ByteArray) : sumU (a ++ b).data.toList = sumU a.data.toList + sumU b.data.toList := by
  rw [show (a ++ b).data.toList = a.data.toList ++ b.data.toList by simp, sumU_append]
theorem cutU_join (a b : ByteArray) : cutU (a ++ b).data.toList = cutU a.data.toList + cutU b.data.toList := by
  rw [show (a ++ b).data.toList = a.data.toList ++ b.data.toList by simp, cutU_append]
theorem pcs_join {a b : ByteArray} (h : Pcs a.data.toList) (k : Pcs b.data.toList) : Pcs (a ++ b).data.toList := by
  rw [show (a ++ b).data.toList = a.data.toList ++ b.data.toList by simp]; exact h.append k
/-! ### The best course -/
/-- A text of so many quarters, with so many cut pieces. -/
structure Good (r c : Int) (s : ByteArray) : Prop where
  pc : Pcs s.data.toList
  sm : sumU s.data.toList = r
  ct : cutU s.data.toList = c
theorem good_nil : Good 0 0 ByteArray.empty := ⟨fun c hc => by simp at hc, by simp [sumU], by simp [cutU]⟩
theorem Good.cons {r c : Int} {s t : ByteArray} {x : UInt8} (h : Good r c s) (ht : t.data.toList = [x]) (hx : 1 ≤ qU x) : Good (r + qU x) (c + cU x) (t ++ s) := by
  refine ⟨?_, ?_, ?_⟩
  · exact pcs_join (by rw [ht]; exact Pcs.one hx) h.pc
  · rw [sumU_join, ht, h.sm]; simp [sumU]; omega
  · rw [cutU_join, ht, h.ct]; simp [cutU]; omega
theorem Good.size {r c : Int} {s : ByteArray} (h : Good r c s) : (s.size : Int) ≤ r := by
  have := pcs_len h.pc
  have e : s.data.toList.length = s.size := by simp
  have := h.sm
  omega
end Go.Proofs.Ytklhaanapembdaa
/- Contracts of the small functions on pieces: their quarters, whether they are cut (program and reference), the reference's minimum of perpends; no condition but the course's. -/
namespace Go.Proofs.Ytklhaanapembdaa
set_option linter.unusedVariables false
open Go.RowKit

theorem u8_lit (c : UInt8) (n : Nat) (hn : n < 256) : ((c.toNat : Int) = (n : Int)) ↔ c = n.toUInt8 := by
  constructor
  · intro h
    have h1 : c.toNat = n := by omega
    rw [← h1]; simp
  · intro h
    subst h
    simp; omega
set_option maxHeartbeats 1000000 in
theorem quarters_any (c : UInt8) (w : World) :
    Calls Try.prog 121 #[.int .u8 (c.toNat : Int)] w fun e w' => e = .returned (.int .i64 (qU c)) ∧ w = w' := by
  have b := c.toNat_lt
  have e1 := u8_lit c 83 (by omega)
  have e2 := u8_lit c 84 (by omega)
  have e3 := u8_lit c 72 (by omega)
  have e4 := u8_lit c 66 (by omega)
  have e5 := u8_lit c 67 (by omega)
  by_cases h1 : c = 83
  · subst h1
    go_enter Try.func121, Try.ntmps121
    go_wp2
    go_ret
    exact ⟨rfl, rfl⟩
  by_cases h2 : c = 84
  · subst h2
    go_enter Try.func121, Try.ntmps121
    go_wp2
    go_ret
    exact ⟨rfl, rfl⟩
  by_cases h3 : c = 72
  · subst h3
    go_enter Try.func121, Try.ntmps121
    go_wp2
    go_ret
    exact ⟨rfl, rfl⟩
  by_cases h4 : c = 66
  · subst h4
    go_enter Try.func121, Try.ntmps121
    go_wp2
    go_ret
    exact ⟨rfl, rfl⟩
  by_cases h5 : c = 67
  · subst h5
    go_enter Try.func121, Try.ntmps121
    go_wp2
    go_ret
    exact ⟨rfl, rfl⟩
  have HQ := Lib.hid (show qU c = 0 by unfold qU; rw [if_neg h1, if_neg h2, if_neg h3, if_neg h4, if_neg h5])
  have k1 : ¬ (c.toNat : Int) = 83 := fun h => h1 (e1.1 h)
  have k2 : ¬ (c.toNat : Int) = 84 := fun h => h2 (e2.1 h)
  have k3 : ¬ (c.toNat : Int) = 72 := fun h => h3 (e3.1 h)
  have k4 : ¬ (c.toNat : Int) = 66 := fun h => h4 (e4.1 h)
  have k5 : ¬ (c.toNat : Int) = 67 := fun h => h5 (e5.1 h)
  clear e1 e2 e3 e4 e5 h1 h2 h3 h4 h5
  generalize hn : (c.toNat : Int) = n at *
  go_enter Try.func121, Try.ntmps121
  go_wp2
  go_ret
  exact ⟨ret_int (by rw [HQ.out]), rfl⟩
set_option maxHeartbeats 1000000 in
theorem l02Quarters_any (c : UInt8) (w : World) :
    Calls Try.prog 125 #[.int .u8 (c.toNat : Int)] w fun e w' => e = .returned (.int .i64 (qU c)) ∧ w = w' := by
  have b := c.toNat_lt
  have e1 := u8_lit c 83 (by omega)
  have e2 := u8_lit c 84 (by omega)
  have e3 := u8_lit c 72 (by omega)
  have e4 := u8_lit c 66 (by omega)
  have e5 := u8_lit c 67 (by omega)
  by_cases h1 : c = 83
  · subst h1
    go_enter Try.func125, Try.ntmps125
    go_wp2
    go_ret
    exact ⟨rfl, rfl⟩
  by_cases h2 : c = 84
  · subst h2
    go_enter Try.func125, Try.ntmps125
    go_wp2
    go_ret
    exact ⟨rfl, rfl⟩
  by_cases h3 : c = 72
  · subst h3
    go_enter Try.func125, Try.ntmps125
    go_wp2
    go_ret
    exact ⟨rfl, rfl⟩
  by_cases h4 : c = 66
  · subst h4
    go_enter Try.func125, Try.ntmps125
    go_wp2
    go_ret
    exact ⟨rfl, rfl⟩
  by_cases h5 : c = 67
  · subst h5
    go_enter Try.func125, Try.ntmps125
    go_wp2
    go_ret
    exact ⟨rfl, rfl⟩
  have HQ := Lib.hid (show qU c = 0 by unfold qU; rw [if_neg h1, if_neg h2, if_neg h3, if_neg h4, if_neg h5])
  have k1 : ¬ (c.toNat : Int) = 83 := fun h => h1 (e1.1 h)
  have k2 : ¬ (c.toNat : Int) = 84 := fun h => h2 (e2.1 h)
  have k3 : ¬ (c.toNat : Int) = 72 := fun h => h3 (e3.1 h)
  have k4 : ¬ (c.toNat : Int) = 66 := fun h => h4 (e4.1 h)
  have k5 : ¬ (c.toNat : Int) = 67 := fun h => h5 (e5.1 h)
  clear e1 e2 e3 e4 e5 h1 h2 h3 h4 h5
  generalize hn : (c.toNat : Int) = n at *
  go_enter Try.func125, Try.ntmps125
  go_wp2
  go_ret
  exact ⟨ret_int (by rw [HQ.out]), rfl⟩
set_option maxHeartbeats 1000000 in
theorem isCut_any (c : UInt8) (w : World) :
    Calls Try.prog 139 #[.int .u8 (c.toNat : Int)] w fun e w' => e = .returned (.bool (kU c)) ∧ w = w' := by
  have b := c.toNat_lt
  have e2 := u8_lit c 84 (by omega)
  have e4 := u8_lit c 66 (by omega)
  have e5 := u8_lit c 67 (by omega)
  by_cases h2 : c = 84
  · subst h2
    go_enter Try.func139, Try.ntmps139
    go_wp2
    go_ret
    exact ⟨rfl, rfl⟩
  by_cases h4 : c = 66
  · subst h4
    go_enter Try.func139, Try.ntmps139
    go_wp2
    go_ret
    exact ⟨rfl, rfl⟩
  by_cases h5 : c = 67
  · subst h5
    go_enter Try.func139, Try.ntmps139
    go_wp2
    go_ret
    exact ⟨rfl, rfl⟩
  have HQ := Lib.hid (show kU c = false by unfold kU; simp [h2, h4, h5])
  have k2 : ¬ (c.toNat : Int) = 84 := fun h => h2 (e2.1 h)
  have k4 : ¬ (c.toNat : Int) = 66 := fun h => h4 (e4.1 h)
  have k5 : ¬ (c.toNat : Int) = 67 := fun h => h5 (e5.1 h)
  clear e2 e4 e5 h2 h4 h5
  generalize hn : (c.toNat : Int) = n at *
  go_enter Try.func139, Try.ntmps139
  go_wp2
  go_ret
  exact ⟨ret_bool (by rw [HQ.out]; simp; omega), rfl⟩
set_option maxHeartbeats 1000000 in
theorem l02Cut_any (c : UInt8) (w : World) :
    Calls Try.prog 128 #[.int .u8 (c.toNat : Int)] w fun e w' => e = .returned (.bool (kU c)) ∧ w = w' := by
  have b := c.toNat_lt
  have e2 := u8_lit c 84 (by omega)
  have e4 := u8_lit c 66 (by omega)
  have e5 := u8_lit c 67 (by omega)
  by_cases h2 : c = 84
  · subst h2
    go_enter Try.func128, Try.ntmps128
    go_wp2
    go_ret
    exact ⟨rfl, rfl⟩
  by_cases h4 : c = 66
  · subst h4
    go_enter Try.func128, Try.ntmps128
    go_wp2
    go_ret
    exact ⟨rfl, rfl⟩
  by_cases h5 : c = 67
  · subst h5
    go_enter Try.func128, Try.ntmps128
    go_wp2
    go_ret
    exact ⟨rfl, rfl⟩
  have HQ := Lib.hid (show kU c = false by unfold kU; simp [h2, h4, h5])
  have k2 : ¬ (c.toNat : Int) = 84 := fun h => h2 (e2.1 h)
  have k4 : ¬ (c.toNat : Int) = 66 := fun h => h4 (e4.1 h)
  have k5 : ¬ (c.toNat : Int) = 67 := fun h => h5 (e5.1 h)
  clear e2 e4 e5 h2 h4 h5
  generalize hn : (c.toNat : Int) = n at *
  go_enter Try.func128, Try.ntmps128
  go_wp2
  go_ret
  exact ⟨ret_bool (by rw [HQ.out]; simp; omega), rfl⟩
end Go.Proofs.Ytklhaanapembdaa
