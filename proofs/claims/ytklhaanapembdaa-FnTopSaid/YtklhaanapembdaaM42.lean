/- The plain law of bonds: words of a text, names, courses of a bond; the texts of the library are valid; no program in sight. -/
import Derived.Test.YtklhaanapembdaaM34

namespace Go.Proofs.Ytklhaanapembdaa
set_option linter.unusedVariables false

/-- What lies ahead of place k is split: the words that have ended, and where the next one begins. -/
def splS (s : ByteArray) (c : UInt8) : Nat → List ByteArray × Nat
  | 0 => ([], 0)
  | k + 1 => if bU s k = c then ((splS s c k).1 ++ [s.extract (splS s c k).2 k], k + 1) else splS s c k
def spl (s : ByteArray) (c : UInt8) : List ByteArray := (splS s c s.size).1 ++ [s.extract (splS s c s.size).2 s.size]
theorem splS_bd (s : ByteArray) (c : UInt8) (k : Nat) : (splS s c k).2 ≤ k ∧ (splS s c k).1.length ≤ k := by
  induction k with
  | zero => exact ⟨Nat.le_refl _, Nat.le_refl _⟩
  | succ k ih =>
    unfold splS
    split
    · exact ⟨Nat.le_refl _, by simp; omega⟩
    · omega
theorem splS_yes (s : ByteArray) (c : UInt8) (k : Nat) (h : bU s k = c) : splS s c (k + 1) = ((splS s c k).1 ++ [s.extract (splS s c k).2 k], k + 1) := by
  show (if bU s k = c then _ else _) = _
  rw [if_pos h]
theorem splS_no (s : ByteArray) (c : UInt8) (k : Nat) (h : ¬ bU s k = c) : splS s c (k + 1) = splS s c k := by
  show (if bU s k = c then _ else _) = _
  rw [if_neg h]
theorem spl_len (s : ByteArray) (c : UInt8) : 1 ≤ (spl s c).length ∧ (spl s c).length ≤ s.size + 1 := by
  have := splS_bd s c s.size
  unfold spl; simp; omega
/-- A byte of a name. -/
def smlU (c : UInt8) : Bool := decide (97 ≤ c.toNat) && decide (c.toNat ≤ 122)
def digU (c : UInt8) : Bool := decide (48 ≤ c.toNat) && decide (c.toNat ≤ 57)
def chrU (c : UInt8) : Bool := smlU c || (digU c || decide (c = 45))
def namU (s : ByteArray) : Bool := decide (1 ≤ s.size) && (decide (s.size ≤ 12) && (smlU (bU s 0) && s.data.toList.all chrU))
theorem chrU_t {c : UInt8} (h : chrU c = true) : (97 ≤ c.toNat ∧ c.toNat ≤ 122) ∨ (48 ≤ c.toNat ∧ c.toNat ≤ 57) ∨ c.toNat = 45 := by
  simp only [chrU, smlU, digU, Bool.or_eq_true, Bool.and_eq_true, decide_eq_true_eq] at h
  rcases h with h | h | h
  · exact .inl h
  · exact .inr (.inl h)
  · subst h; exact .inr (.inr rfl)
theorem all_at {s : ByteArray} {p : UInt8 → Bool} (h : s.data.toList.all p = true) {k : Nat} (hk : k < s.size) : p (bU s k) = true := by
  rw [List.all_eq_true] at h
  refine h _ ?_
  unfold bU
  rw [List.getD_eq_getElem?_getD, List.getElem?_eq_getElem (by simpa using hk)]
  exact List.getElem_mem _
theorem namU_t {s : ByteArray} (h : namU s = true) : 1 ≤ s.size ∧ s.size ≤ 12 ∧ (97 ≤ (bU s 0).toNat ∧ (bU s 0).toNat ≤ 122) ∧ ∀ k, k < s.size → (97 ≤ (bU s k).toNat ∧ (bU s k).toNat ≤ 122) ∨ (48 ≤ (bU s k).toNat ∧ (bU s k).toNat ≤ 57) ∨ (bU s k).toNat = 45 := by
  simp only [namU, Bool.and_eq_true, decide_eq_true_eq] at h
  obtain ⟨h1, h2, h3, h4⟩ := h
  refine ⟨h1, h2, ?_, fun k hk => chrU_t (all_at h4 hk)⟩
  simpa [smlU] using h3
/-- A course of a bond: what it begins with, and what comes again. -/
def plnC (c : UInt8) : Bool := decide (c = 83) || decide (c = 72)
def pcsC (c : UInt8) : Bool := decide (1 ≤ qU c)
def crsB (p : ByteArray × ByteArray) : Bool := decide (p.1.size ≤ 6) && (p.1.data.toList.all pcsC && (decide (1 ≤ p.2.size) && (decide (p.2.size ≤ 8) && p.2.data.toList.all plnC)))
structure CrsOk (l c : ByteArray) : Prop where
  l6 : l.size ≤ 6
  lp : ∀ k, k < l.size → 1 ≤ qU (bU l k)
  c1 : 1 ≤ c.size
  c8 : c.size ≤ 8
  cp : ∀ k, k < c.size → bU c k = 83 ∨ bU c k = 72
theorem crsB_t {p : ByteArray × ByteArray} (h : crsB p = true) : CrsOk p.1 p.2 := by
  simp only [crsB, Bool.and_eq_true, decide_eq_true_eq] at h
  obtain ⟨h1, h2, h3, h4, h5⟩ := h
  refine ⟨h1, fun k hk => by simpa [pcsC] using all_at h2 hk, h3, h4, fun k hk => by simpa [plnC] using all_at h5 hk⟩
theorem all_mk {s : ByteArray} {p : UInt8 → Bool} (h : ∀ k, k < s.size → p (bU s k) = true) : s.data.toList.all p = true := by
  rw [List.all_eq_true]
  intro c hc
  obtain ⟨i, hi, rfl⟩ := List.mem_iff_getElem.1 hc
  have := h i (by simpa using hi)
  unfold bU at this
  rwa [List.getD_eq_getElem?_getD, List.getElem?_eq_getElem hi] at this
theorem crsB_mk {l c : ByteArray} (h : CrsOk l c) : crsB (l, c) = true := by
  unfold crsB
  have e1 := all_mk (s := l) (p := pcsC) (fun k hk => by simpa [pcsC] using h.lp k hk)
  have e2 := all_mk (s := c) (p := plnC) (fun k hk => by simpa [plnC] using h.cp k hk)
  simp only [Bool.and_eq_true, decide_eq_true_eq]
  exact ⟨h.l6, e1, h.c1, h.c8, e2⟩
theorem plain_q {c : UInt8} (h : c = 83 ∨ c = 72) : 1 ≤ qU c := by
  rcases h with rfl | rfl <;> decide
/-- The courses of a bond. -/
def bndB (cs : List (ByteArray × ByteArray)) : Bool := decide (1 ≤ cs.length) && (decide (cs.length ≤ 8) && cs.all crsB)
theorem bndB_t {cs : List (ByteArray × ByteArray)} (h : bndB cs = true) : 1 ≤ cs.length ∧ cs.length ≤ 8 ∧ ∀ p ∈ cs, CrsOk p.1 p.2 := by
  simp only [bndB, Bool.and_eq_true, decide_eq_true_eq, List.all_eq_true] at h
  exact ⟨h.1, h.2.1, fun p hp => crsB_t (h.2.2 p hp)⟩
theorem bndB_mk {cs : List (ByteArray × ByteArray)} (h1 : 1 ≤ cs.length) (h2 : cs.length ≤ 8) (h : ∀ p ∈ cs, crsB p = true) : bndB cs = true := by
  simp only [bndB, Bool.and_eq_true, decide_eq_true_eq, List.all_eq_true]
  exact ⟨h1, h2, h⟩
/-- The course of a word. -/
def wrdC (w : ByteArray) : ByteArray × ByteArray := if (spl w 43).length = 2 then ((spl w 43).getD 0 ByteArray.empty, (spl w 43).getD 1 ByteArray.empty) else (ByteArray.empty, (spl w 43).getD 0 ByteArray.empty)
def wrdB (w : ByteArray) : Bool := decide (w.size ≤ 100) && (decide ((spl w 43).length ≤ 2) && ((decide ((spl w 43).length = 1) || decide (1 ≤ ((spl w 43).getD 0 ByteArray.empty).size)) && crsB (wrdC w)))
def txtB (s : ByteArray) : Bool := decide (s.size ≤ 100) && (namU ((spl s 32).getD 0 ByteArray.empty) && (decide (2 ≤ (spl s 32).length) && (decide ((spl s 32).length ≤ 9) && ((spl s 32).drop 1).all wrdB)))
/-- The texts of the library. -/
def libT : List ByteArray := [⟨#[115, 116, 114, 101, 116, 99, 104, 101, 114, 32, 83, 32, 66, 43, 83]⟩, ⟨#[104, 101, 97, 100, 101, 114, 32, 72, 32, 67, 43, 72]⟩, ⟨#[101, 110, 103, 108, 105, 115, 104, 32, 83, 32, 72, 67, 43, 72]⟩, ⟨#[102, 108, 101, 109, 105, 115, 104, 32, 83, 72, 32, 72, 67, 43, 83, 72]⟩, ⟨#[103, 97, 114, 100, 101, 110, 32, 83, 32, 66, 43, 83, 32, 83, 32, 72, 67, 43, 72]⟩]
theorem libT_ok : libT.all txtB = true := by decide
end Go.Proofs.Ytklhaanapembdaa
/- Contracts of IsName, program and reference: the text is a name; condition: it is one. -/
namespace Go.Proofs.Ytklhaanapembdaa
set_option linter.unusedVariables false
open Go.RowKit

set_option maxRecDepth 100000 in
set_option maxHeartbeats 2000000 in
theorem isName_yes (s : ByteArray) (w : World) (h : namU s = true) :
    Calls Try.prog 115 #[.string s] w fun e w' => e = .returned (.bool true) ∧ w = w' := by
  obtain ⟨h1, h2, ⟨h3, h4⟩, h5⟩ := namU_t h
  have HK := Lib.hid h5
  rw [bU_at s 0 h1] at h3 h4
  have h3' : ¬ (s[0].toNat : Int) < 97 := by omega
  have h4' : ¬ (122 : Int) < (s[0].toNat : Int) := by omega
  have h0 : (0 : Int) < (s.size : Int) := by omega
  clear h h5 h3 h4
  go_enter Try.func115, Try.ntmps115
  go_wp2_with fail
  clear h3' h4'
  go_loop [3] (fun i => ∃ k : Nat, k ≤ s.size ∧ i = .int .i64 (k : Int)) (fun i => (s.size - intOf i).toNat)
  case atStart => exact ⟨1, by omega, rfl⟩
  case round =>
    obtain ⟨k, hk, rfl⟩ := hrel
    by_cases hlt : k < s.size
    · have hlt' : (k : Int) < (s.size : Int) := by omega
      have hc := HK.out k hlt
      rw [bU_at s k hlt] at hc
      have hcn : (s[k].toNat : Int) ≤ 255 := by have := s[k].toNat_lt; omega
      rcases hc with hc | hc | hc
      · have t1 : ¬ (s[k].toNat : Int) < 97 := by omega
        have t2 : ¬ (122 : Int) < (s[k].toNat : Int) := by omega
        clear hc
        go_wp2
        go_round
        case rel => exact ⟨k + 1, by omega, by go_num⟩
        case measure => first | (simp [intOf]; done) | (simp [intOf]; omega)
      · have t1 : (s[k].toNat : Int) < 97 := by omega
        have t2 : ¬ (s[k].toNat : Int) < 48 := by omega
        have t3 : ¬ (57 : Int) < (s[k].toNat : Int) := by omega
        clear hc
        go_wp2
        go_round
        case rel => exact ⟨k + 1, by omega, by go_num⟩
        case measure => first | (simp [intOf]; done) | (simp [intOf]; omega)
      · have t1 : (s[k].toNat : Int) < 97 := by omega
        have t2 : (s[k].toNat : Int) < 48 := by omega
        have t3 : ((s[k].toNat : Int) != 45) = false := by simp; omega
        clear hc
        go_wp2
        go_round
        case rel => exact ⟨k + 1, by omega, by go_num⟩
        case measure => first | (simp [intOf]; done) | (simp [intOf]; omega)
    · obtain rfl : k = s.size := by omega
      go_wp2
      go_ret
      exact ⟨rfl, rfl⟩
def smI (c : Int) : Bool := decide (97 ≤ c ∧ c ≤ 122)
def dgI (c : Int) : Bool := decide (48 ≤ c ∧ c ≤ 57)
set_option maxHeartbeats 400000 in
theorem l01Small_any (c : Int) (w : World) : Calls Try.prog 145 #[.int .u8 c] w fun e w' => e = .returned (.bool (smI c)) ∧ w = w' := by
  by_cases h1 : 97 ≤ c
  · by_cases h2 : c ≤ 122
    · have HE := Lib.hid (show smI c = true by simp [smI, h1, h2])
      go_enter Try.func145, Try.ntmps145
      go_wp2
      go_ret
      exact ⟨ret_bool (by rw [HE.out]), rfl⟩
    · have HE := Lib.hid (show smI c = false by simp [smI]; omega)
      go_enter Try.func145, Try.ntmps145
      go_wp2
      go_ret
      exact ⟨ret_bool (by rw [HE.out]), rfl⟩
  · have HE := Lib.hid (show smI c = false by simp [smI]; omega)
    go_enter Try.func145, Try.ntmps145
    go_wp2
    go_ret
    exact ⟨ret_bool (by rw [HE.out]), rfl⟩
set_option maxHeartbeats 400000 in
theorem l01Digit_any (c : Int) (w : World) : Calls Try.prog 146 #[.int .u8 c] w fun e w' => e = .returned (.bool (dgI c)) ∧ w = w' := by
  by_cases h1 : 48 ≤ c
  · by_cases h2 : c ≤ 57
    · have HE := Lib.hid (show dgI c = true by simp [dgI, h1, h2])
      go_enter Try.func146, Try.ntmps146
      go_wp2
      go_ret
      exact ⟨ret_bool (by rw [HE.out]), rfl⟩
    · have HE := Lib.hid (show dgI c = false by simp [dgI]; omega)
      go_enter Try.func146, Try.ntmps146
      go_wp2
      go_ret
      exact ⟨ret_bool (by rw [HE.out]), rfl⟩
  · have HE := Lib.hid (show dgI c = false by simp [dgI]; omega)
    go_enter Try.func146, Try.ntmps146
    go_wp2
    go_ret
    exact ⟨ret_bool (by rw [HE.out]), rfl⟩
theorem nameBytes {c : Nat} (h : (97 ≤ c ∧ c ≤ 122) ∨ (48 ≤ c ∧ c ≤ 57) ∨ c = 45) : smI (c : Int) = true ∨ (smI (c : Int) = false ∧ dgI (c : Int) = true) ∨ (smI (c : Int) = false ∧ dgI (c : Int) = false ∧ ((c : Int) != 45) = false) := by
  rcases h with h | h | h
  · exact .inl (by simp [smI]; omega)
  · exact .inr (.inl ⟨by simp [smI]; omega, by simp [dgI]; omega⟩)
  · exact .inr (.inr ⟨by simp [smI]; omega, by simp [dgI]; omega, by simp; omega⟩)
theorem ne_empty {s : ByteArray} (h : 1 ≤ s.size) : s.toList.isEmpty = false ∧ ¬ s.toList = [] ∧ (!s.toList.isEmpty) = true := by
  have e : s.toList ≠ [] := by
    rw [ByteArray.toList_eq]
    intro h0
    have : s.data.toList.length = 0 := by rw [h0]; rfl
    have e2 : s.data.toList.length = s.size := by simp
    omega
  refine ⟨by simpa using e, e, by simpa using e⟩
set_option maxRecDepth 100000 in
set_option maxHeartbeats 2000000 in
theorem specIsName_yes (s : ByteArray) (w : World) (h : namU s = true) :
    Calls Try.prog 141 #[.string s] w fun e w' => e = .returned (.bool true) ∧ w = w' := by
  obtain ⟨h1, h2, ⟨h3, h4⟩, h5⟩ := namU_t h
  have HK := Lib.hid h5
  have HS0 : Hid (smI (s[0].toNat : Int) = true) := Lib.hid (by rw [bU_at s 0 h1] at h3 h4; simp [smI]; omega)
  obtain ⟨q1, q2, q3⟩ := ne_empty h1
  have h0 : (0 : Int) < (s.size : Int) := by omega
  clear h h5 h3 h4
  go_enter Try.func141, Try.ntmps141
  go_wp2_with fail
  refine (l01Small_any _ _).mono ?_
  rintro e1 w1 ⟨rfl, rfl⟩
  rw [HS0.out]
  go_wp2_with fail
  go_loop [3] (fun i => ∃ k : Nat, k ≤ s.size ∧ i = .int .i64 (k : Int)) (fun i => (s.size - intOf i).toNat)
  case atStart => exact ⟨0, by omega, rfl⟩
  case round =>
    obtain ⟨k, hk, rfl⟩ := hrel
    by_cases hlt : k < s.size
    · have hlt' : (k : Int) < (s.size : Int) := by omega
      have hc := HK.out k hlt
      rw [bU_at s k hlt] at hc
      have hd := nameBytes hc
      clear hc
      rcases hd with hd | ⟨hd1, hd2⟩ | ⟨hd1, hd2, hd3⟩
      · go_wp2_with fail
        refine (l01Small_any _ _).mono ?_
        rintro e1 w1 ⟨rfl, rfl⟩
        rw [hd]
        go_wp2
        go_round
        case rel => exact ⟨k + 1, by omega, by go_num⟩
        case measure => first | (simp [intOf]; done) | (simp [intOf]; omega)
      · go_wp2_with fail
        refine (l01Small_any _ _).mono ?_
        rintro e1 w1 ⟨rfl, rfl⟩
        rw [hd1]
        go_wp2_with fail
        refine (l01Digit_any _ _).mono ?_
        rintro e1 w1 ⟨rfl, rfl⟩
        rw [hd2]
        go_wp2
        go_round
        case rel => exact ⟨k + 1, by omega, by go_num⟩
        case measure => first | (simp [intOf]; done) | (simp [intOf]; omega)
      · go_wp2_with fail
        refine (l01Small_any _ _).mono ?_
        rintro e1 w1 ⟨rfl, rfl⟩
        rw [hd1]
        go_wp2_with fail
        refine (l01Digit_any _ _).mono ?_
        rintro e1 w1 ⟨rfl, rfl⟩
        rw [hd2]
        go_wp2
        go_round
        case rel => exact ⟨k + 1, by omega, by go_num⟩
        case measure => first | (simp [intOf]; done) | (simp [intOf]; omega)
    · obtain rfl : k = s.size := by omega
      go_wp2
      go_ret
      exact ⟨rfl, rfl⟩
set_option maxHeartbeats 1000000 in
theorem l04Plain_yes (s : ByteArray) (w : World) (hs : s.size ≤ 100000) (hp : ∀ k, k < s.size → bU s k = 83 ∨ bU s k = 72) :
    Calls Try.prog 147 #[.string s] w fun e w' => e = .returned (.bool true) ∧ w = w' := by
  have HP := Lib.hid hp
  clear hp
  go_enter Try.func147, Try.ntmps147
  go_wp2_with fail
  go_loop [3] (fun i => ∃ k : Nat, k ≤ s.size ∧ i = .int .i64 (k : Int)) (fun i => (s.size - intOf i).toNat)
  case atStart => exact ⟨0, by omega, rfl⟩
  case round =>
    obtain ⟨k, hk, rfl⟩ := hrel
    by_cases hlt : k < s.size
    · have hlt' : (k : Int) < (s.size : Int) := by omega
      have h1 := HP.out k hlt
      rw [bU_at s k hlt] at h1
      rcases h1 with h1 | h1
      · have t1 : ((s[k].toNat : Int) != 83) = false := by rw [h1]; rfl
        clear h1
        go_wp2
        go_round
        case rel => exact ⟨k + 1, by omega, by go_num⟩
        case measure => first | (simp [intOf]; done) | (simp [intOf]; omega)
      · have t1 : ((s[k].toNat : Int) != 83) = true := by rw [h1]; rfl
        have t2 : ((s[k].toNat : Int) != 72) = false := by rw [h1]; rfl
        clear h1
        go_wp2
        go_round
        case rel => exact ⟨k + 1, by omega, by go_num⟩
        case measure => first | (simp [intOf]; done) | (simp [intOf]; omega)
    · obtain rfl : k = s.size := by omega
      go_wp2
      go_ret
      exact ⟨rfl, rfl⟩
end Go.Proofs.Ytklhaanapembdaa
