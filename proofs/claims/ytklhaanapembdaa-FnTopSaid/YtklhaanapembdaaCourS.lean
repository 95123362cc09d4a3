/- Contracts of the functions on courses, program and reference (their length, whether they are valid, perpends, cut pieces); condition: the text is a course. -/
import Derived.Test.YtklhaanapembdaaM34
import Derived.Test.YtklhaanapembdaaM35
import Derived.Test.YtklhaanapembdaaM02

namespace Go.Proofs.Ytklhaanapembdaa
set_option linter.unusedVariables false
open Go.RowKit

theorem u8_back (c : UInt8) : ((c.toNat : Int)).toNat.toUInt8 = c := by simp
theorem piece_of {c : UInt8} (h : 1 ≤ qU c) : c = 83 ∨ c = 72 ∨ c = 84 ∨ c = 66 ∨ c = 67 := by
  by_cases h1 : c = 83
  · exact .inl h1
  by_cases h2 : c = 72
  · exact .inr (.inl h2)
  by_cases h3 : c = 84
  · exact .inr (.inr (.inl h3))
  by_cases h4 : c = 66
  · exact .inr (.inr (.inr (.inl h4)))
  by_cases h5 : c = 67
  · exact .inr (.inr (.inr (.inr h5)))
  exfalso
  unfold qU at h
  rw [if_neg h1, if_neg h3, if_neg h2, if_neg h4, if_neg h5] at h
  omega
set_option maxHeartbeats 1000000 in
theorem l06Length_any (s : ByteArray) (w : World) (hs : s.size ≤ 100000) :
    Calls Try.prog 124 #[.string s] w fun e w' => e = .returned (.int .i64 (sumU s.data.toList)) ∧ w = w' := by
  have HA := Lib.hid (preU_all s)
  go_enter Try.func124, Try.ntmps124
  go_wp2_with fail
  go_loop [3, 4] (fun n i => ∃ k : Nat, k ≤ s.size ∧ i = .int .i64 (k : Int) ∧ n = .int .i64 (preU s k)) (fun n i => (s.size - intOf i).toNat)
  case atStart => exact ⟨0, by omega, rfl, by rw [preU_zero]⟩
  case round =>
    obtain ⟨k, hk, rfl, rfl⟩ := hrel
    by_cases hlt : k < s.size
    · have hlt' : (k : Int) < (s.size : Int) := by omega
      have HN := Lib.hid (preU_succ s k hlt)
      have HE := Lib.hid (bU_at s k hlt)
      have hb := preU_bd s k
      generalize preU s k = P at *
      go_wp2_with fail
      generalize hcc : s[k] = c at *
      have hq := qU_bd c
      refine (l02Quarters_any _ _).mono ?_
      rintro e1 w1 ⟨rfl, rfl⟩
      clear hcc
      generalize hqq : qU c = q at *
      have HQ := Lib.hid hqq
      clear hqq
      go_wp2
      go_round
      case rel => exact ⟨k + 1, by omega, by go_num, by rw [HN.out, HE.out, HQ.out]⟩
      case measure => first | (simp [intOf]; done) | (simp [intOf]; omega)
    · obtain rfl : k = s.size := by omega
      rw [HA.out]
      go_wp2
      go_ret
      exact ⟨rfl, rfl⟩
set_option maxHeartbeats 1000000 in
theorem lengthOf_any (s : ByteArray) (w : World) (hs : s.size ≤ 100000) :
    Calls Try.prog 138 #[.string s] w fun e w' => e = .returned (.int .i64 (sumU s.data.toList)) ∧ w = w' := by
  have HA := Lib.hid (preU_all s)
  go_enter Try.func138, Try.ntmps138
  go_wp2_with fail
  go_loop [3, 4, 7] (fun n _ i => ∃ k : Nat, k ≤ s.size ∧ i = .int .i64 (k : Int) ∧ n = .int .i64 (preU s k)) (fun n _ i => (s.size - intOf i).toNat)
  case atStart => exact ⟨0, by omega, rfl, by rw [preU_zero]⟩
  case round =>
    obtain ⟨k, hk, rfl, rfl⟩ := hrel
    by_cases hlt : k < s.size
    · have hlt' : (k : Int) < (s.size : Int) := by omega
      have HN := Lib.hid (preU_succ s k hlt)
      have HE := Lib.hid (bU_at s k hlt)
      have hb := preU_bd s k
      generalize preU s k = P at *
      go_wp2_with fail
      generalize hcc : s[k] = c at *
      have hq := qU_bd c
      refine (quarters_any _ _).mono ?_
      rintro e1 w1 ⟨rfl, rfl⟩
      clear hcc
      generalize hqq : qU c = q at *
      have HQ := Lib.hid hqq
      clear hqq
      go_wp2
      go_round
      case rel => exact ⟨k + 1, by omega, by go_num, by rw [HN.out, HE.out, HQ.out]⟩
      case measure => first | (simp [intOf]; done) | (simp [intOf]; omega)
    · obtain rfl : k = s.size := by omega
      rw [HA.out]
      go_wp2
      go_ret
      exact ⟨rfl, rfl⟩
set_option maxHeartbeats 1000000 in
theorem l06Cuts_any (s : ByteArray) (w : World) (hs : s.size ≤ 100000) :
    Calls Try.prog 89 #[.string s] w fun e w' => e = .returned (.int .i64 (cutU s.data.toList)) ∧ w = w' := by
  have HA := Lib.hid (preC_all s)
  go_enter Try.func89, Try.ntmps89
  go_wp2_with fail
  go_loop [3, 4] (fun n i => ∃ k : Nat, k ≤ s.size ∧ i = .int .i64 (k : Int) ∧ n = .int .i64 (preC s k)) (fun n i => (s.size - intOf i).toNat)
  case atStart => exact ⟨0, by omega, rfl, by rw [preC_zero]⟩
  case round =>
    obtain ⟨k, hk, rfl, rfl⟩ := hrel
    by_cases hlt : k < s.size
    · have hlt' : (k : Int) < (s.size : Int) := by omega
      have HN := Lib.hid (preC_succ s k hlt)
      have HE := Lib.hid (bU_at s k hlt)
      have hb := preC_bd s k
      generalize preC s k = P at *
      go_wp2_with fail
      generalize hcc : s[k] = c at *
      refine (l02Cut_any _ _).mono ?_
      rintro e1 w1 ⟨rfl, rfl⟩
      clear hcc
      have HC := Lib.hid (show cU c = if kU c then 1 else 0 from rfl)
      cases hk1 : kU c
      · have HK := Lib.hid hk1
        clear hk1
        go_wp2
        go_round
        case rel => exact ⟨k + 1, by omega, by go_num, by rw [HN.out, HE.out, HC.out, HK.out]; simp⟩
        case measure => first | (simp [intOf]; done) | (simp [intOf]; omega)
      · have HK := Lib.hid hk1
        clear hk1
        go_wp2
        go_round
        case rel => exact ⟨k + 1, by omega, by go_num, by rw [HN.out, HE.out, HC.out, HK.out]; rfl⟩
        case measure => first | (simp [intOf]; done) | (simp [intOf]; omega)
    · obtain rfl : k = s.size := by omega
      rw [HA.out]
      go_wp2
      go_ret
      exact ⟨rfl, rfl⟩
set_option maxHeartbeats 1000000 in
theorem l04Pieces_yes (s : ByteArray) (w : World) (hs : s.size ≤ 100000) (hp : ∀ k, k < s.size → 1 ≤ qU (bU s k)) :
    Calls Try.prog 123 #[.string s] w fun e w' => e = .returned (.bool true) ∧ w = w' := by
  have HP := Lib.hid hp
  clear hp
  go_enter Try.func123, Try.ntmps123
  go_wp2_with fail
  go_loop [3] (fun i => ∃ k : Nat, k ≤ s.size ∧ i = .int .i64 (k : Int)) (fun i => (s.size - intOf i).toNat)
  case atStart => exact ⟨0, by omega, rfl⟩
  case round =>
    obtain ⟨k, hk, rfl⟩ := hrel
    by_cases hlt : k < s.size
    · have hlt' : (k : Int) < (s.size : Int) := by omega
      have h1 := HP.out k hlt
      rw [bU_at s k hlt] at h1
      go_wp2_with fail
      generalize hcc : s[k] = c at *
      refine (l02Quarters_any _ _).mono ?_
      rintro e1 w1 ⟨rfl, rfl⟩
      clear hcc
      generalize qU c = q at *
      have h0 : (q == 0) = false := by simp; omega
      go_wp2
      go_round
      case rel => exact ⟨k + 1, by omega, by go_num⟩
      case measure => first | (simp [intOf]; done) | (simp [intOf]; omega)
    · obtain rfl : k = s.size := by omega
      go_wp2
      go_ret
      exact ⟨rfl, rfl⟩
set_option maxHeartbeats 1000000 in
theorem onlyOf_yes (s l : ByteArray) (w : World) (hs : s.size ≤ 100000) (hp : ∀ k, k < s.size → 0 ≤ Lib.indexByte l.data.toList (bU s k) ∧ Lib.indexByte l.data.toList (bU s k) ≤ 4) :
    Calls Try.prog 118 #[.string s, .string l] w fun e w' => e = .returned (.bool true) ∧ w = w' := by
  have HP := Lib.hid hp
  clear hp
  go_enter Try.func118, Try.ntmps118
  go_wp2_with fail
  go_loop [5, 8] (fun _ i => ∃ k : Nat, k ≤ s.size ∧ i = .int .i64 (k : Int)) (fun _ i => (s.size - intOf i).toNat)
  case atStart => exact ⟨0, by omega, rfl⟩
  case round =>
    obtain ⟨k, hk, rfl⟩ := hrel
    by_cases hlt : k < s.size
    · have hlt' : (k : Int) < (s.size : Int) := by omega
      have h1 := HP.out k hlt
      rw [bU_at s k hlt] at h1
      go_wp2_with fail
      generalize hcc : s[k] = c at *
      have hI := indexByte_any l (c.toNat : Int) w
      rw [u8_back] at hI
      have HI := Lib.hid hI
      clear hI
      refine HI.out.mono ?_
      rintro e1 w1 ⟨rfl, rfl⟩
      clear hcc HI
      generalize Lib.indexByte l.data.toList c = q at *
      go_wp2
      go_round
      case rel => exact ⟨k + 1, by omega, by go_num⟩
      case measure => first | (simp [intOf]; done) | (simp [intOf]; omega)
    · obtain rfl : k = s.size := by omega
      go_wp2
      go_ret
      exact ⟨rfl, rfl⟩
theorem onlyPcs_yes (s : ByteArray) (w : World) (hs : s.size ≤ 100000) (hp : ∀ k, k < s.size → 1 ≤ qU (bU s k)) :
    Calls Try.prog 118 #[.string s, .string ⟨#[83, 72, 84, 66, 67]⟩] w fun e w' => e = .returned (.bool true) ∧ w = w' :=
  onlyOf_yes s _ w hs fun k hk => ixPcs _ (piece_of (hp k hk))
theorem onlyPln_yes (s : ByteArray) (w : World) (hs : s.size ≤ 100000) (hp : ∀ k, k < s.size → bU s k = 83 ∨ bU s k = 72) :
    Calls Try.prog 118 #[.string s, .string ⟨#[83, 72]⟩] w fun e w' => e = .returned (.bool true) ∧ w = w' :=
  onlyOf_yes s _ w hs fun k hk => ixPln _ (hp k hk)
set_option maxHeartbeats 1000000 in
theorem l06Ok_yes (L : Int) (s : ByteArray) (w : World) (h : Cour L s) :
    Calls Try.prog 84 #[.string s] w fun e w' => e = .returned (.bool true) ∧ w = w' := by
  have h0 := h.s0
  have h1 := h.s1
  have hL := h.l1
  have hI : inB (s.size : Int) 1 60 = true := inB_mk ⟨by omega, by omega⟩
  have HP := Lib.hid (fun k (hk : k < s.size) => h.piece hk)
  have HS := Lib.hid h.sm
  have HL := Lib.hid (l06Length_any s w (by omega))
  rw [h.sm] at HL
  have HI := Lib.hid (l00In_any (s.size : Int) 1 60 w)
  rw [hI] at HI
  have HO := Lib.hid (l04Pieces_yes s w (by omega) HP.out)
  clear h hI
  go_enter Try.func84, Try.ntmps84
  go_wp2_with fail
  refine HI.out.mono ?_
  rintro e1 w1 ⟨rfl, rfl⟩
  go_wp2_with fail
  refine HO.out.mono ?_
  rintro e1 w1 ⟨rfl, rfl⟩
  go_wp2_with fail
  refine HL.out.mono ?_
  rintro e1 w1 ⟨rfl, rfl⟩
  go_wp2
  go_ret
  exact ⟨ret_bool (by simp [*]), rfl⟩
set_option maxHeartbeats 1000000 in
theorem validCourse_yes (L : Int) (s : ByteArray) (w : World) (h : Cour L s) :
    Calls Try.prog 137 #[.string s] w fun e w' => e = .returned (.bool true) ∧ w = w' := by
  have h0 := h.s0
  have h1 := h.s1
  have hL := h.l1
  have hI : inB (s.size : Int) 1 60 = true := inB_mk ⟨by omega, by omega⟩
  have HP := Lib.hid (fun k (hk : k < s.size) => h.piece hk)
  have HS := Lib.hid h.sm
  have HL := Lib.hid (lengthOf_any s w (by omega))
  rw [h.sm] at HL
  have HI := Lib.hid (within_any (s.size : Int) 1 60 w)
  rw [hI] at HI
  have HO := Lib.hid (onlyPcs_yes s w (by omega) HP.out)
  clear h hI
  go_enter Try.func137, Try.ntmps137
  go_wp2_with fail
  refine HI.out.mono ?_
  rintro e1 w1 ⟨rfl, rfl⟩
  go_wp2_with fail
  refine HO.out.mono ?_
  rintro e1 w1 ⟨rfl, rfl⟩
  go_wp2_with fail
  refine HL.out.mono ?_
  rintro e1 w1 ⟨rfl, rfl⟩
  go_wp2
  go_ret
  exact ⟨ret_bool (by simp [*]), rfl⟩
set_option maxHeartbeats 2000000 in
theorem l06Perpends_any (s : ByteArray) (w : World) (h1 : 1 ≤ s.size) (hs : s.size ≤ 60) :
    Calls Try.prog 85 #[.string s] w (NewL w (perpU s)) := by
  obtain ⟨i0, hi, hi0, hi1, hi2⟩ := info_parts info_i64
  have HA := Lib.hid (show perpK s (s.size - 1) = perpU s from rfl)
  go_enter Try.func85, Try.ntmps85
  go_wp2_with fail
  go_loopw [3, 4, 5] (fun os n i wr => ∃ k : Nat, k + 1 ≤ s.size ∧ i = .int .i64 (k : Int) ∧ n = .int .i64 (preU s k) ∧ OwnI wr w.heap.size os (perpK s k) ∧ Below w.heap.size w wr) (fun os n i _ => (s.size - intOf i).toNat)
  case atStart => exact ⟨0, by omega, rfl, by rw [preU_zero], ownI_empty _ _ (by omega), (by repeat (first | exact Below.refl _ _ | assumption | refine Below.drew ?_ | refine below_drewN ?_ _ | refine Below.alloc ?_ (by first | omega | (simp; done) | (simp; omega)) _ | refine Below.setCell ?_ (by first | omega | (simp; done) | (simp; omega)) _))⟩
  case round =>
    obtain ⟨k, hk, rfl, rfl, hO, hB⟩ := hrel
    have hz := hB.size
    by_cases hlt : k + 1 < s.size
    · have hlt' : (k : Int) + 1 < (s.size : Int) := by omega
      have hlt2 : (k : Int) < (s.size : Int) - 1 := by omega
      have hlt3 : k < s.size := by omega
      have HN := Lib.hid (preU_succ s k hlt3)
      have HE := Lib.hid (bU_at s k hlt3)
      have HPN := Lib.hid (perpK_succ s k)
      have hpl : (perpK s k).length = k := by simp [perpK]
      have HPL := Lib.hid hpl
      have hb := preU_bd s k
      have HO := Lib.hid hO
      have hOl := hO
      unfold OwnI at hOl
      rw [hpl] at hOl
      clear hO hpl
      generalize perpK s k = PK at *
      generalize preU s k = P at *
      go_wp2_with fail
      generalize hcc : s[k] = c at *
      have hq := qU_bd c
      refine (l02Quarters_any _ _).mono ?_
      rintro e1 w1 ⟨rfl, rfl⟩
      clear hcc
      have HPS : Hid (preU s (k + 1) = P + qU c) := Lib.hid (by rw [HN.out, HE.out])
      clear HN HE
      generalize qU c = q at *
      go_wp2_with (at_builtin; refine wpList_append_own _ rfl _ _ 24 rfl w.heap.size 2 i0 (.int .i64 0) 1 8 Try.underlying24 hi hi0 hi1 hi2 rfl (by decide) _ _ _ rfl (hOl.alloc _) ⟨wr.heap.size, 0, none⟩ 1 1 [.int .i64 (P + q)] rfl rfl ?c1 ?c2 ?c3 ?c4 ?c5 ?_)
      case c1 => exact cell_one_new _ _ _
      case c2 => simp [Value.oneCell']
      case c3 => unfold maxLen; omega
      case c4 => omega
      case c5 => simp; omega
      intro v' w1' hown1 hgrow1 _
      have hO1 := Lib.hid (OwnI.snoc hown1 (by rw [HPL.out]))
      have hB1 := Lib.hid (below_append (hB.alloc hz _) (HO.out.alloc _) hgrow1)
      clear hown1 hgrow1 hOl
      go_wp2
      go_roundw
      case rel => exact ⟨k + 1, by omega, by go_num, by rw [HPS.out], by rw [HPN.out, HPS.out]; exact hO1.out, hB1.out⟩
      case measure => first | (simp [intOf]; done) | (simp [intOf]; omega)
    · obtain rfl : k = s.size - 1 := by omega
      rw [HA.out] at hO
      have hc1 : ((s.size - 1 : Nat) : Int) + 1 = (s.size : Int) := by omega
      have hc2 : ¬ ((s.size - 1 : Nat) : Int) < (s.size : Int) - 1 := by omega
      have HO := Lib.hid (newL_mk hO hB)
      clear hO
      go_wp2
      go_ret
      exact HO.out
set_option maxHeartbeats 2000000 in
theorem coursePerpends_any (s : ByteArray) (w : World) (h1 : 1 ≤ s.size) (hs : s.size ≤ 60) :
    Calls Try.prog 82 #[.string s] w (NewL w (perpU s)) := by
  obtain ⟨i0, hi, hi0, hi1, hi2⟩ := info_parts info_i64
  have HA := Lib.hid (show perpK s (s.size - 1) = perpU s from rfl)
  go_enter Try.func82, Try.ntmps82
  go_wp2_with fail
  go_loopw [3, 4, 5, 10] (fun os n _ i wr => ∃ k : Nat, k + 1 ≤ s.size ∧ i = .int .i64 (k : Int) ∧ n = .int .i64 (preU s k) ∧ OwnI wr w.heap.size os (perpK s k) ∧ Below w.heap.size w wr) (fun os n _ i _ => (s.size - intOf i).toNat)
  case atStart => exact ⟨0, by omega, rfl, by rw [preU_zero], ownI_empty _ _ (by omega), (by repeat (first | exact Below.refl _ _ | assumption | refine Below.drew ?_ | refine below_drewN ?_ _ | refine Below.alloc ?_ (by first | omega | (simp; done) | (simp; omega)) _ | refine Below.setCell ?_ (by first | omega | (simp; done) | (simp; omega)) _))⟩
  case round =>
    obtain ⟨k, hk, rfl, rfl, hO, hB⟩ := hrel
    have hz := hB.size
    by_cases hlt : k + 1 < s.size
    · have hlt' : (k : Int) + 1 < (s.size : Int) := by omega
      have hlt2 : (k : Int) < (s.size : Int) - 1 := by omega
      have hlt3 : k < s.size := by omega
      have HN := Lib.hid (preU_succ s k hlt3)
      have HE := Lib.hid (bU_at s k hlt3)
      have HPN := Lib.hid (perpK_succ s k)
      have hpl : (perpK s k).length = k := by simp [perpK]
      have HPL := Lib.hid hpl
      have hb := preU_bd s k
      have HO := Lib.hid hO
      have hOl := hO
      unfold OwnI at hOl
      rw [hpl] at hOl
      clear hO hpl
      generalize perpK s k = PK at *
      generalize preU s k = P at *
      go_wp2_with fail
      generalize hcc : s[k] = c at *
      have hq := qU_bd c
      refine (quarters_any _ _).mono ?_
      rintro e1 w1 ⟨rfl, rfl⟩
      clear hcc
      have HPS : Hid (preU s (k + 1) = P + qU c) := Lib.hid (by rw [HN.out, HE.out])
      clear HN HE
      generalize qU c = q at *
      go_wp2_with (at_builtin; refine wpList_append_own _ rfl _ _ 24 rfl w.heap.size 2 i0 (.int .i64 0) 1 8 Try.underlying24 hi hi0 hi1 hi2 rfl (by decide) _ _ _ rfl (hOl.alloc _) ⟨wr.heap.size, 0, none⟩ 1 1 [.int .i64 (P + q)] rfl rfl ?c1 ?c2 ?c3 ?c4 ?c5 ?_)
      case c1 => exact cell_one_new _ _ _
      case c2 => simp [Value.oneCell']
      case c3 => unfold maxLen; omega
      case c4 => omega
      case c5 => simp; omega
      intro v' w1' hown1 hgrow1 _
      have hO1 := Lib.hid (OwnI.snoc hown1 (by rw [HPL.out]))
      have hB1 := Lib.hid (below_append (hB.alloc hz _) (HO.out.alloc _) hgrow1)
      clear hown1 hgrow1 hOl
      go_wp2
      go_roundw
      case rel => exact ⟨k + 1, by omega, by go_num, by rw [HPS.out], by rw [HPN.out, HPS.out]; exact hO1.out, hB1.out⟩
      case measure => first | (simp [intOf]; done) | (simp [intOf]; omega)
    · obtain rfl : k = s.size - 1 := by omega
      rw [HA.out] at hO
      have hc1 : ((s.size - 1 : Nat) : Int) + 1 = (s.size : Int) := by omega
      have hc2 : ¬ ((s.size - 1 : Nat) : Int) < (s.size : Int) - 1 := by omega
      have HO := Lib.hid (newL_mk hO hB)
      clear hO
      go_wp2
      go_ret
      exact HO.out
/-- A new list and a code. -/
def NewLC (w : World) (zs : List Int) (c : Int) (e : Ending) (w' : World) : Prop :=
  ∃ a k, e = .returned (.tuple #[.slice a zs.length k, .int .i64 c]) ∧ OwnI w' w.heap.size (.slice a zs.length k) zs ∧ Below w.heap.size w w'
set_option maxHeartbeats 1000000 in
theorem specCoursePerpends_yes (L : Int) (s : ByteArray) (w : World) (h : Cour L s) :
    Calls Try.prog 32 #[.string s] w (NewLC w (perpU s) 0) := by
  have HO := Lib.hid (l06Ok_yes L s w h)
  have HP := Lib.hid (l06Perpends_any s w h.s0 h.s1)
  clear h
  go_enter Try.func32, Try.ntmps32
  go_wp2_with fail
  refine HO.out.mono ?_
  rintro e1 w1 ⟨rfl, rfl⟩
  go_wp2_with fail
  refine HP.out.mono ?_
  rintro e w1 ⟨a, k, rfl, hO, hB⟩
  have HX := Lib.hid (And.intro hO hB)
  clear hO hB
  go_wp2
  go_ret2
  exact ⟨a, k, rfl, HX.out⟩
set_option maxHeartbeats 1000000 in
theorem specCutsIn_yes (L : Int) (s : ByteArray) (w : World) (h : Cour L s) :
    Calls Try.prog 36 #[.string s] w fun e w' => e = .returned (.tuple #[.int .i64 (cutU s.data.toList), .int .i64 0]) ∧ w = w' := by
  have HO := Lib.hid (l06Ok_yes L s w h)
  have HP := Lib.hid (l06Cuts_any s w (by have := h.s1; omega))
  clear h
  go_enter Try.func36, Try.ntmps36
  go_wp2_with fail
  refine HO.out.mono ?_
  rintro e1 w1 ⟨rfl, rfl⟩
  go_wp2_with fail
  refine HP.out.mono ?_
  rintro e1 w1 ⟨rfl, rfl⟩
  go_wp2
  go_ret2
  exact ⟨rfl, rfl⟩
end Go.Proofs.Ytklhaanapembdaa
