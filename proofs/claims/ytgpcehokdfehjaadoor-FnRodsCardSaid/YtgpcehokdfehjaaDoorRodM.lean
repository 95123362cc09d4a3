/- Contracts of MarksOf, program and reference (marksOf, MarksOf): the marks in a new slice, and the code; no old memory turns. -/
import Derived.Test.YtgpcehokdfehjaaDoorRodQ
namespace Go.Proofs.YtgpcehokdfehjaaDoor
set_option linter.unusedVariables false
open Go.RowKit

theorem marI_yes {H c : Int} (h : storB H c = true) : marI H c = markL H c c.toNat ∧ marC H c = 0 := ⟨if_pos h, by simp [marC, storC, h]⟩
theorem marI_no {H c : Int} (h : storB H c = false) : marI H c = [] ∧ marC H c = 2 := by simp [marC, marI, storC, h]
set_option maxHeartbeats 4000000 in
theorem marksOf_any (H c : Int) (w : World) (h1 : 0 ≤ H) (h2 : H ≤ 6000) (c1 : 1 ≤ c) (c2 : c ≤ 40) :
    Calls Tryd.prog 28 #[.int .i64 H, .int .i64 c] w (NewL w (markL H c c.toNat)) := by
  obtain ⟨n, rfl⟩ := Int.eq_ofNat_of_zero_le (show 0 ≤ c by omega)
  rw [Int.toNat_natCast]
  obtain ⟨i0, hi, hi0, hi1, hi2⟩ := info_parts info_i64
  go_enter Tryd.func28, Tryd.ntmps28
  go_wp2_with fail
  go_loopw [5, 6] (fun os i wr => ∃ k : Nat, k ≤ n ∧ i = .int .i64 ((k : Int) + 1) ∧ OwnI wr w.heap.size os (markL H n k) ∧ Below w.heap.size w wr) (fun _ i _ => (n + 1 - intOf i).toNat)
  case atStart => exact ⟨0, by omega, rfl, ownI_empty _ _ (by omega), (by repeat (first | exact Below.refl _ _ | assumption | refine Below.drew ?_ | refine below_drewN ?_ _ | refine Below.alloc ?_ (by first | omega | (simp; done) | (simp; omega)) _ | refine Below.setCell ?_ (by first | omega | (simp; done) | (simp; omega)) _))⟩
  case round =>
    obtain ⟨k, hk, rfl, hO, hB⟩ := hrel
    have hz := hB.size
    by_cases hlt : k < n
    · have hlt' : (k : Int) + 1 ≤ (n : Int) := by omega
      have HN := Lib.hid (markL_next H n k)
      have HP := Lib.hid (markL_len H n k)
      generalize markL H n k = P at *
      have HO := Lib.hid hO
      have hOl := hO
      unfold OwnI at hOl
      rw [HP.out] at hOl
      clear hO
      go_wp2_with fail
      refine (markOf_any _ _ _ _ h1 h2 c1 c2 (by omega) (by omega)).mono ?_
      rintro e1 w1 ⟨rfl, rfl⟩
      go_wp2_with (at_builtin; refine wpList_append_own _ rfl _ _ 28 rfl w.heap.size 2 i0 (.int .i64 0) 1 8 Tryd.underlying28 hi hi0 hi1 hi2 rfl (by decide) _ _ _ rfl (hOl.alloc _) ⟨wr.heap.size, 0, none⟩ 1 1 [.int .i64 (markI H n ((k : Int) + 1))] rfl rfl ?c1 ?c2 ?c3 ?c4 ?c5 ?_)
      case c1 => exact cell_one_new _ _ _
      case c2 => simp [Value.oneCell']
      case c3 => unfold maxLen; omega
      case c4 => omega
      case c5 => simp; omega
      intro v' w1' hown1 hgrow1 _
      have hO1 := Lib.hid (OwnI.snoc hown1 (by rw [HP.out]))
      have hB1 := Lib.hid (below_append (hB.alloc hz _) (HO.out.alloc _) hgrow1)
      clear hown1 hgrow1 hOl
      go_wp2
      go_roundw
      case rel => exact ⟨k + 1, by omega, by go_num, by rw [HN.out]; exact hO1.out, hB1.out⟩
      case measure => simp [intOf]; omega
    · have hlt' : ¬ (k : Int) + 1 ≤ (n : Int) := by omega
      have hkn : k = n := by omega
      have HO := Lib.hid (newL_mk hO hB)
      clear hO
      go_wp2
      go_ret
      rw [hkn] at HO
      exact HO.out
set_option maxHeartbeats 1000000 in
theorem MarksOf_any (H c : Int) (w : World) :
    Calls Tryd.prog 9 #[.int .i64 H, .int .i64 c] w (NewI w (marI H c) (marC H c)) := by
  cases g : storB H c
  · obtain ⟨e1, e2⟩ := marI_no g
    rw [e1, e2]
    have G1 := Lib.hid g
    clear g e1 e2
    go_enter Tryd.func9, Tryd.ntmps9
    go_wp2_with fail
    refine (isStorey_any _ _ _).mono ?_
    rintro e1 w1 ⟨rfl, rfl⟩
    rw [G1.out]
    go_wp2
    go_ret2
    exact newI_mk (ownI_nil _ _) (by repeat (first | exact Below.refl _ _ | assumption | refine Below.drew ?_ | refine below_drewN ?_ _ | refine Below.alloc ?_ (by first | omega | (simp; done) | (simp; omega)) _ | refine Below.setCell ?_ (by first | omega | (simp; done) | (simp; omega)) _))
  · obtain ⟨e1, e2⟩ := marI_yes g
    obtain ⟨b1, b2, c1, c2⟩ := storB_t g
    rw [e1, e2]
    have G1 := Lib.hid g
    clear g e1 e2
    go_enter Tryd.func9, Tryd.ntmps9
    go_wp2_with fail
    refine (isStorey_any _ _ _).mono ?_
    rintro e1 w1 ⟨rfl, rfl⟩
    rw [G1.out]
    go_wp2_with fail
    refine (marksOf_any _ _ _ (by omega) b2 c1 c2).mono ?_
    rintro e w' ⟨a', c', rfl, hO, hB⟩
    have HO := Lib.hid (newI_mk (w := w) (code := 0) hO hB)
    clear hO hB
    go_wp2
    go_ret2
    exact HO.out
set_option maxHeartbeats 4000000 in
theorem specMarksOf_any (H c : Int) (w : World) :
    Calls Tryd.prog 10 #[.int .i64 H, .int .i64 c] w (NewI w (marI H c) (marC H c)) := by
  cases g : storB H c
  · obtain ⟨e1, e2⟩ := marI_no g
    rw [e1, e2]
    have G1 := Lib.hid (show storC H c = 2 by simp [storC, g])
    clear g e1 e2
    go_enter Tryd.func10, Tryd.ntmps10
    go_wp2_with fail
    refine (l10Code_any _ _ _).mono ?_
    rintro e1 w1 ⟨rfl, rfl⟩
    rw [G1.out]
    go_wp2
    go_ret2
    exact newI_mk (ownI_nil _ _) (by repeat (first | exact Below.refl _ _ | assumption | refine Below.drew ?_ | refine below_drewN ?_ _ | refine Below.alloc ?_ (by first | omega | (simp; done) | (simp; omega)) _ | refine Below.setCell ?_ (by first | omega | (simp; done) | (simp; omega)) _))
  · obtain ⟨e1, e2⟩ := marI_yes g
    obtain ⟨b1, b2, c1, c2⟩ := storB_t g
    rw [e1, e2]
    have G1 := Lib.hid (show storC H c = 0 by simp [storC, g])
    clear g e1 e2
    obtain ⟨n, rfl⟩ := Int.eq_ofNat_of_zero_le (show 0 ≤ c by omega)
    rw [Int.toNat_natCast]
    have h1 : 0 ≤ H := by omega
    obtain ⟨i0, hi, hi0, hi1, hi2⟩ := info_parts info_i64
    go_enter Tryd.func10, Tryd.ntmps10
    go_wp2_with fail
    refine (l10Code_any _ _ _).mono ?_
    rintro e1 w1 ⟨rfl, rfl⟩
    rw [G1.out]
    go_wp2_with fail
    go_loopw [7, 8] (fun os i wr => ∃ k : Nat, k ≤ n ∧ i = .int .i64 ((k : Int) + 1) ∧ OwnI wr w.heap.size os (markL H n k) ∧ Below w.heap.size w wr) (fun _ i _ => (n + 1 - intOf i).toNat)
    case atStart => exact ⟨0, by omega, rfl, ownI_empty _ _ (by omega), (by repeat (first | exact Below.refl _ _ | assumption | refine Below.drew ?_ | refine below_drewN ?_ _ | refine Below.alloc ?_ (by first | omega | (simp; done) | (simp; omega)) _ | refine Below.setCell ?_ (by first | omega | (simp; done) | (simp; omega)) _))⟩
    case round =>
      obtain ⟨k, hk, rfl, hO, hB⟩ := hrel
      have hz := hB.size
      by_cases hlt : k < n
      · have hlt' : (k : Int) + 1 ≤ (n : Int) := by omega
        have HN := Lib.hid (markL_next H n k)
        have HP := Lib.hid (markL_len H n k)
        generalize markL H n k = P at *
        have HO := Lib.hid hO
        have hOl := hO
        unfold OwnI at hOl
        rw [HP.out] at hOl
        clear hO
        go_wp2_with fail
        refine (l10Mark_any _ _ _ _ h1 b2 c1 c2 (by omega) (by omega)).mono ?_
        rintro e2 w2 ⟨rfl, rfl⟩
        go_wp2_with (at_builtin; refine wpList_append_own _ rfl _ _ 28 rfl w.heap.size 2 i0 (.int .i64 0) 1 8 Tryd.underlying28 hi hi0 hi1 hi2 rfl (by decide) _ _ _ rfl (hOl.alloc _) ⟨wr.heap.size, 0, none⟩ 1 1 [.int .i64 (markI H n ((k : Int) + 1))] rfl rfl ?c1 ?c2 ?c3 ?c4 ?c5 ?_)
        case c1 => exact cell_one_new _ _ _
        case c2 => simp [Value.oneCell']
        case c3 => unfold maxLen; omega
        case c4 => omega
        case c5 => simp; omega
        intro v' w1' hown1 hgrow1 _
        have hO1 := Lib.hid (OwnI.snoc hown1 (by rw [HP.out]))
        have hB1 := Lib.hid (below_append (hB.alloc hz _) (HO.out.alloc _) hgrow1)
        clear hown1 hgrow1 hOl
        go_wp2
        go_roundw
        case rel => exact ⟨k + 1, by omega, by go_num, by rw [HN.out]; exact hO1.out, hB1.out⟩
        case measure => simp [intOf]; omega
      · have hlt' : ¬ (k : Int) + 1 ≤ (n : Int) := by omega
        have hkn : k = n := by omega
        have HO := Lib.hid (newI_mk (code := 0) hO hB)
        clear hO
        go_wp2
        go_ret2
        rw [hkn] at HO
        exact HO.out
end Go.Proofs.YtgpcehokdfehjaaDoor
