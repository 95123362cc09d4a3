/- Contracts of RodText, program and reference (numbersText, RodText): the marks in decimals with spaces between; no old memory turns; condition: for the program's the library's table of powers of ten. -/
import Derived.Test.YtgpcehokdfehjaaDoorRodT
import Derived.Test.YtgpcehokdfehjaaDoorRodM
namespace Go.Proofs.YtgpcehokdfehjaaDoor
set_option linter.unusedVariables false
open Go.RowKit

theorem dec_small (n : Nat) (h : n ≤ 1000000000) : (decS n).size ≤ 21 := by rw [decS_size]; exact dec_len n h
def rodS (H c : Int) : ByteArray := if storB H c then jnB (decs (markL H c c.toNat)) else ⟨#[]⟩
theorem OwnX.alloc {w : World} {base : Nat} {v : Value} {ss : List ByteArray} (h : OwnX w base v ss) (o : Obj) : OwnX (w.alloc o) base v ss := World.ownsRow.alloc h o
theorem below_rowX {a w w' : World} {v : Value} {n : Nat} {xs : List Value} (h : Below a.heap.size a w) (ho : w.ownsRow a.heap.size 9 1 v n xs) (hg : w.grownBy w' v.ownBlock) : Below a.heap.size a w' :=
  h.grown hg h.size (fun k e => (ho.lt k e).1)
set_option maxHeartbeats 4000000 in
theorem numbersText_any (a : Option Addr) (len cap : Nat) (ys : List Int) (w : World) (h : IsRow .i64 w a len cap ys) (h0 : 1 ≤ len) (hlen : len ≤ 1000) (hb : ∀ k, k < ys.length → 0 ≤ ys.getD k 0 ∧ ys.getD k 0 ≤ 1000000000) (ht : Tab w) :
    Calls Tryd.prog 27 #[.string ⟨#[32]⟩, .slice a len cap] w fun e w' => e = .returned (.string (jnB (decs ys))) ∧ Below w.heap.size w w' := by
  have hl := h.1
  have HZ := Lib.hid h
  have HT := Lib.hid ht
  have HL := Lib.hid hl
  have HV := Lib.hid (fun k (hk : k < len) => hb k (by rw [hl]; exact hk))
  have HM := Lib.hid (fun k (hk : k < len) => decs_next (ys := ys) (k := k) (by rw [hl]; exact hk))
  have HK := Lib.hid (fun k (hk : k ≤ len) => show (decs (ys.take k)).length = k by rw [decs_len, List.length_take]; omega)
  have HS := Lib.hid (jnB_len (decs ys) (decs_small hb))
  have HA := Lib.hid (show ys.take len = ys by rw [← hl, List.take_length])
  clear h ht hl hb
  obtain ⟨i0, hi, hi0, hi1, hi2⟩ := info_parts info_x
  go_enter Tryd.func27, Tryd.ntmps27
  go_wp2_with fail
  go_loopw [5, 7, 11] (fun os _ i wr => ∃ k : Nat, k ≤ len ∧ i = .int .i64 (k : Int) ∧ OwnX wr w.heap.size os (decs (ys.take k)) ∧ Below w.heap.size w wr) (fun _ _ i _ => (len - intOf i).toNat)
  case atStart => exact ⟨0, by omega, rfl, ownX_empty _ _ (Nat.le_refl _), (by repeat (first | exact Below.refl _ _ | assumption | refine Below.drew ?_ | refine below_drewN ?_ _ | refine Below.alloc ?_ (by first | omega | (simp; done) | (simp; omega)) _ | refine Below.setCell ?_ (by first | omega | (simp; done) | (simp; omega)) _))⟩
  case round =>
    obtain ⟨k, hk, rfl, hO, hB⟩ := hrel
    have hz := hB.size
    by_cases hlt : k < len
    · have hlt' : (k : Int) < (len : Int) := by omega
      obtain ⟨b, o, rfl, _, hc⟩ := (HZ.out.below hB).cell hlt
      obtain ⟨v1, v2⟩ := HV.out k hlt
      have HN := Lib.hid (HM.out k hlt)
      have HP := Lib.hid (HK.out k hk)
      generalize decs (ys.take k) = P at *
      generalize ys.getD k 0 = x at *
      obtain ⟨n, rfl⟩ := Int.eq_ofNat_of_zero_le v1
      have HO := Lib.hid hO
      clear hO
      go_wp2_with fail
      refine (decimal_any n _ (by omega) (HT.out.below hB)).mono ?_
      rintro e w3 ⟨rfl, hb3⟩
      have hB3 := below_call hB hb3
      have hO3 := HO.out.below hb3
      have hz3 := hB3.size
      have HB3 := Lib.hid hB3
      have hOl := hO3
      unfold OwnX at hOl
      rw [HP.out] at hOl
      rw [Int.toNat_natCast] at HN
      obtain ⟨t, ht⟩ : ∃ t, decS n = t := ⟨_, rfl⟩
      rw [ht] at HN ⊢
      clear ht hb3 hB hO3 HO hB3
      go_wp2_with (at_builtin; refine wpList_append_new _ rfl _ _ 59 rfl _ 9 i0 (.string ByteArray.empty) 1 16 Tryd.underlying59 hi hi0 hi1 hi2 rfl (by decide) _ _ _ rfl (World.ownsRow.alloc hOl _) ⟨w3.heap.size, 0, none⟩ 1 1 [.string t] rfl rfl (cell_one_new _ _ _) (by simp [Value.oneCell']) (by unfold maxLen; omega) (by omega) (by first | omega | (simp; done) | (simp; omega)) (by decide) ?_; intro v' w1' hown1 hgrow1 hnew1)
      have hO1 := Lib.hid (OwnX.snoc hown1 (by rw [HP.out]))
      have hB1 := Lib.hid (below_rowX (HB3.out.alloc hz3 (.cells #[.string t] 9)) (World.ownsRow.alloc hOl _) hgrow1)
      clear hown1 hgrow1 hnew1 hOl HB3
      go_wp2
      go_roundw
      case rel => exact ⟨k + 1, by omega, by go_num, by rw [HN.out]; exact hO1.out, hB1.out⟩
      case measure => simp [intOf]; omega
    · have hlt' : ¬ (k : Int) < (len : Int) := by omega
      obtain rfl : k = len := by omega
      rw [HA.out] at hO
      have hdl : (decs ys).length = k := by rw [decs_len]; exact HL.out
      obtain ⟨a', c', rfl⟩ := hO.shape
      obtain ⟨g, rfl, hg, _, hcap, hcs⟩ := hO.cells (by omega)
      have HJ := Lib.hid (join_any g 0 c' (decs ys) ⟨#[32]⟩ wr hcs hg (by omega) hcap (by
        have h1 := HS.out
        have h2 : (jnB (decs ys)).size = (Lib.join ((decs ys).map (·.data.toList)) [32]).length := by simp [jnB, ByteArray.size]
        rw [h2] at h1
        show (Lib.join ((decs ys).map (·.data.toList)) [32]).length ≤ _
        omega))
      rw [hdl] at HJ ⊢
      clear hO hcs hdl
      go_wp2_with fail
      refine HJ.out.mono ?_
      rintro e w3 ⟨rfl, hb3⟩
      have hB3 := below_call hB hb3
      go_wp2
      go_ret
      exact ⟨rfl, hB3⟩
theorem markL_bd {H c : Int} (g : storB H c = true) : ∀ k, k < (markL H c c.toNat).length → 0 ≤ (markL H c c.toNat).getD k 0 ∧ (markL H c c.toNat).getD k 0 ≤ 1000000000 := by
  obtain ⟨b1, b2, c1, c2⟩ := storB_t g
  intro k hk
  rw [markL_len] at hk
  rw [markL_get H c hk]
  have := mark_bd (H := H) (c := c) (k := (k : Int) + 1) (by omega) b2 c1 c2 (by omega) (by omega)
  omega
set_option maxHeartbeats 1000000 in
theorem rodText_any (H c : Int) (w : World) (ht : Tab w) :
    Calls Tryd.prog 6 #[.int .i64 H, .int .i64 c] w fun e w' => e = .returned (.string (rodS H c)) ∧ Below w.heap.size w w' := by
  have HT := Lib.hid ht
  clear ht
  cases g : storB H c
  · have HE := Lib.hid (show rodS H c = ⟨#[]⟩ by simp [rodS, g])
    have G1 := Lib.hid g
    clear g
    go_enter Tryd.func6, Tryd.ntmps6
    go_wp2_with fail
    refine (isStorey_any _ _ _).mono ?_
    rintro e1 w1 ⟨rfl, rfl⟩
    rw [G1.out]
    go_wp2
    go_ret
    exact ⟨by rw [HE.out]; rfl, (by repeat (first | exact Below.refl _ _ | assumption | refine Below.drew ?_ | refine below_drewN ?_ _ | refine Below.alloc ?_ (by first | omega | (simp; done) | (simp; omega)) _ | refine Below.setCell ?_ (by first | omega | (simp; done) | (simp; omega)) _))⟩
  · have HE := Lib.hid (show rodS H c = jnB (decs (markL H c c.toNat)) by simp [rodS, g])
    obtain ⟨b1, b2, c1, c2⟩ := storB_t g
    have G1 := Lib.hid g
    have HBD := Lib.hid (markL_bd g)
    have HML := Lib.hid (markL_len H c c.toNat)
    have hcn : 1 ≤ c.toNat ∧ c.toNat ≤ 40 := by omega
    clear g
    go_enter Tryd.func6, Tryd.ntmps6
    go_wp2_with fail
    refine (isStorey_any _ _ _).mono ?_
    rintro e1 w1 ⟨rfl, rfl⟩
    rw [G1.out]
    go_wp2_with fail
    refine (marksOf_any _ _ _ (by omega) b2 c1 c2).mono ?_
    rintro e w2 ⟨a', c', rfl, hO, hB⟩
    have HR := Lib.hid hO.row
    have HML' := HML.out
    generalize markL H c c.toNat = M at *
    have HN := Lib.hid (numbersText_any _ _ _ M _ HR.out (by omega) (by omega) HBD.out (HT.out.below hB))
    clear hO HML'
    go_wp2_with fail
    refine HN.out.mono ?_
    rintro e w3 ⟨rfl, hb3⟩
    have hB3 := below_call hB hb3
    clear HN
    go_wp2
    go_ret
    exact ⟨by rw [HE.out]; rfl, hB3⟩
theorem app_nil (x : ByteArray) : (⟨#[]⟩ : ByteArray) ++ x = x := by
  apply ByteArray.ext
  simp [ByteArray.data_append]
set_option maxHeartbeats 4000000 in
theorem specRodText_any (H c : Int) (w : World) :
    Calls Tryd.prog 5 #[.int .i64 H, .int .i64 c] w fun e w' => e = .returned (.string (rodS H c)) ∧ Below w.heap.size w w' := by
  cases g : storB H c
  · have HE := Lib.hid (show rodS H c = ⟨#[]⟩ by simp [rodS, g])
    have G1 := Lib.hid (show storC H c = 2 by simp [storC, g])
    clear g
    go_enter Tryd.func5, Tryd.ntmps5
    go_wp2_with fail
    refine (l10Code_any _ _ _).mono ?_
    rintro e1 w1 ⟨rfl, rfl⟩
    rw [G1.out]
    go_wp2
    go_ret
    exact ⟨by rw [HE.out]; rfl, (by repeat (first | exact Below.refl _ _ | assumption | refine Below.drew ?_ | refine below_drewN ?_ _ | refine Below.alloc ?_ (by first | omega | (simp; done) | (simp; omega)) _ | refine Below.setCell ?_ (by first | omega | (simp; done) | (simp; omega)) _))⟩
  · have HE := Lib.hid (show rodS H c = jnB (decs (markL H c c.toNat)) by simp [rodS, g])
    obtain ⟨b1, b2, c1, c2⟩ := storB_t g
    have G1 := Lib.hid (show storC H c = 0 by simp [storC, g])
    have HBD := Lib.hid (markL_bd g)
    clear g
    obtain ⟨n, rfl⟩ := Int.eq_ofNat_of_zero_le (show 0 ≤ c by omega)
    rw [Int.toNat_natCast] at HE HBD
    have h1 : 0 ≤ H := by omega
    go_enter Tryd.func5, Tryd.ntmps5
    go_wp2_with fail
    refine (l10Code_any _ _ _).mono ?_
    rintro e1 w1 ⟨rfl, rfl⟩
    rw [G1.out]
    go_wp2_with fail
    go_loopw [5, 6] (fun os i wr => ∃ k : Nat, k ≤ n ∧ i = .int .i64 ((k : Int) + 1) ∧ os = .string (jnB (decs (markL H n k))) ∧ Below w.heap.size w wr) (fun _ i _ => (n + 1 - intOf i).toNat)
    case atStart => exact ⟨0, by omega, rfl, rfl, (by repeat (first | exact Below.refl _ _ | assumption | refine Below.drew ?_ | refine below_drewN ?_ _ | refine Below.alloc ?_ (by first | omega | (simp; done) | (simp; omega)) _ | refine Below.setCell ?_ (by first | omega | (simp; done) | (simp; omega)) _))⟩
    case round =>
      obtain ⟨k, hk, rfl, rfl, hB⟩ := hrel
      by_cases hlt : k < n
      · have hlt' : (k : Int) + 1 ≤ (n : Int) := by omega
        obtain ⟨m1, m2⟩ := mark_bd (H := H) (c := (n : Int)) (k := (k : Int) + 1) h1 b2 c1 c2 (by omega) (by omega)
        have HN := Lib.hid (show decs (markL H n (k + 1)) = decs (markL H n k) ++ [decS (markI H n ((k : Int) + 1)).toNat] by rw [markL_next]; simp [decs])
        have hsz := jnB_len (decs (markL H n k)) (by
          intro x hx
          obtain ⟨y, hy, rfl⟩ := List.mem_map.1 hx
          obtain ⟨i, hi, rfl⟩ := List.mem_map.1 hy
          have hi' := List.mem_range.1 hi
          obtain ⟨q1, q2⟩ := mark_bd (H := H) (c := (n : Int)) (k := (i : Int) + 1) h1 b2 c1 c2 (by omega) (by omega)
          exact dec_small _ (by omega))
        rw [decs_len, markL_len] at hsz
        have hd := dec_small (markI H n ((k : Int) + 1)).toNat (by omega)
        have HNE : Hid (0 < k → decs (markL H n k) ≠ []) := Lib.hid fun h e => by
          have := congrArg List.length e
          rw [decs_len, markL_len] at this
          simp at this
          omega
        have HNZ : Hid (k = 0 → decs (markL H n k) = []) := Lib.hid fun h => by rw [h]; rfl
        have HMK := Lib.hid (fun W => l10Mark_any H n ((k : Int) + 1) W h1 b2 c1 c2 (by omega) (by omega))
        generalize markI H n ((k : Int) + 1) = m at *
        obtain ⟨q, rfl⟩ := Int.eq_ofNat_of_zero_le m1
        rw [Int.toNat_natCast] at HN hd
        obtain ⟨D, hD⟩ : ∃ D, decS q = D := ⟨_, rfl⟩
        have HDC := Lib.hid (fun W => l01Dec_any q W (by omega))
        rw [hD] at HN hd HDC
        clear hD
        by_cases hk0 : k = 0
        · have e0 := HNZ.out hk0
          have HX := Lib.hid (show jnB (decs (markL H n (k + 1))) = D by rw [HN.out, e0, List.nil_append, jnB_one])
          rw [e0, jnB_nil]
          have t1 : ∀ W, (Op.stringOp .add ⟨#[]⟩ D).run Tryd.prog W = .ok (.string D) W := fun W => by
            have := run_string_add_sum (P := Tryd.prog) W ⟨#[]⟩ D (by have : (⟨#[]⟩ : ByteArray).size = 0 := rfl; omega)
            rw [app_nil] at this
            exact this
          subst hk0
          rw [show (((0 : Nat) : Int) + 1) = 1 from rfl] at HMK
          clear e0 hsz
          go_wp2_with fail
          refine (HMK.out _).mono ?_
          rintro e w3 ⟨rfl, rfl⟩
          go_wp2_with fail
          refine (HDC.out _).mono ?_
          rintro e w3 ⟨rfl, hb3⟩
          have hB3 := below_call hB hb3
          clear HMK HDC
          go_wp2
          go_roundw
          case rel => exact ⟨1, by omega, by go_num, by rw [HX.out], hB3⟩
          case measure => simp [intOf]; omega
        · have e0 := HNE.out (by omega)
          have HX := Lib.hid (show jnB (decs (markL H n (k + 1))) = jnB (decs (markL H n k)) ++ ⟨#[32]⟩ ++ D by rw [HN.out, jnB_next e0])
          generalize jnB (decs (markL H n k)) = J at *
          have t1 : ∀ W, (Op.stringOp .add J ⟨#[32]⟩).run Tryd.prog W = .ok (.string (J ++ ⟨#[32]⟩)) W := fun W => run_string_add_sum W _ _ (by have : (⟨#[32]⟩ : ByteArray).size = 1 := rfl; omega)
          have t2 : ∀ W, (Op.stringOp .add (J ++ ⟨#[32]⟩) D).run Tryd.prog W = .ok (.string (J ++ ⟨#[32]⟩ ++ D)) W := fun W => run_string_add_sum W _ _ (by have : (⟨#[32]⟩ : ByteArray).size = 1 := rfl; simp only [ByteArray.size_append]; omega)
          have hg1 : (1 : Int) < (k : Int) + 1 := by omega
          clear e0 hsz
          go_wp2_with fail
          refine (HMK.out _).mono ?_
          rintro e w3 ⟨rfl, rfl⟩
          go_wp2_with fail
          refine (HDC.out _).mono ?_
          rintro e w3 ⟨rfl, hb3⟩
          have hB3 := below_call hB hb3
          clear HMK HDC
          go_wp2
          go_roundw
          case rel => exact ⟨k + 1, by omega, by go_num, by rw [HX.out], hB3⟩
          case measure => simp [intOf]; omega
      · have hlt' : ¬ (k : Int) + 1 ≤ (n : Int) := by omega
        have hkn : k = n := by omega
        have HX := Lib.hid (show jnB (decs (markL H n k)) = rodS H n by rw [HE.out, hkn])
        clear hkn
        generalize jnB (decs (markL H n k)) = J at *
        go_wp2
        go_ret
        exact ⟨by rw [← HX.out]; rfl, hB⟩
end Go.Proofs.YtgpcehokdfehjaaDoor
