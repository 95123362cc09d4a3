/- Contracts of the program's shifted and shifts; no old memory turns; condition: patterns that can be read. -/
import Derived.Test.YtlkdkidpbjpkhaaShP
import Derived.Test.YtlkdkidpbjpkhaaOwnS
import Derived.Test.YtlkdkidpbjpkhaaSame
import Derived.Deep.RegionLaw
import Derived.OwnWalk
import Derived.Deep.AppendLies
namespace Go.Proofs.Ytlkdkidpbjpkhaa
open Go.RowKit

theorem rem_ok {a n : Int} (hn : 0 < n) (hb : n ≤ 24) : -24 ≤ a.tmod n ∧ a.tmod n ≤ 24 := by
  have h1 := modN (a := a) hn
  have h2 := Int.tmod_eq_emod (a := a) (b := n)
  split at h2 <;> omega
set_option maxHeartbeats 4000000 in
theorem shifted_any (a : Option Addr) (len cap : Nat) (ss : List ByteArray) (r u : Int) (w : World) (h : IsStrs w a len cap ss) (g : patB ss = true) :
    Calls Try.prog 60 #[.slice a len cap, .int .i64 r, .int .i64 u] w (NewS w (shL ss r u)) := by
  have hl := h.1
  obtain ⟨v1, v2, v3, v4, v5⟩ := patB_t g
  rw [hl] at v1 v2
  obtain ⟨b, o, rfl, hb⟩ := h.addr (by omega)
  have HD := Lib.hid (fun i hi => h.same (i := i) hi)
  have hd0 := h.same (i := 0) (by omega)
  simp only [Nat.add_zero] at hd0
  have hz0 : (ss.getD 0 ByteArray.empty).size = patN ss := rfl
  generalize hr0 : ss.getD 0 ByteArray.empty = r0 at hd0 hz0
  have HL := Lib.hid hl
  have HS := Lib.hid (fun i (hi : i < len) => show (ss.getD i ByteArray.empty).size = patN ss from (v5 i (by rw [hl]; exact hi)).1)
  have HW := Lib.hid (fun k => show shRow ss r u k = rotS (ss.getD (((k : Int) - u) % (ss.length : Int)).toNat ByteArray.empty) (patN ss - (r % (patN ss : Int)).toNat) from rfl)
  have HN := Lib.hid (shL_len ss r u)
  generalize patN ss = W at *
  clear h g v5 hl hr0
  have m1 := modT r (W : Int) (by omega)
  have m2 := modT u (len : Int) (by omega)
  obtain ⟨m3, m4⟩ := modN (a := r) (n := (W : Int)) (by omega)
  obtain ⟨m5, m6⟩ := modN (a := u) (n := (len : Int)) (by omega)
  obtain ⟨m7, m8⟩ := rem_ok (a := r) (n := (W : Int)) (by omega) (by omega)
  obtain ⟨m9, m10⟩ := rem_ok (a := u) (n := (len : Int)) (by omega) (by omega)
  have hW0 : ¬ (W : Int) = 0 := by omega
  have hl0 : ¬ (len : Int) = 0 := by omega
  have hl1 : (0 : Int) < (len : Int) := by omega
  obtain ⟨i0, hi, hi0, hi1, hi2⟩ := info_parts info_str
  go_enter Try.func60, Try.ntmps60
  go_wp2_with fail
  go_quiet (fail)
  go_wp2_with fail
  clear m1 m2 m7 m8 m9 m10
  obtain ⟨Q, hQ⟩ : ∃ Q : Nat, r % (W : Int) = (Q : Int) := ⟨(r % (W : Int)).toNat, by omega⟩
  obtain ⟨U, hU⟩ : ∃ U : Nat, u % (len : Int) = (U : Int) := ⟨(u % (len : Int)).toNat, by omega⟩
  have HUU : Hid (∀ k : Nat, ((k : Int) - u) % (len : Int) = ((k : Int) - (U : Int)) % (len : Int)) := Lib.hid fun k => by
    rw [← hU, Int.sub_emod, Int.sub_emod (k : Int) (u % (len : Int)), Int.emod_emod_of_dvd _ (Int.dvd_refl _)]
  rw [hQ] at HW m3 m4 ⊢
  rw [hU] at m5 m6 ⊢
  rw [HL.out] at HW
  clear hQ hU
  obtain ⟨K, hK⟩ : ∃ K : Nat, (W : Int) - (Q : Int) = (K : Int) := ⟨W - Q, by omega⟩
  have HKW : Hid (W - ((Q : Int)).toNat = K) := Lib.hid (by omega)
  have hK1 : K ≤ W := by omega
  rw [HKW.out] at HW
  obtain ⟨W0, hW0'⟩ : ∃ W0 : World, (w.drewN nq).alloc (.cells #[] 9) = W0 := ⟨_, rfl⟩
  have HO0 : Hid (OwnS W0 w.heap.size (.slice (some ⟨w.heap.size, 0, none⟩) 0 0) []) := Lib.hid (by rw [← hW0']; exact ownS_empty (w.drewN nq) w.heap.size (Nat.le_refl _))
  have HB0 : Hid (Below w.heap.size w W0) := Lib.hid (by rw [← hW0']; exact (by repeat (first | exact Below.refl _ _ | assumption | refine Below.drew ?_ | refine below_drewN ?_ _ | refine Below.alloc ?_ (by first | omega | (simp; done) | (simp; omega)) _ | refine Below.setCell ?_ (by first | omega | (simp; done) | (simp; omega)) _)))
  (try rw [hW0'])
  clear hW0'
  go_loopw [9, 34] (fun os i wr => ∃ (k : Nat) (vo : Value), k ≤ len ∧ vo = os ∧ i = .int .i64 (k : Int) ∧ OwnS wr w.heap.size vo ((List.range k).map (shRow ss r u)) ∧ Below w.heap.size w wr) (fun _ i _ => (len - intOf i).toNat)
  case atStart => exact ⟨0, _, by omega, rfl, rfl, HO0.out, HB0.out⟩
  case round =>
    obtain ⟨k, vo, hk, rfl, rfl, hO, hB⟩ := hrel
    by_cases hlt : k < len
    · have hlt' : (k : Int) < (len : Int) := by omega
      obtain ⟨n1, n2⟩ := modN (a := (k : Int) - (U : Int)) (n := (len : Int)) (by omega)
      obtain ⟨m, hm⟩ : ∃ m : Nat, ((k : Int) - (U : Int)) % (len : Int) = (m : Int) := ⟨(((k : Int) - (U : Int)) % (len : Int)).toNat, by omega⟩
      have hmt : ((k : Int) - (U : Int) + (len : Int)).tmod (len : Int) = (m : Int) := by
        rw [Int.tmod_eq_emod_of_nonneg (by omega), Int.add_emod_right, hm]
      have hml : m < len := by omega
      have hml' : (m : Int) < (len : Int) := by omega
      have hdm := keep1 hB (HD.out m hml)
      have hsm := HS.out m hml
      have HWk := Lib.hid (HW.out k)
      rw [HUU.out, hm] at HWk
      have HMT : Hid (((m : Nat) : Int).toNat = m) := Lib.hid (by omega)
      rw [HMT.out] at HWk
      have HSN : Hid ((List.range (k + 1)).map (shRow ss r u) = (List.range k).map (shRow ss r u) ++ [shRow ss r u k]) := Lib.hid (by simp [List.range_succ])
      have HLK : Hid (((List.range k).map (shRow ss r u)).length = k) := Lib.hid (by simp)
      clear hm n1 n2
      generalize ss.getD m ByteArray.empty = row at *
      generalize (List.range k).map (shRow ss r u) = P at *
      have hOl := hO
      unfold OwnS at hOl
      rw [HLK.out] at hOl
      have HOl := Lib.hid hOl
      have HO := Lib.hid hO
      have HB := Lib.hid hB
      have hBz := hB.size
      clear hO hB hOl
      have hKr : K ≤ row.size := by omega
      have hKr' : (K : Int) ≤ (row.size : Int) := by omega
      have hK0 : (0 : Int) ≤ (K : Int) := by omega
      have hwK := IntWalk.i64_in (K : Int) (by omega)
      have hKW' : (K : Int) ≤ (W : Int) := by omega
      have hWm : ¬ 9223372036854775807 < W := by omega
      have HRT : Hid (rotS row K = row.extract K W ++ row.extract 0 K) := Lib.hid (by unfold rotS; rw [hsm])
      go_wp2_with fail
      go_region_law ((refine step_append_lies _ (by rfl) _ _ 22 (by rfl) w.heap.size 9 i0 (.string ByteArray.empty) 1 16 Try.underlying22 hi hi0 hi1 hi2 rfl (by decide) vo k (P.map Value.string) (by rfl) (by first | exact World.ownsRow.alloc HOl.out _ | exact World.ownsRow.alloc (World.ownsRow.drew HOl.out) _) ⟨wr.heap.size, 0, none⟩ 1 1 [.string (row.extract K W ++ row.extract 0 K)] (by rfl) rfl (cell_one_new _ _ _) (by simp [Value.oneCell']) (by decide) (by unfold maxLen; omega) (by omega) (by simp; omega) (wr.heap.size + 1) (by simp) ?_; intro g4 cap4 w4 hown4 hgrow4 hat4 hlt4))
      all_goals
        have hOn := OwnS.snoc hown4 (by rw [HLK.out])
        rw [← HRT.out, ← HWk.out, ← HSN.out] at hOn
        have HOn := Lib.hid hOn
        have HBn := Lib.hid (below_row (by first | exact (HB.out.alloc hBz _).drew | exact HB.out.drew.alloc hBz _) (Nat.le_refl _) (by first | exact World.ownsRow.alloc HOl.out _ | exact World.ownsRow.alloc (World.ownsRow.drew HOl.out) _) hgrow4)
        clear hown4 hgrow4 hat4 hOn
        go_wp2
        go_roundw
        case rel => exact ⟨k + 1, _, by omega, rfl, by go_num, HOn.out, HBn.out⟩
        case measure => first | (simp [intOf]; done) | (simp [intOf]; omega)
    · obtain rfl : k = len := by omega
      have HF := Lib.hid hO
      have HB := Lib.hid hB
      clear hO hB
      go_wp2
      go_ret
      have e : shL ss r u = (List.range k).map (shRow ss r u) := by unfold shL; rw [HL.out]
      rw [e]
      exact newS_mk HF.out HB.out
/-- Pairs of integers of the call's own. -/
def pcells (l : List (Nat × Nat)) : List Value := l.flatMap fun p => [.int .i64 (p.1 : Int), .int .i64 (p.2 : Int)]
theorem pcells_snoc (l : List (Nat × Nat)) (r u : Nat) : pcells (l ++ [(r, u)]) = pcells l ++ [.int .i64 (r : Int), .int .i64 (u : Int)] := by simp [pcells]
def OwnP (W : World) (base : Nat) (v : Value) (l : List (Nat × Nat)) : Prop := W.ownsRow base 57 2 v l.length (pcells l)
theorem own_call {W W' : World} {base : Nat} {e : TypeId} {size : Nat} {v : Value} {n : Nat} {xs : List Value} (h : W.ownsRow base e size v n xs) (hb : Below W.heap.size W W') : W'.ownsRow base e size v n xs := by
  obtain ⟨h1, h2⟩ := h
  refine ⟨h1, ?_⟩
  rcases h2 with h2 | ⟨g, cap, cur, h3, h4, h5, h6⟩
  · exact .inl h2
  · exact .inr ⟨g, cap, cur, h3, h4, blk_call h5 hb, h6⟩
theorem OwnP.below {W W' : World} {base : Nat} {v : Value} {l : List (Nat × Nat)} (h : OwnP W base v l) (hb : Below W.heap.size W W') : OwnP W' base v l := own_call h hb
theorem OwnP.shape {W : World} {base : Nat} {v : Value} {l : List (Nat × Nat)} (h : OwnP W base v l) : ∃ a c, v = .slice a l.length c := by
  rcases h.2 with ⟨rfl, h0⟩ | ⟨g, cap, _, rfl, _⟩
  · exact ⟨none, 0, by rw [h0]⟩
  · exact ⟨_, _, rfl⟩
/-- The first pair's cells. -/
theorem OwnP.first {W : World} {base c : Nat} {a : Option Addr} {n : Nat} {l : List (Nat × Nat)} {r u : Nat} (h : OwnP W base (.slice a n c) l) (hd : l.head? = some (r, u)) : ∃ g, a = some ⟨g, 0, none⟩ ∧ W.cell? ⟨g, 0, none⟩ = some (.int .i64 (r : Int)) ∧ W.cell? ⟨g, 1, none⟩ = some (.int .i64 (u : Int)) := by
  obtain ⟨t, rfl⟩ : ∃ t, l = (r, u) :: t := by
    cases l with
    | nil => cases hd
    | cons x t => simp at hd; exact ⟨t, by rw [hd]⟩
  rcases h.2 with ⟨_, h0⟩ | ⟨g, cap, cur, hv, hb, hh, hnc, hm, hs, ht⟩
  · simp at h0
  · injection hv with h1 h2 h3
    subst h1
    have e0 : cur.toList[0]? = some (.int .i64 (r : Int)) := by
      have e : (cur.toList.take (((r, u) :: t).length * 2))[0]? = some (.int .i64 (r : Int)) := by rw [ht]; simp [pcells]
      rw [List.getElem?_take_of_lt (by first | (simp; done) | (simp; omega))] at e
      exact e
    have e1 : cur.toList[1]? = some (.int .i64 (u : Int)) := by
      have e : (cur.toList.take (((r, u) :: t).length * 2))[1]? = some (.int .i64 (u : Int)) := by rw [ht]; simp [pcells]
      rw [List.getElem?_take_of_lt (by first | (simp; done) | (simp; omega))] at e
      exact e
    refine ⟨g, rfl, ?_, ?_⟩
    · rw [cellOf hh]; simpa using e0
    · rw [cellOf hh]; simpa using e1
theorem info_pair : (Try.prog.info? 57).map (fun i => (i.zero, i.size, i.bytes)) = some (some (.agg #[.int .i64 0, .int .i64 0]), 2, 16) := by kernel_rfl
theorem ownP_empty (w : World) (base : Nat) (h : base ≤ w.heap.size) : OwnP (w.alloc (.cells #[] 57)) base (.slice (some ⟨w.heap.size, 0, none⟩) 0 0) [] :=
  World.ownsRow_made w #[] 0 h (Nat.zero_le _) rfl
set_option maxHeartbeats 4000000 in
theorem shifts_any (a a' : Option Addr) (len cap cap' : Nat) (xs ys : List ByteArray) (w : World) (h : IsStrs w a len cap xs) (h' : IsStrs w a' len cap' ys) (g : patB xs = true) (hw : ∀ y, y < xs.length → (ys.getD y ByteArray.empty).size = patN xs) :
    Calls Try.prog 57 #[.slice a len cap, .slice a' len cap'] w fun e w' => ∃ v, e = .returned v ∧ OwnP w' w.heap.size v (fL xs ys) ∧ Below w.heap.size w w' := by
  have hl := h.1
  have hl' := h'.1
  obtain ⟨v1, v2, v3, v4, v5⟩ := patB_t g
  have HSA := Lib.hid (fun r u => same_is g (by rw [hl, hl']) hw r u)
  have hrs : ∀ r u : Int, ∀ s ∈ shL xs r u, s.size ≤ maxLen := fun r u s hs => by
    obtain ⟨y, hy, rfl⟩ := List.mem_map.1 hs
    rw [shRow_size g]
    unfold maxLen; omega
  have HRS := Lib.hid hrs
  have HSL := Lib.hid (fun r u => (shL_len xs r u).trans hl)
  rw [hl] at v1 v2
  have HSH := Lib.hid (fun r u W hW => shifted_any a len cap xs r u W hW g)
  obtain ⟨b, o, rfl, hb⟩ := h.addr (by omega)
  have hd0 := h.same (i := 0) (by omega)
  simp only [Nat.add_zero] at hd0
  have hz0 : (xs.getD 0 ByteArray.empty).size = patN xs := rfl
  generalize xs.getD 0 ByteArray.empty = r0 at hd0 hz0
  have H := Lib.hid h
  have H' := Lib.hid h'
  have HF : Hid (fL xs ys = fU xs ys len) := Lib.hid (by unfold fL; rw [hl])
  have HUL := Lib.hid (fun k (hk : k ≤ len) => show (fU xs ys k).length ≤ 576 from Nat.le_trans (fU_len xs ys k) (Nat.le_trans (Nat.mul_le_mul hk v4) (by omega)))
  have HRL := Lib.hid (fun u k => fR_len xs ys u (fU xs ys u) k)
  have HUN := Lib.hid (fun u => show fU xs ys (u + 1) = fR xs ys u (fU xs ys u) (patN xs) from rfl)
  have HRN := Lib.hid (fun u r => show fR xs ys u (fU xs ys u) (r + 1) = if isB xs ys (r : Int) (u : Int) = true then fR xs ys u (fU xs ys u) r ++ [(r, u)] else fR xs ys u (fU xs ys u) r from rfl)
  have HR0 := Lib.hid (fun u => show fR xs ys u (fU xs ys u) 0 = fU xs ys u from rfl)
  generalize patN xs = W at *
  obtain ⟨i0, hi, hi0, hi1, hi2⟩ := info_parts info_pair
  clear h h' g v5 hl hl' hw hrs
  rw [HF.out]
  go_enter Try.func57, Try.ntmps57
  go_wp2_with fail
  go_loopw [5, 11] (fun os i wr => ∃ (u : Nat) (vo : Value), u ≤ len ∧ vo = os ∧ i = .int .i64 (u : Int) ∧ OwnP wr w.heap.size vo (fU xs ys u) ∧ Below w.heap.size w wr) (fun _ i _ => (len - intOf i).toNat)
  case atStart => exact ⟨0, _, by omega, rfl, rfl, ownP_empty _ _ (Nat.le_refl _), (by repeat (first | exact Below.refl _ _ | assumption | refine Below.drew ?_ | refine below_drewN ?_ _ | refine Below.alloc ?_ (by first | omega | (simp; done) | (simp; omega)) _ | refine Below.setCell ?_ (by first | omega | (simp; done) | (simp; omega)) _))⟩
  case round =>
    obtain ⟨u, vo, hu, rfl, rfl, hO, hB⟩ := hrel
    by_cases hlu : u < len
    · have hlu' : (u : Int) < (len : Int) := by omega
      have hl0 : (0 : Int) < (len : Int) := by omega
      have hUL := HUL.out u hu
      obtain ⟨wo, rfl⟩ : ∃ wo : World, wo = wr := ⟨_, rfl⟩
      have HO := Lib.hid hO
      have HB := Lib.hid hB
      have hdo := keep1 hB hd0
      clear hO hB
      go_wp2_with fail
      clear hdo
      go_loopw [5, 18] (fun os i wr => ∃ (r : Nat) (vo : Value), r ≤ W ∧ vo = os ∧ i = .int .i64 (r : Int) ∧ OwnP wr w.heap.size vo (fR xs ys u (fU xs ys u) r) ∧ Below w.heap.size w wr) (fun _ i _ => (W - intOf i).toNat)
      case atStart => exact ⟨0, _, by omega, rfl, rfl, by rw [HR0.out]; exact HO.out, HB.out⟩
      case round =>
        clear HO HB
        obtain ⟨r, vo, hr, rfl, rfl, hO, hB⟩ := hrel
        by_cases hlr : r < W
        · have hlr' : (r : Int) < (W : Int) := by omega
          have HN := Lib.hid (HRN.out u r)
          have hRL := HRL.out u r
          have HSA1 := Lib.hid (HSA.out (r : Int) (u : Int))
          have HSL1 := Lib.hid (HSL.out (r : Int) (u : Int))
          have HRS1 := Lib.hid (HRS.out (r : Int) (u : Int))
          have HSH1 := Lib.hid (HSH.out (r : Int) (u : Int))
          have HO := Lib.hid hO
          have HB := Lib.hid hB
          have hBz := hB.size
          clear hO hB
          generalize fR xs ys u (fU xs ys u) r = P at *
          generalize shL xs (r : Int) (u : Int) = S at *
          go_wp2_with fail
          refine (HSH1.out _ (H.out.below HB.out)).mono ?_
          rintro e w1 ⟨x, c, rfl, hOx, hb1⟩
          rw [HSL1.out] at hOx ⊢
          have hz1 := hb1.size
          have hX := hOx.row HRS1.out
          have hY := (H'.out.below HB.out).below hb1
          go_wp2_with fail
          refine (sEqual_any _ _ _ _ _ _ _ _ _ hX hY).mono ?_
          rintro e w2 ⟨rfl, hb2⟩
          have hz2 := hb2.size
          rw [HSA1.out]
          have HO2 := Lib.hid ((HO.out.below hb1).below hb2)
          have HB2 := Lib.hid (below_call (below_call HB.out hb1) hb2)
          have hB2z := HB2.out.size
          clear hX hY hOx hb1 hb2 HSH1 HSA1 HRS1
          cases hq : isB xs ys (r : Int) (u : Int)
          · rw [hq, if_neg (by decide)] at HN
            clear hq
            go_wp2
            go_roundw
            case rel => exact ⟨r + 1, _, by omega, rfl, by go_num, by rw [HN.out]; exact HO2.out, HB2.out⟩
            case measure => first | (simp [intOf]; done) | (simp [intOf]; omega)
          · rw [hq, if_pos rfl] at HN
            clear hq
            have hOl := HO2.out
            unfold OwnP at hOl
            go_wp2_with (at_builtin; refine wpList_append_new _ rfl _ _ 51 rfl _ 57 i0 (.agg #[.int .i64 0, .int .i64 0]) 2 16 Try.underlying51 hi hi0 hi1 hi2 rfl (by decide) _ _ _ rfl (hOl.alloc _) ⟨w2.heap.size, 0, none⟩ 1 1 [.int .i64 (r : Int), .int .i64 (u : Int)] rfl rfl (fun j u hu => World.news_of_block (blk_new w2 _) j u hu) (by simp [Value.oneCell']) (by unfold maxLen; omega) (by omega) (by first | omega | (simp; done) | (simp; omega)) (by decide) ?_; intro v' w1' hown1 hgrow1 hnew1)
            have hOn : OwnP w1' w.heap.size v' (P ++ [(r, u)]) := by
              unfold OwnP
              rw [pcells_snoc]
              simpa using hown1
            have HOn := Lib.hid hOn
            have HBn := Lib.hid (below_row (HB2.out.alloc hB2z _) (Nat.le_refl _) (hOl.alloc _) hgrow1)
            clear hown1 hgrow1 hnew1 hOn hOl
            go_wp2
            go_roundw
            case rel => exact ⟨r + 1, _, by omega, rfl, by go_num, by rw [HN.out]; exact HOn.out, HBn.out⟩
            case measure => first | (simp [intOf]; done) | (simp [intOf]; omega)
        · obtain rfl : r = W := by omega
          have HO := Lib.hid hO
          have HB := Lib.hid hB
          clear hO hB
          go_wp2
          go_roundw
          case rel => exact ⟨u + 1, _, by omega, rfl, by go_num, by rw [HUN.out]; exact HO.out, HB.out⟩
          case measure => first | (simp [intOf]; done) | (simp [intOf]; omega)
    · obtain rfl : u = len := by omega
      have HO := Lib.hid hO
      have HB := Lib.hid hB
      clear hO hB
      go_wp2
      go_ret
      exact ⟨_, rfl, HO.out, HB.out⟩
end Go.Proofs.Ytlkdkidpbjpkhaa
