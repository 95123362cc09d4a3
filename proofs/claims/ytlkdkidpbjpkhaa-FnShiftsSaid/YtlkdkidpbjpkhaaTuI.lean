/- Contracts of the program's turnPattern, TurnPattern and KeepsTurn; no old memory turns; condition: the slices can be read. -/
import Derived.Test.YtlkdkidpbjpkhaaTuP
import Derived.Test.YtlkdkidpbjpkhaaRevS
namespace Go.Proofs.Ytlkdkidpbjpkhaa
open Go.RowKit

/-- What '[]byte(s)' leaves. -/
theorem bytes_new (w : World) (s : ByteArray) : ∃ cp W2, (convert 9 40 (.string s)).run Try.prog w = .ok (.slice (some ⟨w.heap.size, 0, none⟩) s.size cp) W2 ∧ BytesAt W2 w.heap.size s.data.toList ∧ Below w.heap.size w W2 ∧ W2.heap.size = w.heap.size + 1 := by
  refine ⟨_, _, run_bytes_of_string w 9 40 5 s Try.underlying9 Try.underlying40 Try.underlying5, ?_, (by repeat (first | exact Below.refl _ _ | assumption | refine Below.drew ?_ | refine below_drewN ?_ _ | refine Below.alloc ?_ (by first | omega | (simp; done) | (simp; omega)) _ | refine Below.setCell ?_ (by first | omega | (simp; done) | (simp; omega)) _)), by rw [World.size_alloc]; rfl⟩
  intro j hj
  have hj' : j < s.data.size := by simpa using hj
  constructor
  · have := World.cell?_alloc_mark w.drew (bytesRow s (grownCap w s.size 0 5)) 5 ((bytesRow s (grownCap w s.size 0 5)).size, (bytesRow s (grownCap w s.size 0 5)).size + 1) j
    refine this.trans ((bytesRow_at s _ j hj').trans ?_)
    rw [List.getD_eq_getElem?_getD, List.getElem?_eq_getElem hj]; rfl
  · have := World.frozen?_alloc_mark w.drew (bytesRow s (grownCap w s.size 0 5)) 5 ((bytesRow s (grownCap w s.size 0 5)).size) ((bytesRow s (grownCap w s.size 0 5)).size + 1) j
    refine this.trans ?_
    have hle : ¬ (bytesRow s (grownCap w s.size 0 5)).size ≤ j := by
      unfold bytesRow
      simp only [Array.size_append, Array.size_map]
      omega
    simp [hle]
theorem bytes_text {w : World} {g n c : Nat} {bs : List UInt8} (h : BytesAt w g bs) (hl : bs.length = n) : (convert 40 9 (.slice (some ⟨g, 0, none⟩) n c)).run Try.prog w = .ok (.string ⟨bs.toArray⟩) w := by
  subst hl
  exact run_convert_bytes_back w 40 9 5 ⟨g, 0, none⟩ c bs Try.underlying40 Try.underlying5 Try.underlying9 (fun j hj => by
    have := (h j hj).1
    rw [List.getD_eq_getElem?_getD, List.getElem?_eq_getElem hj] at this
    by_cases e : j = 0
    · subst e; simpa [Addr.add] using this
    · simpa [Addr.add, e] using this)
set_option maxRecDepth 100000 in
set_option maxHeartbeats 4000000 in
theorem turnPattern_any (a : Option Addr) (len cap : Nat) (ss : List ByteArray) (kind : Int) (w : World) (h : IsStrs w a len cap ss) (g : patB ss = true) :
    Calls Try.prog 65 #[.slice a len cap, .int .i64 kind] w (NewS w (tuL ss kind)) := by
  have hl := h.1
  obtain ⟨v1, v2, v3, v4, v5⟩ := patB_t g
  rw [hl] at v1 v2
  have HS := Lib.hid (fun i (hi : i < len) => show (ss.getD i ByteArray.empty).size = patN ss from (v5 i (by rw [hl]; exact hi)).1)
  have HMN := Lib.hid (fun k => tuM_next ss kind k)
  have HML := Lib.hid (fun k => tuM_len ss kind k)
  have HT0 : Hid (kind = 0 → tuM ss kind len = tuL ss kind) := Lib.hid (fun e => by subst e; rw [← hl]; exact tuL_0 ss)
  have HT1 : Hid (kind ≠ 0 → (tuM ss kind len).reverse = tuL ss kind) := Lib.hid (fun e => by rw [← hl]; exact tuL_1 ss e)
  have HF1 : Hid (∀ s, kind = 1 → tuF kind s = s) := Lib.hid (fun s e => by unfold tuF; rw [if_pos e])
  have HF2 : Hid (∀ s, kind ≠ 1 → tuF kind s = revS s) := Lib.hid (fun s e => by unfold tuF; rw [if_neg e])
  have H := Lib.hid h
  generalize patN ss = W at *
  obtain ⟨i0, hi, hi0, hi1, hi2⟩ := info_parts info_str
  clear h g v5 hl
  go_enter Try.func65, Try.ntmps65
  go_wp2_with fail
  go_loopw [5, 12] (fun os i wr => ∃ (y : Nat) (vo : Value), y ≤ len ∧ vo = os ∧ i = .int .i64 (y : Int) ∧ OwnS wr w.heap.size vo (tuM ss kind y) ∧ Below w.heap.size w wr) (fun _ i _ => (len - intOf i).toNat)
  case atStart => exact ⟨0, _, by omega, rfl, rfl, ownS_empty _ _ (Nat.le_refl _), (by repeat (first | exact Below.refl _ _ | assumption | refine Below.drew ?_ | refine below_drewN ?_ _ | refine Below.alloc ?_ (by first | omega | (simp; done) | (simp; omega)) _ | refine Below.setCell ?_ (by first | omega | (simp; done) | (simp; omega)) _))⟩
  case round =>
    obtain ⟨y, vo, hy, rfl, rfl, hO, hB⟩ := hrel
    by_cases hly : y < len
    · have hly' : (y : Int) < (len : Int) := by omega
      obtain ⟨b, o, rfl, hb, hc⟩ := (H.out.below hB).cell hly
      have hsr := HS.out y hly
      have HN := Lib.hid (HMN.out y)
      have HLK := Lib.hid (HML.out y)
      have HF1y := Lib.hid (HF1.out (ss.getD y ByteArray.empty))
      have HF2y := Lib.hid (HF2.out (ss.getD y ByteArray.empty))
      generalize tuM ss kind y = P at *
      generalize ss.getD y ByteArray.empty = row at *
      obtain ⟨cp, W2, hcv, hby, hbW, hWz⟩ := bytes_new wr row
      have hBz := hB.size
      have HO2 := Lib.hid (hO.below hbW)
      have HB2 := Lib.hid (below_callB hB hBz hbW)
      have hgo : ∀ k, vo.ownBlock = some k → k < wr.heap.size := fun k e => (ownS_lt hO e).2
      have HGO := Lib.hid hgo
      have hbl : row.data.toList.length = W := by rw [← hsr]; simp
      rw [hsr] at hcv
      clear hO hB hbW hgo hWz
      by_cases hk1 : kind = 1
      · have y1 : (kind != 1) = false := by simpa using hk1
        have HTF := Lib.hid (HF1y.out hk1)
        have hct := bytes_text (c := cp) hby hbl
        rw [sameS_of, ← HTF.out] at hct
        rw [HTF.out] at HN
        have hOl := HO2.out
        unfold OwnS at hOl
        rw [HLK.out] at hOl
        have hB2z := HB2.out.size
        rw [HTF.out] at hct
        clear hk1 hby
        go_wp2_with (at_builtin; refine wpList_append_new _ rfl _ _ 22 rfl _ 9 i0 (.string ByteArray.empty) 1 16 Try.underlying22 hi hi0 hi1 hi2 rfl (by decide) _ _ _ rfl (World.ownsRow.alloc hOl _) ⟨W2.heap.size, 0, none⟩ 1 1 [.string row] rfl rfl (cell_one_new _ _ _) (by simp [Value.oneCell']) (by unfold maxLen; omega) (by omega) (by first | omega | (simp; done) | (simp; omega)) (by decide) ?_; intro v' w1' hown1 hgrow1 hnew1)
        have hOn := OwnS.snoc hown1 (by rw [HLK.out])
        rw [← HN.out] at hOn
        have HOn := Lib.hid hOn
        have HBn := Lib.hid (below_row (HB2.out.alloc hB2z _) (Nat.le_refl _) (World.ownsRow.alloc hOl _) hgrow1)
        clear hown1 hgrow1 hnew1 hOn hOl hct hcv
        go_wp2
        go_roundw
        case rel => exact ⟨y + 1, _, by omega, rfl, by go_num, HOn.out, HBn.out⟩
        case measure => first | (simp [intOf]; done) | (simp [intOf]; omega)
      · have y1 : (kind != 1) = true := by simpa using hk1
        have HTF := Lib.hid (HF2y.out hk1)
        have HRV := Lib.hid (reverseB_any wr.heap.size W cp row.data.toList W2 hbl hby (by omega) (by omega))
        rw [HTF.out] at HN
        have hB2z := HB2.out.size
        clear hk1 hby
        go_wp2_with fail
        refine HRV.out.mono ?_
        rintro e w3 ⟨rfl, hby3, hG3⟩
        have hct := bytes_text (c := cp) hby3 (n := W) (by rw [List.length_reverse]; exact hbl)
        rw [revS_of] at hct
        have hz3 := hG3.size
        have hO3 : OwnS w3 w.heap.size vo P := World.ownsRow.kept HO2.out hG3 (by
          rcases ho : vo.ownBlock with _ | k
          · exact .inl rfl
          · exact .inr (by have := HGO.out k ho; simp; omega))
        have HB3 := Lib.hid (HB2.out.grown hG3 hB2z (fun k e => by injection e with e; omega))
        have hB3z := HB3.out.size
        have hOl := hO3
        unfold OwnS at hOl
        rw [HLK.out] at hOl
        clear hby3 hO3 hG3 hcv
        go_wp2_with (at_builtin; refine wpList_append_new _ rfl _ _ 22 rfl _ 9 i0 (.string ByteArray.empty) 1 16 Try.underlying22 hi hi0 hi1 hi2 rfl (by decide) _ _ _ rfl (World.ownsRow.alloc hOl _) ⟨w3.heap.size, 0, none⟩ 1 1 [.string (revS row)] rfl rfl (cell_one_new _ _ _) (by simp [Value.oneCell']) (by unfold maxLen; omega) (by omega) (by first | omega | (simp; done) | (simp; omega)) (by decide) ?_; intro v' w1' hown1 hgrow1 hnew1)
        have hOn := OwnS.snoc hown1 (by rw [HLK.out])
        rw [← HN.out] at hOn
        have HOn := Lib.hid hOn
        have HBn := Lib.hid (below_row (HB3.out.alloc hB3z _) (Nat.le_refl _) (World.ownsRow.alloc hOl _) hgrow1)
        clear hown1 hgrow1 hnew1 hOn hOl hct
        go_wp2
        go_roundw
        case rel => exact ⟨y + 1, _, by omega, rfl, by go_num, HOn.out, HBn.out⟩
        case measure => first | (simp [intOf]; done) | (simp [intOf]; omega)
    · obtain rfl : y = len := by omega
      by_cases hk0 : kind = 0
      · have y1 : (kind != 0) = false := by simpa using hk0
        have HT := Lib.hid (HT0.out hk0)
        have HO := Lib.hid hO
        have HB := Lib.hid hB
        clear hk0 hO hB
        go_wp2
        go_ret
        rw [HT.out] at HO
        exact newS_mk HO.out HB.out
      · have y1 : (kind != 0) = true := by simpa using hk0
        have HT := Lib.hid (HT1.out hk0)
        obtain ⟨ax, cx, rfl⟩ := hO.shape
        have hOx := hO
        have HLM := Lib.hid (HML.out y)
        rw [HLM.out] at hOx ⊢
        have HRV := Lib.hid (reverseS_any w.heap.size ax y cx (tuM ss kind y) wr hOx (by omega))
        have HB := Lib.hid hB
        clear hk0 hO hB
        go_wp2_with fail
        refine HRV.out.mono ?_
        rintro e w3 ⟨rfl, hO3, hG3⟩
        rw [HT.out] at hO3
        have HO3 := Lib.hid hO3
        have HB3 := Lib.hid (below_row HB.out (Nat.le_refl _) hOx hG3)
        clear hO3 hG3 hOx
        go_wp2
        go_ret
        exact newS_mk HO3.out HB3.out
end Go.Proofs.Ytlkdkidpbjpkhaa
