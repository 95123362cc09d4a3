/- Contracts of LevelsOff, program and reference: how far levels are from marks, in a new slice, and its code; no old memory turns. -/
import Derived.Test.YtgpcehokdfehjaaMarks
namespace Go.Proofs.Ytgpcehokdfehjaa
open Go.RowKit

def lvlC (H c : Int) (zs : List Int) : Int := if (storB H c && levB zs H) = true then 0 else 2
def lvlI (H c : Int) (zs : List Int) : List Int := if (storB H c && levB zs H) = true then offs H c zs else []
theorem lvl_cases (H c : Int) (zs : List Int) : (storB H c = true ∧ levB zs H = true ∧ lvlC H c zs = 0 ∧ lvlI H c zs = offs H c zs) ∨ ((storB H c = false ∨ (storB H c = true ∧ levB zs H = false)) ∧ lvlC H c zs = 2 ∧ lvlI H c zs = []) := by
  unfold lvlC lvlI
  cases h1 : storB H c <;> cases h2 : levB zs H <;> simp
theorem lvlI_len (H c : Int) (zs : List Int) : (lvlI H c zs).length ≤ 1000000 := by
  rcases lvl_cases H c zs with ⟨_, h, _, e⟩ | ⟨_, _, e⟩
  · have := (levB_t h).2.2.1
    rw [e]; unfold offs; simp; omega
  · rw [e]; simp
set_option maxHeartbeats 1000000 in
theorem LevelsOff_any (H c : Int) (a : Option Addr) (len cap : Nat) (zs : List Int) (w : World) (h : IsRow .i64 w a len cap zs) :
    Calls Try.prog 25 #[.int .i64 H, .int .i64 c, .slice a len cap] w (NewI w (lvlI H c zs) (lvlC H c zs)) := by
  have hl := h.1
  have HZ := Lib.hid h
  clear h
  rcases lvl_cases H c zs with ⟨g1, g2, e1, e2⟩ | ⟨g, e1, e2⟩
  · rw [e1, e2]
    obtain ⟨b1, b2, b3, b4, _⟩ := levB_t g2
    obtain ⟨_, _, c1, c2⟩ := storB_t g1
    rw [hl] at b3
    have G1 := Lib.hid g1
    have G2 := Lib.hid g2
    clear g1 g2 e1 e2 hl
    go_enter Try.func25, Try.ntmps25
    go_wp2_with fail
    refine (isStorey_any _ _ _).mono ?_
    rintro e1 w1 ⟨rfl, rfl⟩
    rw [G1.out]
    go_wp2_with fail
    refine (validLevels_any _ _ _ _ _ _ (HZ.out.below (by repeat (first | exact Below.refl _ _ | assumption | refine Below.drew ?_ | refine below_drewN ?_ _ | refine Below.alloc ?_ (by first | omega | (simp; done) | (simp; omega)) _ | refine Below.setCell ?_ (by first | omega | (simp; done) | (simp; omega)) _)))).mono ?_
    rintro e2 w2 ⟨rfl, hb2⟩
    obtain ⟨hc2, hf2⟩ := bcell hb2
    have hz2 := hb2.size
    try simp at hz2
    have ha2 : Below w.heap.size w w2 := below_call (by repeat (first | exact Below.refl _ _ | assumption | refine Below.drew ?_ | refine below_drewN ?_ _ | refine Below.alloc ?_ (by first | omega | (simp; done) | (simp; omega)) _ | refine Below.setCell ?_ (by first | omega | (simp; done) | (simp; omega)) _)) hb2
    rw [G2.out]
    go_wp2_with fail
    refine (levelsOff_any _ _ _ _ _ _ _ (by omega) b2 c1 c2 b4 b3 (HZ.out.below ha2)).mono ?_
    rintro e w' ⟨a', c', rfl, hO, hB⟩
    have hz := hb2.size
    have HO := Lib.hid (newI_mk (w := w) (code := 0) (hO.base hz) (below_call ha2 hB))
    clear hO hB
    go_wp2
    go_ret2
    exact HO.out
  · rw [e1, e2]
    clear e1 e2 hl
    rcases g with g | ⟨g1, g2⟩
    · have G1 := Lib.hid g
      clear g
      go_enter Try.func25, Try.ntmps25
      go_wp2_with fail
      refine (isStorey_any _ _ _).mono ?_
      rintro e1 w1 ⟨rfl, rfl⟩
      rw [G1.out]
      go_wp2
      go_ret2
      exact newI_mk (ownI_nil _ _) (by repeat (first | exact Below.refl _ _ | assumption | refine Below.drew ?_ | refine below_drewN ?_ _ | refine Below.alloc ?_ (by first | omega | (simp; done) | (simp; omega)) _ | refine Below.setCell ?_ (by first | omega | (simp; done) | (simp; omega)) _))
    · have G1 := Lib.hid g1
      have G2 := Lib.hid g2
      clear g1 g2
      go_enter Try.func25, Try.ntmps25
      go_wp2_with fail
      refine (isStorey_any _ _ _).mono ?_
      rintro e1 w1 ⟨rfl, rfl⟩
      rw [G1.out]
      go_wp2_with fail
      refine (validLevels_any _ _ _ _ _ _ (HZ.out.below (by repeat (first | exact Below.refl _ _ | assumption | refine Below.drew ?_ | refine below_drewN ?_ _ | refine Below.alloc ?_ (by first | omega | (simp; done) | (simp; omega)) _ | refine Below.setCell ?_ (by first | omega | (simp; done) | (simp; omega)) _)))).mono ?_
      rintro e2 w2 ⟨rfl, hb2⟩
      obtain ⟨hc2, hf2⟩ := bcell hb2
      have hz2 := hb2.size
      try simp at hz2
      have ha2 : Below w.heap.size w w2 := below_call (by repeat (first | exact Below.refl _ _ | assumption | refine Below.drew ?_ | refine below_drewN ?_ _ | refine Below.alloc ?_ (by first | omega | (simp; done) | (simp; omega)) _ | refine Below.setCell ?_ (by first | omega | (simp; done) | (simp; omega)) _)) hb2
      rw [G2.out]
      go_wp2
      go_ret2
      exact newI_mk (ownI_nil _ _) (by repeat (first | exact Below.refl _ _ | assumption | refine Below.drew ?_ | refine below_drewN ?_ _ | refine Below.alloc ?_ (by first | omega | (simp; done) | (simp; omega)) _ | refine Below.setCell ?_ (by first | omega | (simp; done) | (simp; omega)) _))
set_option maxHeartbeats 4000000 in
theorem specLevelsOff_any (H c : Int) (a : Option Addr) (len cap : Nat) (zs : List Int) (w : World) (h : IsRow .i64 w a len cap zs) :
    Calls Try.prog 24 #[.int .i64 H, .int .i64 c, .slice a len cap] w (NewI w (lvlI H c zs) (lvlC H c zs)) := by
  have hl := h.1
  have HZ := Lib.hid h
  clear h
  rcases lvl_cases H c zs with ⟨g1, g2, e1, e2⟩ | ⟨g, e1, e2⟩
  · rw [e1, e2]
    obtain ⟨b1, b2, b3, b4, _⟩ := levB_t g2
    obtain ⟨_, _, c1, c2⟩ := storB_t g1
    rw [hl] at b3
    have b0 : 0 ≤ H := by omega
    have G1 := Lib.hid (show storC H c = 0 by simp [storC, g1])
    have G2 := Lib.hid g2
    have HL := Lib.hid hl
    have HV := Lib.hid (insB_t b4)
    have HM := Lib.hid (fun k (hk : k < len) => map_take_next (f := lvOff H c) (zs := zs) (k := k) (by rw [hl]; exact hk))
    have HK := Lib.hid (fun k (hk : k ≤ len) => map_take_len (f := lvOff H c) (zs := zs) (k := k) (by rw [hl]; exact hk))
    have HA := Lib.hid (show (zs.take len).map (lvOff H c) = offs H c zs by rw [← hl, List.take_length]; rfl)
    clear g1 g2 e1 e2 hl b4
    obtain ⟨i0, hi, hi0, hi1, hi2⟩ := info_parts info_i64
    go_enter Try.func24, Try.ntmps24
    go_wp2_with fail
    refine (l10Code_any _ _ _).mono ?_
    rintro e1 w1 ⟨rfl, rfl⟩
    rw [G1.out]
    go_wp2_with fail
    refine (l10Levels_any _ _ _ _ _ _ (HZ.out.below (by repeat (first | exact Below.refl _ _ | assumption | refine Below.drew ?_ | refine below_drewN ?_ _ | refine Below.alloc ?_ (by first | omega | (simp; done) | (simp; omega)) _ | refine Below.setCell ?_ (by first | omega | (simp; done) | (simp; omega)) _)))).mono ?_
    rintro e2 w2 ⟨rfl, hb2⟩
    obtain ⟨hc2, hf2⟩ := bcell hb2
    have hz2 := hb2.size
    try simp at hz2
    have ha2 : Below w.heap.size w w2 := below_call (by repeat (first | exact Below.refl _ _ | assumption | refine Below.drew ?_ | refine below_drewN ?_ _ | refine Below.alloc ?_ (by first | omega | (simp; done) | (simp; omega)) _ | refine Below.setCell ?_ (by first | omega | (simp; done) | (simp; omega)) _)) hb2
    rw [G2.out]
    go_wp2_with fail
    go_loopw [9, 10] (fun os i wr => ∃ k : Nat, k ≤ len ∧ i = .int .i64 (k : Int) ∧ OwnI wr w.heap.size os ((zs.take k).map (lvOff H c)) ∧ Below w.heap.size w wr) (fun _ i _ => (len - intOf i).toNat)
    case atStart => exact ⟨0, by omega, rfl, ownI_empty _ _ (by omega), (by repeat (first | exact Below.refl _ _ | assumption | refine Below.drew ?_ | refine below_drewN ?_ _ | refine Below.alloc ?_ (by first | omega | (simp; done) | (simp; omega)) _ | refine Below.setCell ?_ (by first | omega | (simp; done) | (simp; omega)) _))⟩
    case round =>
      obtain ⟨k, hk, rfl, hO, hB⟩ := hrel
      have hz := hB.size
      by_cases hlt : k < len
      · have hlt' : (k : Int) < (len : Int) := by omega
        obtain ⟨b, o, rfl, hb, hc⟩ := (HZ.out.below hB).cell hlt
        obtain ⟨v1, v2⟩ := HV.out k (by rw [HL.out]; exact hlt)
        have HN := Lib.hid (HM.out k hlt)
        have HP := Lib.hid (HK.out k hk)
        generalize (zs.take k).map (lvOff H c) = P at *
        have HO := Lib.hid hO
        have hOl := hO
        unfold OwnI at hOl
        rw [HP.out] at hOl
        clear hO
        generalize zs.getD k 0 = x at *
        go_wp2_with fail
        refine (l10Off_any _ _ _ _ b0 b2 c1 c2 (by omega) (by omega)).mono ?_
        rintro e3 w3 ⟨rfl, rfl⟩
        go_wp2_with (at_builtin; refine wpList_append_own _ rfl _ _ 35 rfl w.heap.size 2 i0 (.int .i64 0) 1 8 Try.underlying35 hi hi0 hi1 hi2 rfl (by decide) _ _ _ rfl (hOl.alloc _) ⟨wr.heap.size, 0, none⟩ 1 1 [.int .i64 (lvOff H c x)] rfl rfl ?c1 ?c2 ?c3 ?c4 ?c5 ?_)
        case c1 => exact cell_one_new _ _ _
        case c2 => simp [Value.oneCell']
        case c3 => unfold maxLen; omega
        case c4 => omega
        case c5 => simp; omega
        intro v' w1' hown1 hgrow1 _
        have hO1 := Lib.hid (OwnI.snoc hown1 (by rw [HP.out]))
        have hB1 := Lib.hid (below_append (hB.alloc hz _) (HO.out.alloc _) hgrow1)
        clear hown1 hgrow1 hOl
        go_wp2
        go_roundw
        case rel => exact ⟨k + 1, by omega, by go_num, by rw [HN.out]; exact hO1.out, hB1.out⟩
        case measure => simp [intOf]; omega
      · obtain rfl : k = len := by omega
        have HO := Lib.hid (newI_mk (code := 0) hO hB)
        clear hO
        go_wp2
        go_ret2
        rw [← HA.out]
        exact HO.out
  · rw [e1, e2]
    clear e1 e2 hl
    rcases g with g | ⟨g1, g2⟩
    · have G1 := Lib.hid (show storC H c = 2 by simp [storC, g])
      clear g
      go_enter Try.func24, Try.ntmps24
      go_wp2_with fail
      refine (l10Code_any _ _ _).mono ?_
      rintro e1 w1 ⟨rfl, rfl⟩
      rw [G1.out]
      go_wp2
      go_ret2
      exact newI_mk (ownI_nil _ _) (by repeat (first | exact Below.refl _ _ | assumption | refine Below.drew ?_ | refine below_drewN ?_ _ | refine Below.alloc ?_ (by first | omega | (simp; done) | (simp; omega)) _ | refine Below.setCell ?_ (by first | omega | (simp; done) | (simp; omega)) _))
    · have G1 := Lib.hid (show storC H c = 0 by simp [storC, g1])
      have G2 := Lib.hid g2
      clear g1 g2
      go_enter Try.func24, Try.ntmps24
      go_wp2_with fail
      refine (l10Code_any _ _ _).mono ?_
      rintro e1 w1 ⟨rfl, rfl⟩
      rw [G1.out]
      go_wp2_with fail
      refine (l10Levels_any _ _ _ _ _ _ (HZ.out.below (by repeat (first | exact Below.refl _ _ | assumption | refine Below.drew ?_ | refine below_drewN ?_ _ | refine Below.alloc ?_ (by first | omega | (simp; done) | (simp; omega)) _ | refine Below.setCell ?_ (by first | omega | (simp; done) | (simp; omega)) _)))).mono ?_
      rintro e2 w2 ⟨rfl, hb2⟩
      obtain ⟨hc2, hf2⟩ := bcell hb2
      have hz2 := hb2.size
      try simp at hz2
      have ha2 : Below w.heap.size w w2 := below_call (by repeat (first | exact Below.refl _ _ | assumption | refine Below.drew ?_ | refine below_drewN ?_ _ | refine Below.alloc ?_ (by first | omega | (simp; done) | (simp; omega)) _ | refine Below.setCell ?_ (by first | omega | (simp; done) | (simp; omega)) _)) hb2
      rw [G2.out]
      go_wp2
      go_ret2
      exact newI_mk (ownI_nil _ _) (by repeat (first | exact Below.refl _ _ | assumption | refine Below.drew ?_ | refine below_drewN ?_ _ | refine Below.alloc ?_ (by first | omega | (simp; done) | (simp; omega)) _ | refine Below.setCell ?_ (by first | omega | (simp; done) | (simp; omega)) _))
end Go.Proofs.Ytgpcehokdfehjaa
