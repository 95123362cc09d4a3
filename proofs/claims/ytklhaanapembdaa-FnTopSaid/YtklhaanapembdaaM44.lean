/- Contracts of layCourse and LayWall: courses of one length come, in a new slice; condition: the bond is valid, the length at most 40. -/
import Derived.Test.YtklhaanapembdaaCrs

namespace Go.Proofs.Ytklhaanapembdaa
set_option linter.unusedVariables false
open Go.RowKit

/-- A course that has been laid. -/
def Lain (w : World) (L : Int) (e : Ending) (w' : World) : Prop := ∃ s : ByteArray, e = .returned (.tuple #[.string s, .int .i64 0]) ∧ Cour L s ∧ Below w.heap.size w w'
theorem lain_mk {w w' : World} {L : Int} {bs : List UInt8} (h : Cour L (⟨bs.toArray⟩ : ByteArray)) (hb : Below w.heap.size w w') : Lain w L (.returned (.tuple #[.string ⟨bs.toArray⟩, .int .i64 0])) w' := ⟨_, rfl, h, hb⟩
theorem OwnU.pos {L : Int} {bs : List UInt8} (h : Cour L (⟨bs.toArray⟩ : ByteArray)) : 0 < bs.length ∧ bs.length ≤ 60 := by
  have h0 := h.s0
  have h1 := h.s1
  have e : (⟨bs.toArray⟩ : ByteArray).size = bs.length := by show bs.toArray.size = _; simp
  omega
theorem own_below {w w' : World} {base size n : Nat} {e : TypeId} {v : Value} {xs : List Value} (h : w.ownsRow base e size v n xs) (hb : Below w.heap.size w w') : w'.ownsRow base e size v n xs := by
  refine World.ownsRow.kept (row := none) h ⟨hb.os, hb.tape, hb.output, hb.size, fun k hk _ => hb.block k hk⟩ ?_
  rcases h.2 with ⟨rfl, _⟩ | ⟨g, _, _, rfl, _⟩
  · exact .inl rfl
  · exact .inr (by simp [Value.ownBlock])
set_option maxRecDepth 100000 in
set_option maxHeartbeats 8000000 in
theorem layCourse_any (nm : ByteArray) (a : Option Addr) (n cap k : Nat) (L : Int) (ps : List (ByteArray × ByteArray)) (w : World) (h : Bond w nm a n cap ps) (hk : k ≤ 1000) (l1 : 1 ≤ L) (l2 : L ≤ 40) :
    Calls Try.prog 80 #[.agg #[.string nm, .slice a n cap], .int .i64 (k : Int), .int .i64 L] w (Lain w L) := by
  obtain ⟨j0, hj, hj0, hj1, hj2⟩ := info_parts info_u8
  have hb0 : Below w.heap.size w (w.alloc (.cells #[.string nm, .slice a n cap] 45)) := (Below.refl _ _).alloc (Nat.le_refl _) _
  have HCO := Lib.hid (course_any nm a n cap k ps _ (h.below hb0) hk)
  have HB0 := Lib.hid hb0
  clear h hb0
  go_enter Try.func80, Try.ntmps80
  go_wp2_with fail
  refine HCO.out.mono ?_
  rintro e1 w1 ⟨l, c, rfl, hok, hb1⟩
  have HOK := Lib.hid hok
  have HB1 := Lib.hid (below_call HB0.out hb1)
  have hz1 := HB1.out.size
  clear hok hb1 HB0 HCO
  go_wp2_with fail
  go_loopw [9, 10, 11] (fun ov av _ wr => ∃ (out : List UInt8) (vl : Value), vl = ov ∧ av = .int .i64 (sumU out) ∧ Laid L out ∧ OwnU wr w1.heap.size vl out ∧ vl.ownBlock ≠ some (w1.heap.size + 1) ∧ Below w.heap.size w wr ∧ wr.heap[w1.heap.size + 1]? = some (.cells #[.string l, .string c] 137 (0, 0))) (fun _ av _ _ => (L - intOf av).toNat)
  case atStart => exact ⟨[], _, rfl, by simp [sumU], laid_nil (by omega), OwnU.alloc (ownU_empty _ _ (Nat.le_refl _)) _, by simp [Value.ownBlock], (HB1.out.alloc hz1 _).alloc (by simp; omega) _, blk_new' _ _ (by simp)⟩
  case round =>
    obtain ⟨out, vl, rfl, rfl, hLd, hU, hne, hB, hC⟩ := hrel
    obtain ⟨p1, p2, p3⟩ := hLd.len
    have hlen : out.length ≤ 40 := by omega
    obtain ⟨aL, cL, rfl⟩ := hU.shape
    have c0 := cellOf hC 0
    have c1 := cellOf hC 1
    simp at c0 c1
    have HPA := Lib.hid (fun W => pieceAt_any l c out.length W HOK.out (by omega))
    have HLd := Lib.hid hLd
    have HU := Lib.hid hU
    have HC := Lib.hid hC
    have hz := hB.size
    have hzC := blk_lt hC
    have HNE := Lib.hid hne
    have HSU := Lib.hid (fun x => sum_snoc out x)
    obtain ⟨P, hP⟩ : ∃ P, sumU out = P := ⟨_, rfl⟩
    rw [hP] at p1 p2 p3 HSU ⊢
    have HP := Lib.hid hP
    clear hLd hU hC hne hP
    go_wp2_with fail
    clear c0 c1
    refine (HPA.out _).mono ?_
    rintro e3 w3 ⟨x, rfl, hx1, hb3⟩
    have hx4 := (qU_bd x).2
    have hB3 := below_call hB hb3
    have HUl := Lib.hid (own_below HU.out hb3)
    have HC3 := Lib.hid (blk_call HC.out hb3)
    have hz3 := hb3.size
    have HB3 := Lib.hid hB3
    clear hB hb3 HPA HU HC hB3
    by_cases hfit : P + qU x ≤ L
    · have HL1 := Lib.hid (HLd.out.snoc hx1 (by rw [HP.out]; exact hfit))
      have HQ := Lib.hid (fun W => quarters_any x W)
      have HSX := Lib.hid (HSU.out x)
      generalize hqq : qU x = q at *
      clear hqq HSU
      have hnl : ¬ L < P + q := by omega
      have hUl := HUl.out
      go_wp2_with fail
      refine (HQ.out _).mono ?_
      rintro e4 w4 ⟨rfl, rfl⟩
      go_wp2_with (at_builtin; refine wpList_append_new _ rfl _ _ 22 rfl _ 5 j0 (.int .u8 0) 1 1 Try.underlying22 hj hj0 hj1 hj2 rfl (by decide) _ _ _ rfl (World.ownsRow.alloc hUl _) ⟨w3.heap.size, 0, none⟩ 1 1 [.int .u8 (x.toNat : Int)] rfl rfl (cell_one_new _ _ _) (by simp [Value.oneCell']) (by unfold maxLen; omega) (by omega) (by first | omega | (simp; done) | (simp; omega)) (by decide) ?_; intro v' w1' hown1 hgrow1 hnew1)
      have HUn := Lib.hid (OwnU.snoc hown1 rfl)
      have HNn : Hid (v'.ownBlock ≠ some (w1.heap.size + 1)) := Lib.hid (fun e => by
        rcases hnew1 _ e with h | h
        · exact HNE.out h
        · simp at h; omega)
      have HCn := Lib.hid ((hgrow1.block _ (blk_lt (blk_alloc HC3.out)) (fun e => HNE.out e.symm)).trans (blk_alloc HC3.out))
      have HBn := Lib.hid (below_row (HB3.out.alloc HB3.out.size _) hz1 (World.ownsRow.alloc hUl _) hgrow1)
      clear hown1 hgrow1 hnew1 hUl HUl HNE HC3 HB3
      go_wp2_with fail
      refine (HQ.out _).mono ?_
      rintro e4 w4 ⟨rfl, rfl⟩
      go_wp2
      go_roundw
      case rel => exact ⟨out ++ [x], _, rfl, by rw [HSX.out], HL1.out, HUn.out, HNn.out, HBn.out, HCn.out⟩
      case measure => first | (simp [intOf]; done) | (simp [intOf]; omega)
    · have HQ := Lib.hid (fun W => quarters_any x W)
      have hnl0 : L < P + qU x := by omega
      generalize hqq : qU x = q at *
      clear hqq HSU hfit HNE HC3
      have hUl := HUl.out
      go_wp2_with fail
      refine (HQ.out _).mono ?_
      rintro e4 w4 ⟨rfl, rfl⟩
      clear HQ
      obtain ⟨r, hr⟩ : ∃ r, L - P = r := ⟨_, rfl⟩
      have hr0 : 0 ≤ r ∧ r ≤ 3 := by omega
      have hPr : P = L - r := by omega
      have HRr := Lib.hid (show sumU out = L - r by rw [HP.out]; exact hPr)
      have i1 : L - (L - r) = r := by omega
      clear HP hr
      subst hPr
      by_cases r0 : r = 0
      · subst r0
        have HCo := Lib.hid (HLd.out.done (by rw [HRr.out]; omega) l1 l2)
        have HUo : Hid (OwnU w3 w1.heap.size (.slice aL out.length cL) out) := HUl
        have HBo := HB3
        clear HUl HB3 hUl HLd HRr
        have hpos := OwnU.pos HCo.out
        have hcv := HUo.out.text hpos.1
        have HD := Lib.hid (lain_mk HCo.out HBo.out)
        have hd60 : ¬ (60 : Int) < ((out : List UInt8).length : Int) := by omega
        have hd61 : (out : List UInt8).length ≤ 60 := hpos.2
        generalize hTT : (⟨(out : List UInt8).toArray⟩ : ByteArray) = T at *
        clear HUo HCo HBo hTT hpos
        generalize hnn : (out : List UInt8).length = nL at *
        clear hnn
        go_wp2
        go_ret2
        exact HD.out
      by_cases r1 : r = 1
      · subst r1
        have HCo := Lib.hid (HLd.out.done1 (c := 67) (by rw [HRr.out]; have := qU_lit; omega) (by decide) l1 l2)
        clear HLd HRr
        go_wp2_with (at_builtin; refine wpList_append_new _ rfl _ _ 22 rfl _ 5 j0 (.int .u8 0) 1 1 Try.underlying22 hj hj0 hj1 hj2 rfl (by decide) _ _ _ rfl (World.ownsRow.alloc hUl _) ⟨w3.heap.size, 0, none⟩ 1 1 [.int .u8 67] rfl rfl (cell_one_new _ _ _) (by simp [Value.oneCell']) (by unfold maxLen; omega) (by omega) (by first | omega | (simp; done) | (simp; omega)) (by decide) ?_; intro v' w1' hown1 hgrow1 hnew1)
        have HUo := Lib.hid (OwnU.snoc (c := 67) hown1 rfl)
        have HBo := Lib.hid (below_row (HB3.out.alloc HB3.out.size _) hz1 (World.ownsRow.alloc hUl _) hgrow1)
        clear hown1 hgrow1 hnew1 hUl HUl HB3
        obtain ⟨aL, cL, rfl⟩ := HUo.out.shape
        have hpos := OwnU.pos HCo.out
        have hcv := HUo.out.text hpos.1
        have HD := Lib.hid (lain_mk HCo.out HBo.out)
        have hd60 : ¬ (60 : Int) < ((out ++ [67] : List UInt8).length : Int) := by omega
        have hd61 : (out ++ [67] : List UInt8).length ≤ 60 := hpos.2
        generalize hTT : (⟨(out ++ [67] : List UInt8).toArray⟩ : ByteArray) = T at *
        clear HUo HCo HBo hTT hpos
        generalize hnn : (out ++ [67] : List UInt8).length = nL at *
        clear hnn
        go_wp2
        go_ret2
        exact HD.out
      by_cases r2 : r = 2
      · subst r2
        have HCo := Lib.hid (HLd.out.done1 (c := 66) (by rw [HRr.out]; have := qU_lit; omega) (by decide) l1 l2)
        clear HLd HRr
        go_wp2_with (at_builtin; refine wpList_append_new _ rfl _ _ 22 rfl _ 5 j0 (.int .u8 0) 1 1 Try.underlying22 hj hj0 hj1 hj2 rfl (by decide) _ _ _ rfl (World.ownsRow.alloc hUl _) ⟨w3.heap.size, 0, none⟩ 1 1 [.int .u8 66] rfl rfl (cell_one_new _ _ _) (by simp [Value.oneCell']) (by unfold maxLen; omega) (by omega) (by first | omega | (simp; done) | (simp; omega)) (by decide) ?_; intro v' w1' hown1 hgrow1 hnew1)
        have HUo := Lib.hid (OwnU.snoc (c := 66) hown1 rfl)
        have HBo := Lib.hid (below_row (HB3.out.alloc HB3.out.size _) hz1 (World.ownsRow.alloc hUl _) hgrow1)
        clear hown1 hgrow1 hnew1 hUl HUl HB3
        obtain ⟨aL, cL, rfl⟩ := HUo.out.shape
        have hpos := OwnU.pos HCo.out
        have hcv := HUo.out.text hpos.1
        have HD := Lib.hid (lain_mk HCo.out HBo.out)
        have hd60 : ¬ (60 : Int) < ((out ++ [66] : List UInt8).length : Int) := by omega
        have hd61 : (out ++ [66] : List UInt8).length ≤ 60 := hpos.2
        generalize hTT : (⟨(out ++ [66] : List UInt8).toArray⟩ : ByteArray) = T at *
        clear HUo HCo HBo hTT hpos
        generalize hnn : (out ++ [66] : List UInt8).length = nL at *
        clear hnn
        go_wp2
        go_ret2
        exact HD.out
      · obtain rfl : r = 3 := by omega
        have HCo := Lib.hid (HLd.out.done1 (c := 84) (by rw [HRr.out]; have := qU_lit; omega) (by decide) l1 l2)
        clear HLd HRr
        go_wp2_with (at_builtin; refine wpList_append_new _ rfl _ _ 22 rfl _ 5 j0 (.int .u8 0) 1 1 Try.underlying22 hj hj0 hj1 hj2 rfl (by decide) _ _ _ rfl (World.ownsRow.alloc hUl _) ⟨w3.heap.size, 0, none⟩ 1 1 [.int .u8 84] rfl rfl (cell_one_new _ _ _) (by simp [Value.oneCell']) (by unfold maxLen; omega) (by omega) (by first | omega | (simp; done) | (simp; omega)) (by decide) ?_; intro v' w1' hown1 hgrow1 hnew1)
        have HUo := Lib.hid (OwnU.snoc (c := 84) hown1 rfl)
        have HBo := Lib.hid (below_row (HB3.out.alloc HB3.out.size _) hz1 (World.ownsRow.alloc hUl _) hgrow1)
        clear hown1 hgrow1 hnew1 hUl HUl HB3
        obtain ⟨aL, cL, rfl⟩ := HUo.out.shape
        have hpos := OwnU.pos HCo.out
        have hcv := HUo.out.text hpos.1
        have HD := Lib.hid (lain_mk HCo.out HBo.out)
        have hd60 : ¬ (60 : Int) < ((out ++ [84] : List UInt8).length : Int) := by omega
        have hd61 : (out ++ [84] : List UInt8).length ≤ 60 := hpos.2
        generalize hTT : (⟨(out ++ [84] : List UInt8).toArray⟩ : ByteArray) = T at *
        clear HUo HCo HBo hTT hpos
        generalize hnn : (out ++ [84] : List UInt8).length = nL at *
        clear hnn
        go_wp2
        go_ret2
        exact HD.out
/-- A wall that has been laid. -/
def LainW (w : World) (L : Int) (nC : Nat) (e : Ending) (w' : World) : Prop := ∃ (a : Option Addr) (c : Nat) (ss : List ByteArray), e = .returned (.tuple #[.slice a nC c, .int .i64 0]) ∧ ss.length = nC ∧ WallOk L ss ∧ IsStrs w' a nC c ss ∧ Below w.heap.size w w'
theorem wallOk_snoc {L : Int} {ss : List ByteArray} {s : ByteArray} (h : WallOk L ss) (hs : Cour L s) : WallOk L (ss ++ [s]) := by
  intro k hk
  rw [List.length_append] at hk
  simp at hk
  by_cases hlt : k < ss.length
  · have := h k hlt
    rw [List.getD_eq_getElem?_getD, List.getElem?_append_left hlt, ← List.getD_eq_getElem?_getD]; exact this
  · obtain rfl : k = ss.length := by omega
    rw [List.getD_eq_getElem?_getD, List.getElem?_append_right (Nat.le_refl _)]
    simpa using hs
theorem wallOk_size {L : Int} {ss : List ByteArray} (h : WallOk L ss) : ∀ s ∈ ss, s.size ≤ maxLen := fun s hs => by
  obtain ⟨i, hi, rfl⟩ := List.getElem_of_mem hs
  have := (h i hi).s1
  rw [List.getD_eq_getElem?_getD, List.getElem?_eq_getElem hi] at this
  unfold maxLen
  exact Nat.le_trans this (by omega)
set_option maxRecDepth 100000 in
set_option maxHeartbeats 4000000 in
theorem layWall_any (nm : ByteArray) (a : Option Addr) (n cap nC : Nat) (L : Int) (ps : List (ByteArray × ByteArray)) (w : World) (h : Bond w nm a n cap ps) (l1 : 1 ≤ L) (l2 : L ≤ 40) (c1 : 1 ≤ nC) (c2 : nC ≤ 40) :
    Calls Try.prog 29 #[.agg #[.string nm, .slice a n cap], .int .i64 L, .int .i64 (nC : Int)] w (LainW w L nC) := by
  obtain ⟨i0, hi, hi0, hi1, hi2⟩ := info_parts info_str
  obtain ⟨W0, hW0⟩ : ∃ W0, w.alloc (.cells #[.string nm, .slice a n cap] 45) = W0 := ⟨_, rfl⟩
  have hb0 : Below w.heap.size w W0 := by rw [← hW0]; exact (Below.refl _ _).alloc (Nat.le_refl _) _
  have hz0 : W0.heap.size = w.heap.size + 1 := by rw [← hW0]; simp
  have HBK : Hid (W0.heap[w.heap.size]? = some (.cells #[.string nm, .slice a n cap] 45 (0, 0))) := Lib.hid (by rw [← hW0]; exact blk_new _ _)
  have HV := Lib.hid (validBond_yes nm a n cap ps W0 (h.below hb0))
  have HI1 := Lib.hid (fun W => within_any L 1 200 W)
  rw [inB_mk ⟨l1, by omega⟩] at HI1
  have HI2 := Lib.hid (fun W => within_any (nC : Int) 1 40 W)
  rw [inB_mk ⟨by omega, by omega⟩] at HI2
  have HLC := Lib.hid (fun k (hk : k ≤ 1000) W (hB : Below W0.heap.size W0 W) => layCourse_any nm a n cap k L ps W ((h.below hb0).below hB) hk l1 l2)
  have HB0 := Lib.hid hb0
  have HW0 := Lib.hid hW0
  clear h hb0 hW0
  go_enter Try.func29, Try.ntmps29
  go_wp2_with fail
  rw [HW0.out]
  refine HV.out.mono ?_
  rintro e1 w1 ⟨rfl, hb1⟩
  have HB1 := Lib.hid hb1
  clear hb1
  go_wp2_with fail
  refine (HI1.out _).mono ?_
  rintro e1 w2 ⟨rfl, rfl⟩
  go_wp2_with fail
  refine (HI2.out _).mono ?_
  rintro e1 w2 ⟨rfl, rfl⟩
  have hz1 := HB1.out.size
  go_wp2_with fail
  go_loopw [8, 9, 10, 11, 27] (fun os _ _ _ i wr => ∃ (k : Nat) (vo : Value) (ss : List ByteArray), k ≤ nC ∧ vo = os ∧ i = .int .i64 (k : Int) ∧ ss.length = k ∧ WallOk L ss ∧ OwnS wr W0.heap.size vo ss ∧ Below W0.heap.size W0 wr) (fun _ _ _ _ i _ => (nC - intOf i).toNat)
  case atStart => exact ⟨0, _, [], by omega, rfl, rfl, rfl, fun k hk => by simp at hk, ownS_empty _ _ hz1, HB1.out.alloc hz1 _⟩
  case round =>
    obtain ⟨k, vo, ss, hk, rfl, rfl, hl, hw, hO, hB⟩ := hrel
    have hz := hB.size
    by_cases hlt : k < nC
    · have hlt' : (k : Int) < (nC : Int) := by omega
      have HK := Lib.hid (HLC.out k (by omega) wr hB)
      have HBk := blk_call HBK.out hB
      have f0 := cellOf HBk 0
      have f1 := cellOf HBk 1
      simp at f0 f1
      have HL := Lib.hid hl
      have HW := Lib.hid hw
      have HO := Lib.hid hO
      clear hl hw hO HBk
      go_wp2_with fail
      clear f0 f1
      refine HK.out.mono ?_
      rintro e3 w3 ⟨s, rfl, hs, hb3⟩
      have HB3 := Lib.hid (below_call hB hb3)
      have hz3 := HB3.out.size
      have hOl := own_below HO.out hb3
      have HS := Lib.hid hs
      rw [HL.out] at hOl
      clear hb3 hB HK hs HO
      go_wp2_with (at_builtin; refine wpList_append_new _ rfl _ _ 48 rfl _ 9 i0 (.string ByteArray.empty) 1 16 Try.underlying48 hi hi0 hi1 hi2 rfl (by decide) _ _ _ rfl (World.ownsRow.alloc hOl _) ⟨w3.heap.size, 0, none⟩ 1 1 [.string s] rfl rfl (cell_one_new _ _ _) (by simp [Value.oneCell']) (by unfold maxLen; omega) (by omega) (by first | omega | (simp; done) | (simp; omega)) (by decide) ?_; intro v' w1' hown1 hgrow1 hnew1)
      have HOn := Lib.hid (OwnS.snoc hown1 (by rw [HL.out]))
      have HBn := Lib.hid (below_row (HB3.out.alloc HB3.out.size _) (Nat.le_refl _) (World.ownsRow.alloc hOl _) hgrow1)
      have HWn := Lib.hid (wallOk_snoc HW.out HS.out)
      clear hown1 hgrow1 hnew1 hOl
      go_wp2
      go_roundw
      case rel => exact ⟨k + 1, _, ss ++ [s], by omega, rfl, by go_num, by simp [HL.out], HWn.out, HOn.out, HBn.out⟩
      case measure => first | (simp [intOf]; done) | (simp [intOf]; omega)
    · obtain rfl : k = nC := by omega
      obtain ⟨x, c, rfl⟩ := hO.shape
      have hR := hO.row (wallOk_size hw)
      rw [hl] at hR ⊢
      have HR := Lib.hid hR
      have HL := Lib.hid hl
      have HW := Lib.hid hw
      have HBw := Lib.hid (below_call HB0.out hB)
      clear hO hR hl hw hB
      go_wp2
      go_ret2
      exact ⟨x, c, ss, rfl, HL.out, HW.out, HR.out, HBw.out⟩
end Go.Proofs.Ytklhaanapembdaa
/- Contracts of the reference's reading of a bond's text (l01Split, l04Word, l04Check, ReadBond, l04Library); condition: the text is one of a valid bond, at most 100 bytes long. -/
namespace Go.Proofs.Ytklhaanapembdaa
set_option linter.unusedVariables false
open Go.RowKit

set_option maxRecDepth 100000 in
set_option maxHeartbeats 4000000 in
theorem l01Split_any (s : ByteArray) (c : UInt8) (w : World) (hs : s.size ≤ 1000) :
    Calls Try.prog 140 #[.string s, .int .u8 (c.toNat : Int)] w (NewS w (spl s c)) := by
  obtain ⟨i0, hi, hi0, hi1, hi2⟩ := info_parts info_str
  have HSP := Lib.hid (show spl s c = (splS s c s.size).1 ++ [s.extract (splS s c s.size).2 s.size] from rfl)
  go_enter Try.func140, Try.ntmps140
  go_wp2_with fail
  go_loopw [5, 6, 7] (fun os fr i wr => ∃ (k : Nat) (vo : Value), k ≤ s.size ∧ vo = os ∧ i = .int .i64 (k : Int) ∧ fr = .int .i64 ((splS s c k).2 : Int) ∧ OwnS wr w.heap.size vo (splS s c k).1 ∧ Below w.heap.size w wr) (fun _ _ i _ => (s.size - intOf i).toNat)
  case atStart => exact ⟨0, _, by omega, rfl, rfl, rfl, ownS_empty _ _ (Nat.le_refl _), (by repeat (first | exact Below.refl _ _ | assumption | refine Below.drew ?_ | refine below_drewN ?_ _ | refine Below.alloc ?_ (by first | omega | (simp; done) | (simp; omega)) _ | refine Below.setCell ?_ (by first | omega | (simp; done) | (simp; omega)) _))⟩
  case round =>
    obtain ⟨k, vo, hk, rfl, rfl, rfl, hO, hB⟩ := hrel
    obtain ⟨b1, b2⟩ := splS_bd s c k
    have hz := hB.size
    by_cases hlt : k < s.size
    · have hlt' : (k : Int) < (s.size : Int) := by omega
      have HE := Lib.hid (bU_at s k hlt)
      have HY := Lib.hid (splS_yes s c k)
      have HN := Lib.hid (splS_no s c k)
      obtain ⟨f, hf⟩ : ∃ f, (splS s c k).2 = f := ⟨_, rfl⟩
      obtain ⟨P, hP⟩ : ∃ P, (splS s c k).1 = P := ⟨_, rfl⟩
      rw [hf] at b1
      rw [hP] at hO b2
      rw [hf] at HY ⊢
      rw [hP] at HY
      have HF := Lib.hid (And.intro hP hf)
      clear hf hP
      have hOl := hO
      unfold OwnS at hOl
      have HB := Lib.hid hB
      have HO := Lib.hid hO
      clear hO hB
      have hfk : (f : Int) ≤ (k : Int) := by omega
      have hks : (k : Int) ≤ (s.size : Int) := by omega
      by_cases hc : bU s k = c
      · have t1 : ((s[k].toNat : Int) == (c.toNat : Int)) = true := by rw [← HE.out, hc]; simp
        have HY1 := Lib.hid (HY.out hc)
        obtain ⟨n, hn⟩ : ∃ n, P.length = n := ⟨_, rfl⟩
        rw [hn] at hOl b2
        have HNN := Lib.hid hn
        clear hc hn
        go_wp2_with (at_builtin; refine wpList_append_new _ rfl _ _ 48 rfl _ 9 i0 (.string ByteArray.empty) 1 16 Try.underlying48 hi hi0 hi1 hi2 rfl (by decide) _ _ _ rfl (World.ownsRow.alloc hOl _) ⟨wr.heap.size, 0, none⟩ 1 1 [.string (s.extract f k)] rfl rfl (cell_one_new _ _ _) (by simp [Value.oneCell']) (by unfold maxLen; omega) (by omega) (by first | omega | (simp; done) | (simp; omega)) (by decide) ?_; intro v' w1' hown1 hgrow1 hnew1)
        have HOn := Lib.hid (OwnS.snoc hown1 (by rw [HNN.out]))
        have HBn := Lib.hid (below_row (HB.out.alloc hz _) (Nat.le_refl _) (World.ownsRow.alloc hOl _) hgrow1)
        clear hown1 hgrow1 hnew1 hOl
        go_wp2
        go_roundw
        case rel => exact ⟨k + 1, _, by omega, rfl, by go_num, by rw [HY1.out]; go_num, by rw [HY1.out]; exact HOn.out, HBn.out⟩
        case measure => first | (simp [intOf]; done) | (simp [intOf]; omega)
      · have t1 : ((s[k].toNat : Int) == (c.toNat : Int)) = false := by
          have : ¬ s[k] = c := by rw [← HE.out]; exact hc
          have h2 : ¬ (s[k].toNat : Int) = (c.toNat : Int) := fun e => this (UInt8.toNat_inj.1 (by omega))
          simpa using h2
        have HN1 := Lib.hid (HN.out hc)
        clear hc hOl
        go_wp2
        go_roundw
        case rel => exact ⟨k + 1, _, by omega, rfl, by go_num, by rw [HN1.out, HF.out.2], by rw [HN1.out, HF.out.1]; exact HO.out, HB.out⟩
        case measure => first | (simp [intOf]; done) | (simp [intOf]; omega)
    · obtain rfl : k = s.size := by omega
      obtain ⟨f, hf⟩ : ∃ f, (splS s c s.size).2 = f := ⟨_, rfl⟩
      obtain ⟨P, hP⟩ : ∃ P, (splS s c s.size).1 = P := ⟨_, rfl⟩
      rw [hf] at b1
      rw [hP] at hO b2
      rw [hf] at HSP ⊢
      rw [hP] at HSP
      clear hf hP
      have hOl := hO
      unfold OwnS at hOl
      have HB := Lib.hid hB
      clear hO hB
      obtain ⟨n, hn⟩ : ∃ n, P.length = n := ⟨_, rfl⟩
      rw [hn] at hOl b2
      have HNN := Lib.hid hn
      have hfk : (f : Int) ≤ (s.size : Int) := by omega
      clear hn
      go_wp2_with (at_builtin; refine wpList_append_new _ rfl _ _ 48 rfl _ 9 i0 (.string ByteArray.empty) 1 16 Try.underlying48 hi hi0 hi1 hi2 rfl (by decide) _ _ _ rfl (World.ownsRow.alloc hOl _) ⟨wr.heap.size, 0, none⟩ 1 1 [.string (s.extract f s.size)] rfl rfl (cell_one_new _ _ _) (by simp [Value.oneCell']) (by unfold maxLen; omega) (by omega) (by first | omega | (simp; done) | (simp; omega)) (by decide) ?_; intro v' w1' hown1 hgrow1 hnew1)
      have HOn : Hid (OwnS w1' w.heap.size v' (spl s c)) := Lib.hid (by rw [HSP.out]; exact OwnS.snoc hown1 (by rw [HNN.out]))
      have HBn := Lib.hid (below_row (HB.out.alloc hz _) (Nat.le_refl _) (World.ownsRow.alloc hOl _) hgrow1)
      clear hown1 hgrow1 hnew1 hOl
      go_wp2
      go_ret
      exact newS_mk HOn.out HBn.out
theorem IsStrs.same {w : World} {b o len cap : Nat} {ss : List ByteArray} (h : IsStrs w (some ⟨b, o, none⟩) len cap ss) {i : Nat} (hi : i < len) : w.cell? ⟨b, o + i, none⟩ = some (.string (ss.getD i ByteArray.empty)) := by
  obtain ⟨b', o', e, _, hc⟩ := h.cell hi
  injection e with e
  injection e with e1 e2
  subst e1 e2
  exact hc
/-- What a word gives. -/
def WordR (w : World) (word : ByteArray) (e : Ending) (w' : World) : Prop := e = .returned (.tuple #[.agg #[.string (wrdC word).1, .string (wrdC word).2], .int .i64 0]) ∧ Below w.heap.size w w'
theorem wrd_parts {word : ByteArray} (h : wrdB word = true) : word.size ≤ 100 ∧ CrsOk (wrdC word).1 (wrdC word).2 ∧ ((∃ x, spl word 43 = [x] ∧ wrdC word = (ByteArray.empty, x)) ∨ ∃ x y, spl word 43 = [x, y] ∧ wrdC word = (x, y) ∧ 1 ≤ x.size) := by
  simp only [wrdB, Bool.and_eq_true, Bool.or_eq_true, decide_eq_true_eq] at h
  obtain ⟨h1, h2, h3, h4⟩ := h
  refine ⟨h1, crsB_t h4, ?_⟩
  unfold wrdC
  have hl := (spl_len word 43).1
  generalize spl word 43 = l at *
  match l, hl, h2, h3 with
  | [x], _, _, _ => exact .inl ⟨x, rfl, rfl⟩
  | [x, y], _, _, h3 =>
    refine .inr ⟨x, y, rfl, rfl, ?_⟩
    rcases h3 with h3 | h3
    · simp at h3
    · exact h3
  | _ :: _ :: _ :: _, _, h2, _ => simp at h2
theorem utf_lit : ((43 : UInt8).toNat : Int) = 43 ∧ ((32 : UInt8).toNat : Int) = 32 := ⟨rfl, rfl⟩
set_option maxRecDepth 100000 in
set_option maxHeartbeats 4000000 in
theorem l04Word_any (word : ByteArray) (w : World) (h : wrdB word = true) :
    Calls Try.prog 142 #[.string word] w (WordR w word) := by
  obtain ⟨hs, hok, hcase⟩ := wrd_parts h
  obtain ⟨W0, hW0⟩ : ∃ W0, w.alloc (.cells #[.string ⟨#[]⟩, .string ⟨#[]⟩] 137) = W0 := ⟨_, rfl⟩
  have HSP := Lib.hid (l01Split_any word 43 W0 (by omega))
  rw [utf_lit.1] at HSP
  have HB0 : Hid (Below w.heap.size w W0) := Lib.hid (by rw [← hW0]; exact (by repeat (first | exact Below.refl _ _ | assumption | refine Below.drew ?_ | refine below_drewN ?_ _ | refine Below.alloc ?_ (by first | omega | (simp; done) | (simp; omega)) _ | refine Below.setCell ?_ (by first | omega | (simp; done) | (simp; omega)) _)))
  have H0 : Hid (W0.heap[w.heap.size]? = some (.cells #[.string ⟨#[]⟩, .string ⟨#[]⟩] 137 (0, 0))) := Lib.hid (by rw [← hW0]; exact blk_new _ _)
  have HW0 := Lib.hid hW0
  have HPC := Lib.hid (fun W => l04Pieces_yes (wrdC word).1 W (by have := hok.l6; omega) hok.lp)
  have HPL := Lib.hid (fun W => l04Plain_yes (wrdC word).2 W (by have := hok.c8; omega) hok.cp)
  have h6 := hok.l6
  have h8 := hok.c8
  have h1 := hok.c1
  obtain ⟨z1, z2, z3⟩ := ne_empty h1
  clear h hok hW0
  unfold WordR
  rcases hcase with ⟨x, hx, hC⟩ | ⟨x, y, hx, hC, hx1⟩
  · have e1 : (wrdC word).1 = ⟨#[]⟩ := by rw [hC]; rfl
    have e2 : (wrdC word).2 = x := by rw [hC]
    rw [e1] at HPC
    rw [e2] at h8 h1 z1 z2 z3 HPL
    rw [hx] at HSP
    rw [e1, e2]
    clear h6 hx hC e1 e2
    go_enter Try.func142, Try.ntmps142
    go_wp2_with fail
    rw [HW0.out]
    refine HSP.out.mono ?_
    rintro e3 w1 ⟨a, c, rfl, hO, hb⟩
    rw [show [x].length = 1 from rfl] at hO ⊢
    have hR := hO.row (fun s hs => by rw [List.mem_singleton.1 hs]; unfold maxLen; omega)
    obtain ⟨r, o, rfl, hr, hc⟩ := hR.cell (i := 0) (by omega)
    simp only [Nat.add_zero] at hc
    rw [show [x].getD 0 ByteArray.empty = x from rfl] at hc
    have B1 := blk_call H0.out hb
    have f0 := cellOf B1 0
    have f1 := cellOf B1 1
    have g0 := frozenOf B1 0
    have g1 := frozenOf B1 1
    simp at f0 f1
    have hlt := blk_lt B1
    have HB1 := Lib.hid (below_call HB0.out hb)
    clear hO hb hR B1 HSP H0 HW0 HB0
    go_wp2_with fail
    refine (HPC.out _).mono ?_
    rintro e2 w2 ⟨rfl, rfl⟩
    go_wp2_with fail
    refine (HPL.out _).mono ?_
    rintro e2 w2 ⟨rfl, rfl⟩
    go_wp2
    refine bodyPost_ret (v := .tuple #[.agg #[.string ⟨#[]⟩, .string x], .int .i64 0]) (by simp [results, Try.results142, go_sem, *]) rfl ⟨rfl, ?_⟩
    have hB1 := HB1.out
    have hzz := hB1.size
    exact (by repeat (first | exact Below.refl _ _ | assumption | refine Below.drew ?_ | refine below_drewN ?_ _ | refine Below.alloc ?_ (by first | omega | (simp; done) | (simp; omega)) _ | refine Below.setCell ?_ (by first | omega | (simp; done) | (simp; omega)) _))
  · have e1 : (wrdC word).1 = x := by rw [hC]
    have e2 : (wrdC word).2 = y := by rw [hC]
    rw [e1] at HPC h6
    rw [e2] at h8 h1 z1 z2 z3 HPL
    rw [hx] at HSP
    rw [e1, e2]
    obtain ⟨y1, y2, y3⟩ := ne_empty hx1
    clear hx hC e1 e2
    go_enter Try.func142, Try.ntmps142
    go_wp2_with fail
    rw [HW0.out]
    refine HSP.out.mono ?_
    rintro e3 w1 ⟨a, c, rfl, hO, hb⟩
    rw [show [x, y].length = 2 from rfl] at hO ⊢
    have hR := hO.row (fun s hs => by
      have : s = x ∨ s = y := by simpa using hs
      unfold maxLen
      rcases this with rfl | rfl <;> omega)
    obtain ⟨r, o, rfl, hr, hc⟩ := hR.cell (i := 0) (by omega)
    have hc1 := hR.same (i := 1) (by omega)
    simp only [Nat.add_zero] at hc
    rw [show [x, y].getD 0 ByteArray.empty = x from rfl] at hc
    rw [show [x, y].getD 1 ByteArray.empty = y from rfl] at hc1
    have B1 := blk_call H0.out hb
    have f0 := cellOf B1 0
    have f1 := cellOf B1 1
    have g0 := frozenOf B1 0
    have g1 := frozenOf B1 1
    simp at f0 f1
    have hlt := blk_lt B1
    have HB1 := Lib.hid (below_call HB0.out hb)
    have hrn : r ≠ w1.heap.size := by omega
    clear hO hb hR B1 HSP H0 HW0 HB0
    go_wp2_with fail
    refine (HPC.out _).mono ?_
    rintro e2 w2 ⟨rfl, rfl⟩
    go_wp2_with fail
    refine (HPL.out _).mono ?_
    rintro e2 w2 ⟨rfl, rfl⟩
    go_wp2
    refine bodyPost_ret (v := .tuple #[.agg #[.string x, .string y], .int .i64 0]) (by simp [results, Try.results142, go_sem, *]) rfl ⟨rfl, ?_⟩
    have hB1 := HB1.out
    have hzz := hB1.size
    exact (by repeat (first | exact Below.refl _ _ | assumption | refine Below.drew ?_ | refine below_drewN ?_ _ | refine Below.alloc ?_ (by first | omega | (simp; done) | (simp; omega)) _ | refine Below.setCell ?_ (by first | omega | (simp; done) | (simp; omega)) _))
end Go.Proofs.Ytklhaanapembdaa
