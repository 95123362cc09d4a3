/- Contracts of ValidPieces and of what it calls, program and reference, and of the laws' own comparison of slices of pieces: what each call returns; no old memory turns; condition: the slices can be read. -/
import Derived.Test.YtgnalhnbdpigdaaDoorPieces
import Derived.Test.YtgnalhnbdpigdaaDoorPieceB
namespace Go.Proofs.YtgnalhnbdpigdaaDoor
open Go.ChangeShapes Go.WideShapes Go.ChangeAt Go.RowKit

def pB (p : Int × Int × Int) : Bool := pieceB p.1 p.2.1 p.2.2
/-- All pieces are valid. -/
def allP (ps : List (Int × Int × Int)) : Bool := ps.all pB
theorem allP_t {ps : List (Int × Int × Int)} (h : allP ps = true) (k : Nat) (hk : k < ps.length) : pB (ps.getD k (0, 0, 0)) = true :=
  List.all_eq_true.1 h _ (by simp [List.getD_eq_getElem?_getD, hk])
theorem allP_mk {ps : List (Int × Int × Int)} (h : ∀ k, k < ps.length → pB (ps.getD k (0, 0, 0)) = true) : allP ps = true := by
  refine List.all_eq_true.2 fun x hx => ?_
  obtain ⟨i, hi', rfl⟩ := List.getElem_of_mem hx
  have := h i hi'
  simpa [List.getD_eq_getElem?_getD, hi'] using this
theorem allP_no {ps : List (Int × Int × Int)} {k : Nat} (hk : k < ps.length) (h : pB (ps.getD k (0, 0, 0)) = false) : allP ps = false := by
  cases e : allP ps
  · rfl
  · rw [allP_t e k hk] at h; cases h
def vpB (ps : List (Int × Int × Int)) : Bool := decide (ps.length ≤ 20) && allP ps
set_option maxHeartbeats 400000 in
theorem validPieceC_any (x y z : Int) (w : World) :
    Calls Tryd.prog 61 #[.agg #[.int .i64 x, .int .i64 y, .int .i64 z]] w fun e w' => e = .returned (.bool (!pB (x, y, z))) ∧ Below w.heap.size w w' := by
  have HR := Lib.hid (show pB (x, y, z) = pieceB x y z from rfl)
  go_enter Tryd.func61, Tryd.ntmps61
  go_wp2_with fail
  refine (validPiece_any _ _ _ _).mono ?_
  rintro e1 w1 ⟨rfl, hb1⟩
  obtain ⟨hc1, hf1⟩ := bcell hb1
  have hz1 := hb1.size
  try simp at hz1
  have ha1 : Below w.heap.size w w1 := below_call (by repeat (first | exact Below.refl _ _ | assumption | refine Below.drew ?_ | refine below_drewN ?_ _ | refine Below.alloc ?_ (by first | omega | (simp; done) | (simp; omega)) _ | refine Below.setCell ?_ (by first | omega | (simp; done) | (simp; omega)) _)) hb1
  rw [← HR.out]
  go_wp2
  go_ret
  exact ⟨rfl, (by repeat (first | exact Below.refl _ _ | assumption | refine Below.drew ?_ | refine below_drewN ?_ _ | refine Below.alloc ?_ (by first | omega | (simp; done) | (simp; omega)) _ | refine Below.setCell ?_ (by first | omega | (simp; done) | (simp; omega)) _))⟩
set_option maxHeartbeats 1000000 in
theorem indexP_any (a : Option Addr) (len cap : Nat) (ps : List (Int × Int × Int)) (w : World) (h : IsPieces w a len cap ps) :
    Calls Tryd.prog 70 #[.slice a len cap, .func (Fn.func 61) #[] #[]] w
      fun e w' => (∃ r : Int, e = .returned (.int .i64 r) ∧ -1 ≤ r ∧ r ≤ 9223372036854775807 ∧ (decide (0 ≤ r)) = !allP ps) ∧ Below w.heap.size w w' := by
  have hl := h.1
  have hm : len ≤ maxLen := Nat.le_trans h.2.1 h.2.2.1
  unfold maxLen at hm
  have H := Lib.hid h
  have HL := Lib.hid hl
  clear h hl
  go_enter Tryd.func70, Tryd.ntmps70
  go_wp2
  go_loopw [5, 8] (fun _ i wr => ∃ k : Nat, k ≤ len ∧ i = .int .i64 (k : Int) ∧ (∀ m, m < k → pB (ps.getD m (0, 0, 0)) = true) ∧ Below w.heap.size w wr) (fun _ i _ => (len - intOf i).toNat)
  case atStart => exact ⟨0, by omega, rfl, fun m hm => by omega, Below.refl _ _⟩
  case round =>
    obtain ⟨k, hk, rfl, hI, hB⟩ := hrel
    have HI := Lib.hid hI
    clear hI
    by_cases hlt : k < len
    · obtain ⟨b', o', rfl, hb', h0, h1, h2⟩ := (H.out.below hB).cell hlt
      have hlt' : (k : Int) < (len : Int) := by omega
      cases hx : pB (ps.getD k (0, 0, 0))
      · have HR := Lib.hid (allP_no (by rw [HL.out]; exact hlt) hx)
        have HX := Lib.hid hx
        clear hx
        generalize ps.getD k (0, 0, 0) = p at *
        obtain ⟨p0, p1, p2⟩ := p
        simp only at h0 h1 h2
        go_wp2_with fail
        refine (validPieceC_any _ _ _ _).mono ?_
        rintro e1 w1 ⟨rfl, hb1⟩
        have hB1 := below_call hB hb1
        rw [HX.out]
        go_wp2
        go_ret
        exact ⟨⟨k, rfl, by omega, by omega, by rw [HR.out]; simp⟩, hB1⟩
      · have HX := Lib.hid hx
        have HN : Hid (∀ m, m < k + 1 → pB (ps.getD m (0, 0, 0)) = true) := Lib.hid fun m hm => by
          rcases Nat.lt_succ_iff_lt_or_eq.1 hm with h | rfl
          · exact HI.out m h
          · exact HX.out
        clear hx
        generalize ps.getD k (0, 0, 0) = p at *
        obtain ⟨p0, p1, p2⟩ := p
        simp only at h0 h1 h2
        go_wp2_with fail
        refine (validPieceC_any _ _ _ _).mono ?_
        rintro e1 w1 ⟨rfl, hb1⟩
        have hB1 := below_call hB hb1
        rw [HX.out]
        go_wp2
        go_roundw
        case rel => exact ⟨k + 1, by omega, by go_num, HN.out, hB1⟩
        case measure => simp [intOf]; omega
    · obtain rfl : k = len := by omega
      have HR := Lib.hid (allP_mk (ps := ps) (fun m hm => HI.out m (by rw [HL.out] at hm; exact hm)))
      go_wp2
      go_ret
      exact ⟨⟨-1, rfl, by omega, by omega, by rw [HR.out]; rfl⟩, hB⟩
set_option maxHeartbeats 400000 in
theorem containsP_any (a : Option Addr) (len cap : Nat) (ps : List (Int × Int × Int)) (w : World) (h : IsPieces w a len cap ps) :
    Calls Tryd.prog 60 #[.slice a len cap, .func (Fn.func 61) #[] #[]] w
      fun e w' => e = .returned (.bool (!allP ps)) ∧ Below w.heap.size w w' := by
  go_enter Tryd.func60, Tryd.ntmps60
  go_wp2_with fail
  refine (indexP_any _ _ _ _ _ h).mono ?_
  rintro e1 w1 ⟨⟨r, rfl, r1, r2, hr⟩, hb1⟩
  go_wp2
  go_ret
  exact ⟨ret_bool (by rw [← hr]), (by repeat (first | exact Below.refl _ _ | assumption | refine Below.drew ?_ | refine below_drewN ?_ _ | refine Below.alloc ?_ (by first | omega | (simp; done) | (simp; omega)) _ | refine Below.setCell ?_ (by first | omega | (simp; done) | (simp; omega)) _))⟩
set_option maxHeartbeats 400000 in
theorem validPieces_any (a : Option Addr) (len cap : Nat) (ps : List (Int × Int × Int)) (w : World) (h : IsPieces w a len cap ps) :
    Calls Tryd.prog 30 #[.slice a len cap] w fun e w' => e = .returned (.bool (vpB ps)) ∧ Below w.heap.size w w' := by
  have hl := h.1
  have hm : len ≤ maxLen := Nat.le_trans h.2.1 h.2.2.1
  unfold maxLen at hm
  have HR := Lib.hid (show vpB ps = (decide (len ≤ 20) && allP ps) by unfold vpB; rw [hl])
  have H := Lib.hid h
  clear h hl
  by_cases g : len ≤ 20
  · have g' : (len : Int) ≤ 20 := by omega
    have HG := Lib.hid (show decide (len ≤ 20) = true from decide_eq_true g)
    clear g
    go_enter Tryd.func30, Tryd.ntmps30
    go_wp2_with fail
    refine (containsP_any _ _ _ _ _ (H.out.below (by repeat (first | exact Below.refl _ _ | assumption | refine Below.drew ?_ | refine below_drewN ?_ _ | refine Below.alloc ?_ (by first | omega | (simp; done) | (simp; omega)) _ | refine Below.setCell ?_ (by first | omega | (simp; done) | (simp; omega)) _)))).mono ?_
    rintro e1 w1 ⟨rfl, hb1⟩
    obtain ⟨hc1, hf1⟩ := bcell hb1
    have hz1 := hb1.size
    try simp at hz1
    have ha1 : Below w.heap.size w w1 := below_call (by repeat (first | exact Below.refl _ _ | assumption | refine Below.drew ?_ | refine below_drewN ?_ _ | refine Below.alloc ?_ (by first | omega | (simp; done) | (simp; omega)) _ | refine Below.setCell ?_ (by first | omega | (simp; done) | (simp; omega)) _)) hb1
    go_wp2
    go_ret
    exact ⟨ret_bool (by rw [HR.out, HG.out]; simp), (by repeat (first | exact Below.refl _ _ | assumption | refine Below.drew ?_ | refine below_drewN ?_ _ | refine Below.alloc ?_ (by first | omega | (simp; done) | (simp; omega)) _ | refine Below.setCell ?_ (by first | omega | (simp; done) | (simp; omega)) _))⟩
  · have g' : decide ((len : Int) ≤ 20) = false := decide_eq_false (by omega)
    have HG := Lib.hid (show decide (len ≤ 20) = false from decide_eq_false g)
    clear g
    go_enter Tryd.func30, Tryd.ntmps30
    go_wp2
    go_ret
    exact ⟨ret_bool (by rw [HR.out, HG.out]; rfl), (by repeat (first | exact Below.refl _ _ | assumption | refine Below.drew ?_ | refine below_drewN ?_ _ | refine Below.alloc ?_ (by first | omega | (simp; done) | (simp; omega)) _ | refine Below.setCell ?_ (by first | omega | (simp; done) | (simp; omega)) _))⟩
set_option maxHeartbeats 1000000 in
theorem l11Ok_any (a : Option Addr) (len cap : Nat) (ps : List (Int × Int × Int)) (w : World) (h : IsPieces w a len cap ps) :
    Calls Tryd.prog 45 #[.slice a len cap] w fun e w' => e = .returned (.bool (vpB ps)) ∧ w = w' := by
  have hl := h.1
  have hm : len ≤ maxLen := Nat.le_trans h.2.1 h.2.2.1
  unfold maxLen at hm
  have HR := Lib.hid (show vpB ps = (decide (len ≤ 20) && allP ps) by unfold vpB; rw [hl])
  have H := Lib.hid h
  have HL := Lib.hid hl
  clear h hl
  go_enter Tryd.func45, Tryd.ntmps45
  go_wp2
  go_loop [3] (fun i => ∃ k : Nat, k ≤ len ∧ i = .int .i64 (k : Int) ∧ (∀ m, m < k → pB (ps.getD m (0, 0, 0)) = true)) (fun i => (len - intOf i).toNat)
  case atStart => exact ⟨0, by omega, rfl, fun m hm => by omega⟩
  case round =>
    obtain ⟨k, hk, rfl, hI⟩ := hrel
    have HI := Lib.hid hI
    clear hI
    by_cases hlt : k < len
    · obtain ⟨b, o, rfl, hb', h0, h1, h2⟩ := H.out.cell hlt
      have hlt' : (k : Int) < (len : Int) := by omega
      have HP : Hid (PieceAt w b (o + k * 3) (ps.getD k (0, 0, 0)).1 (ps.getD k (0, 0, 0)).2.1 (ps.getD k (0, 0, 0)).2.2) := Lib.hid ⟨h0, h1, h2⟩
      have HQ := Lib.hid (show pB (ps.getD k (0, 0, 0)) = pieceB (ps.getD k (0, 0, 0)).1 (ps.getD k (0, 0, 0)).2.1 (ps.getD k (0, 0, 0)).2.2 from rfl)
      cases hx : pB (ps.getD k (0, 0, 0))
      · have HA := Lib.hid (allP_no (by rw [HL.out]; exact hlt) hx)
        have HX := Lib.hid hx
        clear hx h0 h1 h2
        generalize ps.getD k (0, 0, 0) = p at *
        obtain ⟨p0, p1, p2⟩ := p
        go_wp2_with fail
        refine (l11One_any _ _ _ _ _ _ HP.out).mono ?_
        rintro e1 w1 ⟨rfl, rfl⟩
        rw [← HQ.out, HX.out]
        go_wp2
        go_ret
        exact ⟨ret_bool (by rw [HR.out, HA.out]; simp), rfl⟩
      · have HX := Lib.hid hx
        have HN : Hid (∀ m, m < k + 1 → pB (ps.getD m (0, 0, 0)) = true) := Lib.hid fun m hm => by
          rcases Nat.lt_succ_iff_lt_or_eq.1 hm with h | rfl
          · exact HI.out m h
          · exact HX.out
        clear hx h0 h1 h2
        generalize ps.getD k (0, 0, 0) = p at *
        obtain ⟨p0, p1, p2⟩ := p
        go_wp2_with fail
        refine (l11One_any _ _ _ _ _ _ HP.out).mono ?_
        rintro e1 w1 ⟨rfl, rfl⟩
        rw [← HQ.out, HX.out]
        go_wp2
        go_round
        case rel => exact ⟨k + 1, by omega, by go_num, HN.out⟩
        case measure => simp [intOf]; omega
    · obtain rfl : k = len := by omega
      have HA := Lib.hid (allP_mk (ps := ps) (fun m hm => HI.out m (by rw [HL.out] at hm; exact hm)))
      by_cases g : k ≤ 20
      · have g' : (k : Int) ≤ 20 := by omega
        have HG := Lib.hid (show decide (k ≤ 20) = true from decide_eq_true g)
        clear g
        go_wp2
        go_ret
        exact ⟨ret_bool (by rw [HR.out, HG.out, HA.out]; simp), rfl⟩
      · have g' : decide ((k : Int) ≤ 20) = false := decide_eq_false (by omega)
        have HG := Lib.hid (show decide (k ≤ 20) = false from decide_eq_false g)
        clear g
        go_wp2
        go_ret
        exact ⟨ret_bool (by rw [HR.out, HG.out]; simp), rfl⟩
set_option maxHeartbeats 400000 in
theorem specValidPieces_any (a : Option Addr) (len cap : Nat) (ps : List (Int × Int × Int)) (w : World) (h : IsPieces w a len cap ps) :
    Calls Tryd.prog 31 #[.slice a len cap] w fun e w' => e = .returned (.bool (vpB ps)) ∧ Below w.heap.size w w' := by
  go_enter Tryd.func31, Tryd.ntmps31
  go_wp2_with fail
  refine (l11Ok_any _ _ _ _ _ h).mono ?_
  rintro e1 w1 ⟨rfl, rfl⟩
  go_wp2
  go_ret
  exact ⟨rfl, (by repeat (first | exact Below.refl _ _ | assumption | refine Below.drew ?_ | refine below_drewN ?_ _ | refine Below.alloc ?_ (by first | omega | (simp; done) | (simp; omega)) _ | refine Below.setCell ?_ (by first | omega | (simp; done) | (simp; omega)) _))⟩
end Go.Proofs.YtgnalhnbdpigdaaDoor
