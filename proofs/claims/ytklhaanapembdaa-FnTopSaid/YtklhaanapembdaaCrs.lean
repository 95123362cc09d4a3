/- Slices of courses (two strings each), and the contracts of ValidBond, course and pieceAt; condition: the bond is valid. -/
import Derived.Deep.AppendLies
import Derived.StillTailTactics
import Derived.Test.YtklhaanapembdaaM42
import Derived.Test.YtklhaanapembdaaM38
import Derived.Test.YtklhaanapembdaaM40

namespace Go.Proofs.Ytklhaanapembdaa
set_option linter.unusedVariables false
open Go.RowKit

/-- Courses as a row of cells. -/
def crsV : List (ByteArray × ByteArray) → List Value
  | [] => []
  | p :: ps => .string p.1 :: .string p.2 :: crsV ps
theorem crsV_len (ps : List (ByteArray × ByteArray)) : (crsV ps).length = ps.length * 2 := by
  induction ps with
  | nil => rfl
  | cons p ps ih => simp [crsV, ih]; omega
theorem crsV_get (ps : List (ByteArray × ByteArray)) (i : Nat) (p : ByteArray × ByteArray) (h : ps[i]? = some p) :
    (crsV ps)[i * 2]? = some (.string p.1) ∧ (crsV ps)[i * 2 + 1]? = some (.string p.2) := by
  induction ps generalizing i with
  | nil => simp at h
  | cons q ps ih =>
    cases i with
    | zero => simp at h; subst h; exact ⟨rfl, rfl⟩
    | succ i =>
      have := ih i (by simpa using h)
      have e : (i + 1) * 2 = i * 2 + 1 + 1 := by omega
      rw [e]
      exact this
theorem crsV_snoc (ps : List (ByteArray × ByteArray)) (l c : ByteArray) : crsV (ps ++ [(l, c)]) = crsV ps ++ [.string l, .string c] := by
  induction ps with
  | nil => rfl
  | cons p ps ih => simp [crsV, ih]
/-- What a walk is told of a slice of courses. -/
def IsCrs (w : World) (a : Option Addr) (len cap : Nat) (ps : List (ByteArray × ByteArray)) : Prop :=
  ps.length = len ∧ len ≤ cap ∧ cap ≤ maxLen ∧ (0 < len → ∃ b o, a = some ⟨b, o, none⟩ ∧ b < w.heap.size ∧ ∀ (i : Nat) p, ps[i]? = some p →
    w.cell? ⟨b, o + i * 2, none⟩ = some (.string p.1) ∧ w.cell? ⟨b, o + i * 2 + 1, none⟩ = some (.string p.2))
theorem IsCrs.below {w w' : World} {a : Option Addr} {len cap : Nat} {ps : List (ByteArray × ByteArray)} (h : IsCrs w a len cap ps) (hb : Below w.heap.size w w') : IsCrs w' a len cap ps := by
  obtain ⟨h1, h2, h3, h5⟩ := h
  refine ⟨h1, h2, h3, fun h0 => ?_⟩
  obtain ⟨b, o, ha, hlt, hc⟩ := h5 h0
  exact ⟨b, o, ha, Nat.lt_of_lt_of_le hlt hb.size, fun i p hi => ⟨keep1 hb (hc i p hi).1, keep1 hb (hc i p hi).2⟩⟩
theorem IsCrs.cell {w : World} {a : Option Addr} {len cap : Nat} {ps : List (ByteArray × ByteArray)} (h : IsCrs w a len cap ps) {i : Nat} (hi : i < len) :
    ∃ b o, a = some ⟨b, o, none⟩ ∧ b < w.heap.size ∧ w.cell? ⟨b, o + i * 2, none⟩ = some (.string (ps.getD i (ByteArray.empty, ByteArray.empty)).1) ∧ w.cell? ⟨b, o + i * 2 + 1, none⟩ = some (.string (ps.getD i (ByteArray.empty, ByteArray.empty)).2) := by
  obtain ⟨hl, _, _, hc⟩ := h
  obtain ⟨b, o, ha, hb, hc⟩ := hc (by omega)
  have e : ps[i]? = some (ps.getD i (ByteArray.empty, ByteArray.empty)) := by rw [List.getD_eq_getElem?_getD, List.getElem?_eq_getElem (by omega)]; rfl
  exact ⟨b, o, ha, hb, hc i _ e⟩
/-- A slice of courses of the call's own. -/
def OwnC (w : World) (base : Nat) (v : Value) (ps : List (ByteArray × ByteArray)) : Prop := w.ownsRow base 137 2 v ps.length (crsV ps)
theorem info_crs : (Try.prog.info? 137).map (fun i => (i.zero, i.size, i.bytes)) = some (some (.agg #[.string ByteArray.empty, .string ByteArray.empty]), 2, 32) := by kernel_rfl
theorem ownC_nil (w : World) (base : Nat) : OwnC w base (.slice none 0 0) [] := World.ownsRow_nil _ _ _ _
theorem OwnC.shape {w : World} {base : Nat} {v : Value} {ss : List (ByteArray × ByteArray)} (h : OwnC w base v ss) : ∃ a c, v = .slice a ss.length c := by
  rcases h.2 with ⟨rfl, h0⟩ | ⟨g, cap, _, rfl, _⟩
  · exact ⟨none, 0, by rw [h0]⟩
  · exact ⟨_, _, rfl⟩
theorem OwnC.snoc {w : World} {base n : Nat} {v : Value} {ss : List (ByteArray × ByteArray)} {l c : ByteArray} (h : w.ownsRow base 137 2 v n (crsV ss ++ [.string l, .string c])) (hn : n = ss.length + 1) : OwnC w base v (ss ++ [(l, c)]) := by
  unfold OwnC; subst hn; rw [crsV_snoc]; simpa using h
theorem OwnC.row {w : World} {base : Nat} {a : Option Addr} {n c : Nat} {ss : List (ByteArray × ByteArray)} (h : OwnC w base (.slice a n c) ss) : IsCrs w a n c ss := by
  obtain ⟨_, h⟩ := h
  rcases h with ⟨hv, hn⟩ | ⟨g, cap, cur, hv, hb, hh, hnc, hm, hs', ht⟩
  · injection hv with h1 h2 h3
    subst h1 h2 h3
    have : ss = [] := by simpa using hn
    subst this
    exact ⟨rfl, Nat.le_refl _, Nat.zero_le _, fun h => absurd h (by omega)⟩
  · injection hv with h1 h2 h3
    subst h1 h2 h3
    refine ⟨rfl, hnc, hm, fun _ => ⟨g, 0, rfl, blk_lt hh, fun i p hi => ?_⟩⟩
    obtain ⟨g1, g2⟩ := crsV_get ss i p hi
    have hlt : i < ss.length := (List.getElem?_eq_some_iff.1 hi).1
    have e1 : (cur.toList.take (ss.length * 2))[i * 2]? = some (Value.string p.1) := by rw [ht]; exact g1
    have e2 : (cur.toList.take (ss.length * 2))[i * 2 + 1]? = some (Value.string p.2) := by rw [ht]; exact g2
    rw [Nat.zero_add, cellOf hh, cellOf hh]
    rw [List.getElem?_take_of_lt (by omega)] at e1 e2
    exact ⟨by simpa using e1, by simpa using e2⟩
set_option maxHeartbeats 1000000 in
theorem validBondC_yes (l c : ByteArray) (w : World) (h : CrsOk l c) :
    Calls Try.prog 117 #[.agg #[.string l, .string c]] w fun e w' => e = .returned (.bool false) ∧ Below w.heap.size w w' := by
  have h6 := h.l6
  have h1 := h.c1
  have h8 := h.c8
  have HL := Lib.hid (fun W => onlyPcs_yes l W (by omega) h.lp)
  have HC := Lib.hid (fun W => onlyPln_yes c W (by omega) h.cp)
  have hI : inB (c.size : Int) 1 8 = true := inB_mk ⟨by omega, by omega⟩
  have HI := Lib.hid (fun W => within_any (c.size : Int) 1 8 W)
  rw [hI] at HI
  have d6 : ¬ (6 : Int) < (l.size : Int) := by omega
  clear h hI
  go_enter Try.func117, Try.ntmps117
  go_wp2_with fail
  refine (HL.out _).mono ?_
  rintro e1 w1 ⟨rfl, rfl⟩
  go_wp2_with fail
  refine (HI.out _).mono ?_
  rintro e1 w1 ⟨rfl, rfl⟩
  go_wp2_with fail
  refine (HC.out _).mono ?_
  rintro e1 w1 ⟨rfl, rfl⟩
  go_wp2
  go_ret
  exact ⟨rfl, (by repeat (first | exact Below.refl _ _ | assumption | refine Below.drew ?_ | refine below_drewN ?_ _ | refine Below.alloc ?_ (by first | omega | (simp; done) | (simp; omega)) _ | refine Below.setCell ?_ (by first | omega | (simp; done) | (simp; omega)) _))⟩
set_option maxHeartbeats 2000000 in
theorem indexFC_yes (a : Option Addr) (n cap : Nat) (ps : List (ByteArray × ByteArray)) (w : World) (hs : IsCrs w a n cap ps) (hw : ∀ p ∈ ps, CrsOk p.1 p.2) :
    Calls Try.prog 133 #[.slice a n cap, .func (Fn.func 117) #[] #[]] w fun e w' => e = .returned (.int .i64 (-1)) ∧ Below w.heap.size w w' := by
  have hl := hs.1
  have hm : n ≤ maxLen := Nat.le_trans hs.2.1 hs.2.2.1
  unfold maxLen at hm
  have HC := Lib.hid (fun k (hk : k < n) (W : World) => validBondC_yes (ps.getD k (ByteArray.empty, ByteArray.empty)).1 (ps.getD k (ByteArray.empty, ByteArray.empty)).2 W (hw _ (by rw [List.getD_eq_getElem?_getD, List.getElem?_eq_getElem (by rw [hl]; exact hk)]; exact List.getElem_mem _)))
  have HS := Lib.hid hs
  clear hs hl hw
  go_enter Try.func133, Try.ntmps133
  go_wp2_with fail
  go_loopw [5, 8] (fun _ i wr => ∃ k : Nat, k ≤ n ∧ i = .int .i64 (k : Int) ∧ Below w.heap.size w wr) (fun _ i _ => (n - intOf i).toNat)
  case atStart => exact ⟨0, by omega, rfl, (by repeat (first | exact Below.refl _ _ | assumption | refine Below.drew ?_ | refine below_drewN ?_ _ | refine Below.alloc ?_ (by first | omega | (simp; done) | (simp; omega)) _ | refine Below.setCell ?_ (by first | omega | (simp; done) | (simp; omega)) _))⟩
  case round =>
    obtain ⟨k, hk, rfl, hB⟩ := hrel
    have hz := hB.size
    by_cases hlt : k < n
    · have hlt' : (k : Int) < (n : Int) := by omega
      obtain ⟨r, o, rfl, hr, hc1, hc2⟩ := (HS.out.below hB).cell hlt
      have HK := Lib.hid (HC.out k hlt wr)
      generalize (ps.getD k (ByteArray.empty, ByteArray.empty)).1 = x at *
      generalize (ps.getD k (ByteArray.empty, ByteArray.empty)).2 = y at *
      go_wp2_with fail
      refine HK.out.mono ?_
      rintro e1 w1 ⟨rfl, hb1⟩
      have hB1 := Lib.hid (below_call hB hb1)
      clear hb1 HK hc1 hc2
      go_wp2
      go_roundw
      case rel => exact ⟨k + 1, by omega, by go_num, hB1.out⟩
      case measure => first | (simp [intOf]; done) | (simp [intOf]; omega)
    · obtain rfl : k = n := by omega
      go_wp2
      go_ret
      exact ⟨rfl, hB⟩
set_option maxHeartbeats 1000000 in
theorem containsFC_yes (a : Option Addr) (n cap : Nat) (ps : List (ByteArray × ByteArray)) (w : World) (hs : IsCrs w a n cap ps) (hw : ∀ p ∈ ps, CrsOk p.1 p.2) :
    Calls Try.prog 116 #[.slice a n cap, .func (Fn.func 117) #[] #[]] w fun e w' => e = .returned (.bool false) ∧ Below w.heap.size w w' := by
  have HC := Lib.hid (indexFC_yes a n cap ps w hs hw)
  clear hs hw
  go_enter Try.func116, Try.ntmps116
  go_wp2_with fail
  refine HC.out.mono ?_
  rintro e1 w1 ⟨rfl, hb1⟩
  go_wp2
  go_ret
  exact ⟨rfl, hb1⟩
/-- A valid bond. -/
structure Bond (w : World) (nm : ByteArray) (a : Option Addr) (n cap : Nat) (ps : List (ByteArray × ByteArray)) : Prop where
  nm : namU nm = true
  cs : IsCrs w a n cap ps
  ok : bndB ps = true
theorem Bond.below {w w' : World} {nm : ByteArray} {a : Option Addr} {n cap : Nat} {ps : List (ByteArray × ByteArray)} (h : Bond w nm a n cap ps) (hb : Below w.heap.size w w') : Bond w' nm a n cap ps := ⟨h.nm, h.cs.below hb, h.ok⟩
theorem Bond.len {w : World} {nm : ByteArray} {a : Option Addr} {n cap : Nat} {ps : List (ByteArray × ByteArray)} (h : Bond w nm a n cap ps) : 1 ≤ n ∧ n ≤ 8 := by
  have := bndB_t h.ok
  have := h.cs.1
  omega
theorem Bond.crs {w : World} {nm : ByteArray} {a : Option Addr} {n cap : Nat} {ps : List (ByteArray × ByteArray)} (h : Bond w nm a n cap ps) {k : Nat} (hk : k < n) : CrsOk (ps.getD k (ByteArray.empty, ByteArray.empty)).1 (ps.getD k (ByteArray.empty, ByteArray.empty)).2 := by
  refine (bndB_t h.ok).2.2 _ ?_
  rw [List.getD_eq_getElem?_getD, List.getElem?_eq_getElem (by rw [h.cs.1]; exact hk)]; exact List.getElem_mem _
set_option maxHeartbeats 1000000 in
theorem validBond_yes (nm : ByteArray) (a : Option Addr) (n cap : Nat) (ps : List (ByteArray × ByteArray)) (w : World) (h : Bond w nm a n cap ps) :
    Calls Try.prog 79 #[.agg #[.string nm, .slice a n cap]] w fun e w' => e = .returned (.bool true) ∧ Below w.heap.size w w' := by
  obtain ⟨n1, n8⟩ := h.len
  have hb0 : Below w.heap.size w (w.alloc (.cells #[.string nm, .slice a n cap] 45)) := (Below.refl _ _).alloc (Nat.le_refl _) _
  have HN := Lib.hid (fun W => isName_yes nm W h.nm)
  have HC := Lib.hid (containsFC_yes a n cap ps _ (h.cs.below hb0) (bndB_t h.ok).2.2)
  have hI : inB (n : Int) 1 8 = true := inB_mk ⟨by omega, by omega⟩
  have HI := Lib.hid (fun W => within_any (n : Int) 1 8 W)
  rw [hI] at HI
  have HB := Lib.hid hb0
  clear h hb0 hI
  go_enter Try.func79, Try.ntmps79
  go_wp2_with fail
  refine (HN.out _).mono ?_
  rintro e1 w1 ⟨rfl, rfl⟩
  go_wp2_with fail
  refine (HI.out _).mono ?_
  rintro e1 w1 ⟨rfl, rfl⟩
  go_wp2_with fail
  refine HC.out.mono ?_
  rintro e1 w1 ⟨rfl, hb1⟩
  have HB1 := Lib.hid (below_call HB.out hb1)
  clear hb1
  go_wp2
  go_ret
  exact ⟨rfl, HB1.out⟩
/-- What course hands back. -/
def GotC (w : World) (e : Ending) (w' : World) : Prop := ∃ l c : ByteArray, e = .returned (.agg #[.string l, .string c]) ∧ CrsOk l c ∧ Below w.heap.size w w'
set_option maxRecDepth 100000 in
set_option maxHeartbeats 1000000 in
theorem course_any (nm : ByteArray) (a : Option Addr) (n cap k : Nat) (ps : List (ByteArray × ByteArray)) (w : World) (h : Bond w nm a n cap ps) (hk : k ≤ 1000) :
    Calls Try.prog 119 #[.agg #[.string nm, .slice a n cap], .int .i64 (k : Int)] w (GotC w) := by
  obtain ⟨n1, n8⟩ := h.len
  obtain ⟨q, hq⟩ : ∃ q, k % n = q := ⟨_, rfl⟩
  have hqn : q < n := by rw [← hq]; exact Nat.mod_lt _ (by omega)
  have t1 : ((k : Int)).tmod (n : Int) = (q : Int) := by rw [Int.tmod_eq_emod_of_nonneg (by omega), ← hq]; omega
  have t2 : (k : Int) % (n : Int) = (q : Int) := by rw [← hq]; omega
  have hn0 : ((n : Int) == 0) = false := by simp; omega
  have hn1 : ¬ n = 0 := by omega
  have HOK := Lib.hid (h.crs hqn)
  obtain ⟨b, o, rfl, hb, hc1, hc2⟩ := h.cs.cell hqn
  have hqI : (q : Int) < (n : Int) := by omega
  generalize (ps.getD q (ByteArray.empty, ByteArray.empty)).1 = x at *
  generalize (ps.getD q (ByteArray.empty, ByteArray.empty)).2 = y at *
  clear h hq
  go_enter Try.func119, Try.ntmps119
  go_wp2
  refine wp_region_still_tail 9 (by kernel_rfl) (by kernel_rfl) ?_
  simp only [List.take_succ_cons, List.take_zero, List.drop_succ_cons, List.drop_zero]
  change wpStill _ _ (World.drew _) _ _ _
  repeat still_step
  refine wpStill_nil ?_
  change wpList _ _ _ _ _ (World.drew _)
  clear t1 t2
  go_wp2
  refine bodyPost_ret (v := .agg #[.string x, .string y]) (by simp [results, Try.results119, go_sem]) rfl ⟨x, y, rfl, HOK.out, ?_⟩
  exact (by repeat (first | exact Below.refl _ _ | assumption | refine Below.drew ?_ | refine below_drewN ?_ _ | refine Below.alloc ?_ (by first | omega | (simp; done) | (simp; omega)) _ | refine Below.setCell ?_ (by first | omega | (simp; done) | (simp; omega)) _))
set_option maxRecDepth 100000 in
set_option maxHeartbeats 1000000 in
theorem pieceAt_any (l c : ByteArray) (i : Nat) (w : World) (h : CrsOk l c) (hi : i ≤ 1000000) :
    Calls Try.prog 120 #[.agg #[.string l, .string c], .int .i64 (i : Int)] w fun e w' => ∃ x : UInt8, e = .returned (.int .u8 (x.toNat : Int)) ∧ 1 ≤ qU x ∧ Below w.heap.size w w' := by
  have h6 := h.l6
  have h1 := h.c1
  have h8 := h.c8
  by_cases hlt : i < l.size
  · have hlt' : (i : Int) < (l.size : Int) := by omega
    have hq := h.lp i hlt
    rw [bU_at l i hlt] at hq
    have HQ := Lib.hid hq
    clear h hq
    go_enter Try.func120, Try.ntmps120
    go_wp2
    go_ret
    exact ⟨l[i], rfl, HQ.out, (by repeat (first | exact Below.refl _ _ | assumption | refine Below.drew ?_ | refine below_drewN ?_ _ | refine Below.alloc ?_ (by first | omega | (simp; done) | (simp; omega)) _ | refine Below.setCell ?_ (by first | omega | (simp; done) | (simp; omega)) _))⟩
  · obtain ⟨q, hq⟩ : ∃ q, (i - l.size) % c.size = q := ⟨_, rfl⟩
    have hqc : q < c.size := by rw [← hq]; exact Nat.mod_lt _ (by omega)
    have hsub : ((i : Int) - (l.size : Int)) = ((i - l.size : Nat) : Int) := by omega
    have t1 : ((i : Int) - (l.size : Int)).tmod (c.size : Int) = (q : Int) := by rw [hsub, Int.tmod_eq_emod_of_nonneg (by omega), ← hq]; rfl
    have t2 : ((i : Int) - (l.size : Int)) % (c.size : Int) = (q : Int) := by rw [hsub, ← hq]; rfl
    have t3 : IntKind.i64.wrap ((i : Int) - (l.size : Int)) = (i : Int) - (l.size : Int) := IntWalk.i64_in _ (by omega)
    have t4 : 0 ≤ (i : Int) - (l.size : Int) := by omega
    have hn0 : ((c.size : Int) == 0) = false := by
      have : ¬ c.size = 0 := by omega
      simpa using this
    have hn1 : ¬ c.size = 0 := by omega
    have hlt' : ¬ (i : Int) < (l.size : Int) := by omega
    have hqI : (q : Int) < (c.size : Int) := by omega
    have hqq := h.cp q hqc
    rw [bU_at c q hqc] at hqq
    have HQ := Lib.hid (plain_q hqq)
    clear h hq hqq hsub
    go_enter Try.func120, Try.ntmps120
    go_wp2
    go_quiet (fail)
    clear t1 t2 t3 t4
    go_wp2
    go_ret
    exact ⟨c[q], rfl, HQ.out, (by repeat (first | exact Below.refl _ _ | assumption | refine Below.drew ?_ | refine below_drewN ?_ _ | refine Below.alloc ?_ (by first | omega | (simp; done) | (simp; omega)) _ | refine Below.setCell ?_ (by first | omega | (simp; done) | (simp; omega)) _))⟩
end Go.Proofs.Ytklhaanapembdaa
