/- Slices of pieces (three integers each): an argument opened to its cells, and the contracts of the laws' own functions on them; condition: the slice can be read. -/
import Derived.Test.YtgnalhnbdpigdaaDoorPiece
import Derived.Test.YtgnalhnbdpigdaaDoorSlice
import Derived.Deep.Slices
import Derived.Deep.Fields
import Derived.ChangeSame
namespace Go.Proofs.YtgnalhnbdpigdaaDoor
open Go.ChangeShapes Go.WideShapes Go.ChangeAt Go.RowKit Go.Deep

/-- What a walk is told of a slice of pieces. -/
def IsPieces (w : World) (a : Option Addr) (len cap : Nat) (ps : List (Int × Int × Int)) : Prop :=
  ps.length = len ∧ len ≤ cap ∧ cap ≤ maxLen ∧ (0 < len → ∃ b o, a = some ⟨b, o, none⟩ ∧ b < w.heap.size ∧ ∀ (i : Nat) p, ps[i]? = some p →
    w.cell? ⟨b, o + i * 3, none⟩ = some (.int .i64 p.1) ∧ w.cell? ⟨b, o + i * 3 + 1, none⟩ = some (.int .i64 p.2.1) ∧ w.cell? ⟨b, o + i * 3 + 2, none⟩ = some (.int .i64 p.2.2))
theorem list_of {α : Type} (Q : Nat → α → Prop) (n : Nat) (h : ∀ i, i < n → ∃ p, Q i p) : ∃ ps : List α, ps.length = n ∧ ∀ (i : Nat) p, ps[i]? = some p → Q i p := by
  induction n with
  | zero => exact ⟨[], rfl, fun i p hp => by simp at hp⟩
  | succ n ih =>
    obtain ⟨ps, hl, hq⟩ := ih fun i hi => h i (by omega)
    obtain ⟨p, hp⟩ := h n (by omega)
    refine ⟨ps ++ [p], by simp [hl], fun i q hi => ?_⟩
    by_cases hlt : i < n
    · rw [List.getElem?_append_left (by omega)] at hi; exact hq i q hi
    · have hi' : i = n := by
        have := (List.getElem?_eq_some_iff.1 hi).1
        simp [hl] at this; omega
      subst hi'
      rw [List.getElem?_append_right (by omega), hl, Nat.sub_self] at hi
      simp at hi; subst hi; exact hp
theorem len_three {α : Type} {l : List α} (h : l.length = 3) : ∃ x y z, l = [x, y, z] := by
  rcases l with _ | ⟨x, _ | ⟨y, _ | ⟨z, _ | ⟨_, _⟩⟩⟩⟩
  · cases h
  · cases h
  · cases h
  · exact ⟨x, y, z, rfl⟩
  · simp at h
section
variable {H : Type} {enc : TypeId × Value → H} {w : World} {base : Nat} {spare : Nat → Bool} {held : Bool}
theorem isPieces_open {T e ti : TypeId} {f0 f1 f2 : Field} {fuel : Nat} {a : Option Addr} {len cap : Nat} {x : DataW H × List MemPlace} (ht : Tryd.prog.underlying T = some (.slice e)) (he : Tryd.prog.underlying e = some (.struct #[f0, f1, f2]))
    (hi : Tryd.prog.underlying ti = some (.int .i64)) (hC : Tryd.prog.cellsOf e = 3) (hF : (f0.type, f0.offset, f1.type, f1.offset, f2.type, f2.offset) = (ti, 0, ti, 1, ti, 2)) (hI : Tryd.prog.cellsOf ti = 1)
    (hf : DataW.trod enc Tryd.prog w base spare held fuel T (Value.slice a len cap).cells.toList = some x) : ∃ ps, IsPieces w a len cap ps := by
  simp only [Prod.mk.injEq] at hF
  obtain ⟨g0, o0, g1, o1, g2, o2⟩ := hF
  rcases open_slice ht hf with ⟨hcs, _⟩ | ⟨ad, len', cap', m, n, D, Pl, hcs, _, hl, hm, hmm, _, hr⟩
  · simp [Value.cells] at hcs
    obtain ⟨rfl, rfl, rfl⟩ := hcs
    exact ⟨[], rfl, Nat.le_refl _, Nat.zero_le _, fun h => absurd h (by omega)⟩
  · simp [Value.cells] at hcs
    obtain ⟨rfl, rfl, rfl⟩ := hcs
    have hlm : len ≤ m := by rw [hmm]; split <;> omega
    have hq : ∀ i, i < len → ∃ p : Int × Int × Int, w.cell? (ad.add (i * 3)) = some (.int .i64 p.1) ∧ w.cell? ((ad.add (i * 3)).add 1) = some (.int .i64 p.2.1) ∧ w.cell? ((ad.add (i * 3)).add 2) = some (.int .i64 p.2.2) := by
      intro i hi'
      obtain ⟨cs', hc, ht'⟩ := hr i (by omega)
      rw [hC] at hc
      obtain ⟨ys, n', _, _, hcl, hyl, hfld⟩ := DataW.trod_struct he ht'
      rw [hC] at hcl
      obtain ⟨_, _, hat⟩ := World.cells?_some hc
      have k0 := hfld 0 f0 rfl
      have k1 := hfld 1 f1 rfl
      have k2 := hfld 2 f2 rfl
      rw [o0, g0, hI] at k0
      rw [o1, g1, hI] at k1
      rw [o2, g2, hI] at k2
      obtain ⟨c0, c1, c2, rfl⟩ := len_three hcl
      obtain ⟨y0, y1, y2, rfl⟩ := len_three (show ys.length = 3 from hyl)
      obtain ⟨n0, e0, _, _⟩ := DataW.trod_int hi (show DataW.trod enc Tryd.prog w base spare held n' ti [c0] = some y0 from k0)
      obtain ⟨n1, e1, _, _⟩ := DataW.trod_int hi (show DataW.trod enc Tryd.prog w base spare held n' ti [c1] = some y1 from k1)
      obtain ⟨n2, e2, _, _⟩ := DataW.trod_int hi (show DataW.trod enc Tryd.prog w base spare held n' ti [c2] = some y2 from k2)
      simp only [List.cons.injEq, and_true] at e0 e1 e2
      subst e0 e1 e2
      have a0 := hat 0 (by omega)
      have a1 := hat 1 (by omega)
      have a2 := hat 2 (by omega)
      refine ⟨(n0, n1, n2), ?_, ?_, ?_⟩
      · simpa [Addr.add] using a0
      · simpa using a1
      · simpa using a2
    obtain ⟨ps, hpl, hps⟩ := list_of _ len hq
    refine ⟨ps, hpl, hl, hm, fun h0 => ?_⟩
    obtain ⟨b, o, sp⟩ := ad
    have hs : sp = none := by
      obtain ⟨p, hp, _⟩ := hq 0 h0
      simpa [Addr.add] using World.cell?_spot hp
    subst hs
    have hadd : ∀ b o j, (⟨b, o, none⟩ : Addr).add j = ⟨b, o + j, none⟩ := by intro b o j; unfold Addr.add; split <;> simp_all
    refine ⟨b, o, rfl, ?_, fun i p hp => ?_⟩
    · obtain ⟨p, hp, _⟩ := hq 0 h0
      rw [hadd] at hp
      exact World.block_lt_of_cell? _ _ hp
    · obtain ⟨h1, h2, h3⟩ := hps i p hp
      rw [hadd] at h1 h2 h3
      rw [hadd] at h2 h3
      exact ⟨h1, h2, h3⟩
end
/-- Pieces as a row of cells. -/
def pvals : List (Int × Int × Int) → List Value
  | [] => []
  | p :: ps => .int .i64 p.1 :: .int .i64 p.2.1 :: .int .i64 p.2.2 :: pvals ps
theorem pvals_len (ps : List (Int × Int × Int)) : (pvals ps).length = ps.length * 3 := by
  induction ps with
  | nil => rfl
  | cons p ps ih => simp [pvals, ih]; omega
theorem pvals_get (ps : List (Int × Int × Int)) (i : Nat) (p : Int × Int × Int) (h : ps[i]? = some p) :
    (pvals ps)[i * 3]? = some (.int .i64 p.1) ∧ (pvals ps)[i * 3 + 1]? = some (.int .i64 p.2.1) ∧ (pvals ps)[i * 3 + 2]? = some (.int .i64 p.2.2) := by
  induction ps generalizing i with
  | nil => simp at h
  | cons q ps ih =>
    cases i with
    | zero => simp at h; subst h; exact ⟨rfl, rfl, rfl⟩
    | succ i =>
      have := ih i (by simpa using h)
      have e : (i + 1) * 3 = i * 3 + 1 + 1 + 1 := by omega
      rw [e]
      exact this
theorem pvals_set (ps : List (Int × Int × Int)) (i : Nat) (x y z : Int) (h : i < ps.length) :
    (((pvals ps).set (i * 3) (.int .i64 x)).set (i * 3 + 1) (.int .i64 y)).set (i * 3 + 2) (.int .i64 z) = pvals (ps.set i (x, y, z)) := by
  induction ps generalizing i with
  | nil => simp at h
  | cons q ps ih =>
    cases i with
    | zero => rfl
    | succ i =>
      have := ih i (by simpa using h)
      have e : (i + 1) * 3 = i * 3 + 1 + 1 + 1 := by omega
      rw [e]
      show _ = _ :: _ :: _ :: pvals (ps.set i (x, y, z))
      rw [← this]
      rfl
def pcells (ps : List (Int × Int × Int)) : Array Value := (pvals ps).toArray
theorem pcells_set (ps : List (Int × Int × Int)) (i : Nat) (x y z : Int) (h : i < ps.length) :
    (((pcells ps).setIfInBounds (i * 3) (.int .i64 x)).setIfInBounds (i * 3 + 1) (.int .i64 y)).setIfInBounds (i * 3 + 2) (.int .i64 z) = pcells (ps.set i (x, y, z)) := by
  unfold pcells
  rw [← pvals_set ps i x y z h]
  simp
theorem isPieces_blk {w : World} {g : Nat} {ps : List (Int × Int × Int)} {T : TypeId} (h : w.heap[g]? = some (.cells (pcells ps) T (0, 0))) (hm : ps.length ≤ maxLen) : IsPieces w (some ⟨g, 0, none⟩) ps.length ps.length ps := by
  refine ⟨rfl, Nat.le_refl _, hm, fun _ => ⟨g, 0, rfl, blk_lt h, fun i p hp => ?_⟩⟩
  obtain ⟨h1, h2, h3⟩ := pvals_get ps i p hp
  rw [Nat.zero_add, cellOf h, cellOf h, cellOf h]
  exact ⟨by simpa [pcells] using h1, by simpa [pcells] using h2, by simpa [pcells] using h3⟩
theorem IsPieces.below {w w' : World} {a : Option Addr} {len cap : Nat} {ps : List (Int × Int × Int)} (h : IsPieces w a len cap ps) (hb : Below w.heap.size w w') : IsPieces w' a len cap ps := by
  obtain ⟨h1, h2, h3, h5⟩ := h
  refine ⟨h1, h2, h3, fun h0 => ?_⟩
  obtain ⟨b, o, ha, hlt, hc⟩ := h5 h0
  exact ⟨b, o, ha, Nat.lt_of_lt_of_le hlt hb.size, fun i p hi => ⟨keep1 hb (hc i p hi).1, keep1 hb (hc i p hi).2.1, keep1 hb (hc i p hi).2.2⟩⟩
theorem IsPieces.cell {w : World} {a : Option Addr} {len cap : Nat} {ps : List (Int × Int × Int)} (h : IsPieces w a len cap ps) {i : Nat} (hi : i < len) :
    ∃ b o, a = some ⟨b, o, none⟩ ∧ b < w.heap.size ∧ w.cell? ⟨b, o + i * 3, none⟩ = some (.int .i64 (ps.getD i (0, 0, 0)).1) ∧ w.cell? ⟨b, o + i * 3 + 1, none⟩ = some (.int .i64 (ps.getD i (0, 0, 0)).2.1) ∧ w.cell? ⟨b, o + i * 3 + 2, none⟩ = some (.int .i64 (ps.getD i (0, 0, 0)).2.2) := by
  obtain ⟨hl, _, _, hc⟩ := h
  obtain ⟨b, o, ha, hb, hc⟩ := hc (by omega)
  have e : ps[i]? = some (ps.getD i (0, 0, 0)) := by rw [List.getD_eq_getElem?_getD, List.getElem?_eq_getElem (by omega)]; rfl
  exact ⟨b, o, ha, hb, hc i _ e⟩
theorem pvals_zero (n : Nat) : pvals (List.replicate n (0, 0, 0)) = List.replicate (n * 3) (.int .i64 0) := by
  induction n with
  | zero => rfl
  | succ n ih =>
    rw [List.replicate_succ, show (n + 1) * 3 = n * 3 + 1 + 1 + 1 by omega, List.replicate_succ, List.replicate_succ, List.replicate_succ, ← ih]
    rfl
theorem made_pieces (n : Nat) : madeCells (Value.agg #[.int .i64 0, .int .i64 0, .int .i64 0]).cells (n * 3) = pcells (List.replicate n (0, 0, 0)) := by
  unfold pcells
  rw [pvals_zero]
  apply Array.ext
  · simp [madeCells]
  · intro i h1 h2
    have h3 : i % 3 = 0 ∨ i % 3 = 1 ∨ i % 3 = 2 := by omega
    simp only [madeCells, Array.getElem_map, Array.getElem_range, List.getElem_toArray, List.getElem_replicate]
    show (#[Value.int IntKind.i64 0, .int .i64 0, .int .i64 0] : Array Value)[i % 3]! = _
    rcases h3 with h3 | h3 | h3 <;> rw [h3] <;> rfl
theorem info_piece : (Tryd.prog.info? 25).map (fun i => (i.zero, i.size, i.bytes)) = some (some (.agg #[.int .i64 0, .int .i64 0, .int .i64 0]), 3, 24) := by kernel_rfl
theorem make_piece (n : Nat) (hn : n ≤ 1048576) (W : World) : (Instr.makeSlice 36 (.int .i64 (n : Int)) (.int .i64 (n : Int))).run Tryd.prog W = .ok (.slice (some ⟨W.heap.size, 0, none⟩) n n) (W.alloc (.cells (pcells (List.replicate n (0, 0, 0))) 25)) := by
  obtain ⟨i, hi, hz, hs, hb⟩ := info_parts info_piece
  have hr := run_make (P := Tryd.prog) W 36 25 i (.agg #[.int .i64 0, .int .i64 0, .int .i64 0]) Tryd.underlying36 hi hz .i64 .i64 n n (by omega) (Int.le_refl _) (by rw [hb]; omega) (by omega)
  rw [hs] at hr
  simp only [Int.toNat_natCast, made_pieces] at hr
  exact hr
/-- What a copy holds behind k rounds. -/
def ppart (ps : List (Int × Int × Int)) (k : Nat) : List (Int × Int × Int) := ps.take k ++ List.replicate (ps.length - k) (0, 0, 0)
theorem ppart_len (ps : List (Int × Int × Int)) (k : Nat) (h : k ≤ ps.length) : (ppart ps k).length = ps.length := by simp [ppart]; omega
theorem ppart_zero (ps : List (Int × Int × Int)) : ppart ps 0 = List.replicate ps.length (0, 0, 0) := by simp [ppart]
theorem ppart_all (ps : List (Int × Int × Int)) : ppart ps ps.length = ps := by simp [ppart]
theorem ppart_next (ps : List (Int × Int × Int)) (k : Nat) (h : k < ps.length) : (ppart ps k).set k (ps.getD k (0, 0, 0)) = ppart ps (k + 1) := by
  unfold ppart
  rw [List.set_append_right _ _ (by simp; omega)]
  have e1 : k - (List.take k ps).length = 0 := by simp; omega
  have e2 : ps.length - k = (ps.length - (k + 1)) + 1 := by omega
  rw [e1, e2, List.replicate_succ, List.set_cons_zero, List.take_succ_eq_append_getElem h, List.append_assoc]
  simp [List.getD_eq_getElem?_getD, h]
theorem ppart_get (ps : List (Int × Int × Int)) (k : Nat) (h : k < ps.length) : (ppart ps k)[k]? = some (0, 0, 0) := by
  unfold ppart; rw [List.getElem?_append_right (by simp; omega)]
  simp [List.getElem?_replicate]; omega
end Go.Proofs.YtgnalhnbdpigdaaDoor
