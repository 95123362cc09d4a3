/- Contracts of the program's standing, CurvatureBounds and LeastThrust; no old memory turns; condition: the slices can be read. -/
import Derived.Test.YtklhaanapembdaaM20
import Derived.Test.YtklhaanapembdaaM10

namespace Go.Proofs.Ytklhaanapembdaa
set_option linter.unusedVariables false
set_option linter.unusedSimpArgs false
open Go.RowKit

theorem results_cell_slot {P : Program} {fn : Func} {p q : Tmp} {ty : TypeId} (h : fn.results = #[.cell p ty, .tmp q]) (tmps : Array Value) (w : World) (g : Nat) (t : TypeId) (cs : Array Value) (fr : Nat × Nat) (d : TypeDesc) (v : Value)
    (hp : tmps.getD p undef = .pointer (some ⟨g, 0, none⟩)) (hg : w.heap[g]? = some (.cells cs t fr))
    (hu : P.underlying ty = some d) (hd : (match d with | .struct _ | .array _ _ => true | _ => false) = true) (hi : (P.info? ty).map (·.size) = some cs.size) (hq : tmps.getD q undef = v) :
    (results fn tmps).run P w = .ok (.tuple #[.agg cs, v]) w := by
  have hp' : tmps[p]?.getD undef = .pointer (some ⟨g, 0, none⟩) := by simpa using hp
  have hq' : tmps[q]?.getD undef = v := by simpa using hq
  simp [results, h, hp', hq', asAddr, run_loadVar_row w g t ty cs fr d hg hu hd hi]
theorem blk_setsFar {g' : Nat} (vs : List Value) : ∀ {w : World} {g : Nat} {o : Obj} (_ : w.heap[g]? = some o) (_ : g ≠ g') (k : Nat), (w.setCells g' k vs).heap[g]? = some o := by
  induction vs with
  | nil => intro w g o h _ k; exact h
  | cons v r ih => intro w g o h hne k; exact ih (blk_far h (p := ⟨g', k, none⟩) hne v) hne (k + 1)
attribute [local go_sem ↓] stA stB
theorem stA2 {x y : Operand} {d : Option Tmp} {ty : TypeId} {ps : String} {af : Array Edge} {gd : Option (Nat × Bool)} {a : Act} {w : World} {o : Obj} {K : Act → World → Prop} {Q : Exit → Act → World → Prop}
    (hx : a.eval x = .pointer (some ⟨w.heap.size + 1, 0, none⟩)) (hy : a.eval y = .agg #[.int .i64 0, .int .i64 0, .int .i64 0, .int .i64 0, .int .i64 0, .int .i64 0, .int .i64 0, .int .i64 0, .int .i64 0, .int .i64 0, .int .i64 0, .int .i64 0, .int .i64 0, .int .i64 0, .int .i64 0, .int .i64 0, .int .i64 0, .int .i64 0, .bool false, .bool false, .bool false]) :
    Oper.wp Try.prog { dst := d, op := Op.store 87 x y, type := ty, pos := ps, after := af, guard := gd } a ((w.alloc o).alloc (.cells #[.int .i64 0, .int .i64 0, .int .i64 0, .int .i64 0, .int .i64 0, .int .i64 0, .int .i64 0, .int .i64 0, .int .i64 0, .int .i64 0, .int .i64 0, .int .i64 0, .int .i64 0, .int .i64 0, .int .i64 0, .int .i64 0, .int .i64 0, .int .i64 0, .bool false, .bool false, .bool false] 87)) K Q = K (a.put d undef) ((w.alloc o).alloc (.cells #[.int .i64 0, .int .i64 0, .int .i64 0, .int .i64 0, .int .i64 0, .int .i64 0, .int .i64 0, .int .i64 0, .int .i64 0, .int .i64 0, .int .i64 0, .int .i64 0, .int .i64 0, .int .i64 0, .int .i64 0, .int .i64 0, .int .i64 0, .int .i64 0, .bool false, .bool false, .bool false] 87)) := store_zero hx hy (blk_new' (w.alloc o) _ (by simp))
attribute [local go_sem ↓] stA2
theorem setCells_size (g : Nat) (vs : List Value) : ∀ (w : World) (o : Nat), (w.setCells g o vs).heap.size = w.heap.size := by
  induction vs with
  | nil => intro w o; rfl
  | cons v r ih => intro w o; exact (ih (w.setCell ⟨g, o, none⟩ v) (o + 1)).trans (by simp [World.setCell])
theorem wpList_storeN {ops : Array Oper} {rest : List Oper} {op : Oper} {a : Act} {w : World} {Q : Exit → Act → World → Prop} (hgd : op.guard = none) (x y : Operand) (ho : op.op = .store 87 x y)
    (g : Nat) (S S' : Bnds) (hx : a.eval x = .pointer (some ⟨g, 0, none⟩)) (hy : a.eval y = .agg (bcells S)) (hA : AtS g S' w)
    (h : ∀ w', AtS g S w' → (∀ B a, Below B a w → B ≤ g → Below B a w') → (∀ (k : Nat) (o : Obj), w.heap[k]? = some o → k ≠ g → w'.heap[k]? = some o) → w'.heap.size = w.heap.size → wpList Try.prog ops Q rest (a.put op.dst undef) w') : wpList Try.prog ops Q (op :: rest) a w :=
  wpList_storeS hgd x y ho g S S' hx hy hA (h _ hA.sets (fun B a hb hg => below_sets _ hb hg 0) (fun k o hk hne => blk_setsFar _ hk hne 0) (setCells_size _ _ _ _))
/-- What standing hands back. -/
def stS (ls lo hi : List Int) : Bnds := if canV ls lo hi = true then bfind ls lo hi else bnds0
set_option maxRecDepth 100000 in
set_option maxHeartbeats 4000000 in
theorem standing_any (a0 a1 a2 : Option Addr) (n0 c0 n1 c1 n2 c2 : Nat) (ls lo hi : List Int) (w : World) (h : IsB a0 a1 a2 n0 c0 n1 c1 n2 c2 ls lo hi w) :
    Calls Try.prog 67 #[.agg #[.slice a0 n0 c0, .slice a1 n1 c1, .slice a2 n2 c2]] w fun e w' => e = .returned (.tuple #[.agg (bcells (stS ls lo hi)), .int .i64 (csC ls lo hi)]) ∧ Below w.heap.size w w' := by
  have H := Lib.hid h
  cases g : blkB ls lo hi
  · rw [cs_bad g, show stS ls lo hi = bnds0 by simp [stS, canV_bad g]]
    have G := Lib.hid g
    clear h g
    go_enter Try.func67, Try.ntmps67
    go_wp2_with fail
    refine (validBlocks_any _ _ _ _ _ _ _ _ _ _ _ _ _ (H.out.below (by repeat (first | exact Below.refl _ _ | assumption | refine Below.drew ?_ | refine below_drewN ?_ _ | refine Below.alloc ?_ (by first | omega | (simp; done) | (simp; omega)) _ | refine Below.setCell ?_ (by first | omega | (simp; done) | (simp; omega)) _)))).mono ?_
    rintro e w1 ⟨rfl, hb1⟩
    have hz1 := hb1.size
    simp at hz1
    have ha1 : Below w.heap.size w w1 := below_call (by repeat (first | exact Below.refl _ _ | assumption | refine Below.drew ?_ | refine below_drewN ?_ _ | refine Below.alloc ?_ (by first | omega | (simp; done) | (simp; omega)) _ | refine Below.setCell ?_ (by first | omega | (simp; done) | (simp; omega)) _)) hb1
    have hR : AtS (w.heap.size + 1) bnds0 w1 := blk_call (blk_new' _ _ (by simp)) hb1
    rw [G.out]
    go_wp2_with (refine wpList_storeS (by rfl) _ _ (by rfl) (w.heap.size + 1) bnds0 bnds0 (by rfl) (by rfl) hR ?_)
    (try simp only [Exit.inBlock, Exit.then])
    refine bodyPost_ret (results_cell_slot (p := 2) (q := 3) (ty := 87) rfl _ _ (w.heap.size + 1) 87 (bcells bnds0) (0, 0) _ _ rfl hR.sets Try.underlying87 rfl (by rw [bcells_size]; exact size_bounds) rfl) rfl ?_
    exact ⟨rfl, below_sets _ ha1 (by omega) 0⟩
  · have HGD := Lib.hid (bfind_good g)
    have HBO := Lib.hid (fun W hW => boundsOf_any a0 a1 a2 n0 c0 n1 c1 n2 c2 ls lo hi W hW g)
    have hS := canV_eq g
    have hc := @cs_cracked ls lo hi g
    have hc' := @cs_ok ls lo hi g
    have hst : stS ls lo hi = if canV ls lo hi = true then bfind ls lo hi else bnds0 := rfl
    rw [hS] at hst
    clear hS
    generalize bfind ls lo hi = S at *
    have HST := Lib.hid (fun W => standsI_any S W HGD.out)
    have G := Lib.hid g
    have key : ∀ B, standB S = B → Calls Try.prog 67 #[.agg #[.slice a0 n0 c0, .slice a1 n1 c1, .slice a2 n2 c2]] w fun e w' => e = .returned (.tuple #[.agg (bcells (if B = true then S else bnds0)), .int .i64 (if B = true then 0 else 10)]) ∧ Below w.heap.size w w' := by
      intro B hB
      rw [hB] at HST
      clear hc hc' hst h g HGD hB
      go_enter Try.func67, Try.ntmps67
      go_wp2_with fail
      refine (validBlocks_any _ _ _ _ _ _ _ _ _ _ _ _ _ (H.out.below (by repeat (first | exact Below.refl _ _ | assumption | refine Below.drew ?_ | refine below_drewN ?_ _ | refine Below.alloc ?_ (by first | omega | (simp; done) | (simp; omega)) _ | refine Below.setCell ?_ (by first | omega | (simp; done) | (simp; omega)) _)))).mono ?_
      rintro e w1 ⟨rfl, hb1⟩
      have hz1 := hb1.size
      simp at hz1
      have ha1 : Below w.heap.size w w1 := below_call (by repeat (first | exact Below.refl _ _ | assumption | refine Below.drew ?_ | refine below_drewN ?_ _ | refine Below.alloc ?_ (by first | omega | (simp; done) | (simp; omega)) _ | refine Below.setCell ?_ (by first | omega | (simp; done) | (simp; omega)) _)) hb1
      have hF : Hid (w1.heap[w.heap.size]? = some _) := Lib.hid (blk_call (blk_alloc (blk_new w _)) hb1)
      have f0 := cellOf hF.out 0
      have f1 := cellOf hF.out 1
      have f2 := cellOf hF.out 2
      simp at f0 f1 f2
      have HR : Hid (AtS (w.heap.size + 1) bnds0 w1) := Lib.hid (blk_call (blk_new' _ _ (by simp)) hb1)
      rw [G.out]
      go_wp2_with fail
      refine (HBO.out _ (H.out.below (by repeat (first | exact Below.refl _ _ | assumption | refine Below.drew ?_ | refine below_drewN ?_ _ | refine Below.alloc ?_ (by first | omega | (simp; done) | (simp; omega)) _ | refine Below.setCell ?_ (by first | omega | (simp; done) | (simp; omega)) _)))).mono ?_
      rintro e w2 ⟨rfl, hb2⟩
      have hz2 := hb2.size
      have ha2 : Below w.heap.size w w2 := below_call (by repeat (first | exact Below.refl _ _ | assumption | refine Below.drew ?_ | refine below_drewN ?_ _ | refine Below.alloc ?_ (by first | omega | (simp; done) | (simp; omega)) _ | refine Below.setCell ?_ (by first | omega | (simp; done) | (simp; omega)) _)) hb2
      have HR2 : Hid (AtS (w.heap.size + 1) bnds0 w2) := Lib.hid (blk_call HR.out hb2)
      clear f0 f1 f2
      have hne : ¬ w2.heap.size < w.heap.size + 1 := by omega
      have hba : Below w.heap.size w (w2.alloc (.cells (bcells bnds0) 87)) := ha2.alloc ha2.size _
      have hra : AtS (w.heap.size + 1) bnds0 (w2.alloc (.cells (bcells bnds0) 87)) := blk_alloc HR2.out
      have hAa : AtS w2.heap.size bnds0 (w2.alloc (.cells (bcells bnds0) 87)) := blk_new _ _
      go_wp2_with (first | (refine wpList_loadS (by rfl) _ (by rfl) w2.heap.size S (by rfl) hA3 ?_) | (refine wpList_storeN (by rfl) _ _ (by rfl) w2.heap.size S bnds0 (by rfl) (by rfl) hAa ?_; intro w3 hA3 hb3 hf3 hs3; (have ha3 := hb3 _ _ hba (by omega)); (have hR3 : AtS (w.heap.size + 1) bnds0 w3 := hf3 _ _ hra (by omega)); clear hb3 hf3 hs3 hba hra hAa))
      refine (HST.out _).mono ?_
      rintro e w4 ⟨rfl, hb4⟩
      have ha4 : Below w.heap.size w w4 := below_call ha3 hb4
      have hA4 : AtS w2.heap.size S w4 := blk_call hA3 hb4
      have hR4 : AtS (w.heap.size + 1) bnds0 w4 := blk_call hR3 hb4
      clear hA3 hR3
      cases B
      · go_wp2_with (refine wpList_storeS (by rfl) _ _ (by rfl) (w.heap.size + 1) bnds0 bnds0 (by rfl) (by rfl) hR4 ?_)
        (try simp only [Exit.inBlock, Exit.then])
        refine bodyPost_ret (results_cell_slot (p := 2) (q := 3) (ty := 87) rfl _ _ (w.heap.size + 1) 87 (bcells bnds0) (0, 0) _ _ rfl hR4.sets Try.underlying87 rfl (by rw [bcells_size]; exact size_bounds) rfl) rfl ?_
        exact ⟨rfl, below_sets _ ha4 (by omega) 0⟩
      · go_wp2_with (first | (refine wpList_loadS (by rfl) _ (by rfl) w2.heap.size S (by rfl) hA4 ?_) | (refine wpList_storeS (by rfl) _ _ (by rfl) (w.heap.size + 1) S bnds0 (by rfl) (by rfl) hR4 ?_))
        (try simp only [Exit.inBlock, Exit.then])
        refine bodyPost_ret (results_cell_slot (p := 2) (q := 3) (ty := 87) rfl _ _ (w.heap.size + 1) 87 (bcells S) (0, 0) _ _ rfl hR4.sets Try.underlying87 rfl (by rw [bcells_size]; exact size_bounds) rfl) rfl ?_
        exact ⟨rfl, below_sets _ ha4 (by omega) 0⟩
    cases hB : standB S
    · have := key false hB
      rw [hst, hc hB, hB]
      exact this
    · have := key true hB
      rw [hst, hc' hB, hB]
      exact this
end Go.Proofs.Ytklhaanapembdaa
