/- For all arguments, the program's PieceText returns what the reference's PieceText returns (the tied card of FnExactPieceText); condition, tied to the text: the library's tables are laid as its text lays them. -/
import Derived.Test.YtgnalhnbdpigdaaDoorPieceT
import Derived.Test.YtgnalhnbdpigdaaDoorTie
import Derived.Test.YtgnalhnbdpigdaaDoorCards
import Derived.LaidMore
import Derived.Lay
import Derived.SevenTiedAt
import Derived.Stop.Joined
import Derived.Stop.LaidErr
import Derived.MakeChecks
namespace Go.Proofs.YtgnalhnbdpigdaaDoor
open Go.ChangeShapes Go.WideShapes Go.ChangeAt Go.RowKit
set_option maxHeartbeats 4000000 in
set_option linter.unusedVariables false in
theorem exactPieceText_walk (l : Int) (l0 : -9223372036854775808 ≤ l) (u0 : l ≤ 9223372036854775807) (h : Int) (l1 : -9223372036854775808 ≤ h) (u1 : h ≤ 9223372036854775807) (k : Int) (l2 : -9223372036854775808 ≤ k) (u2 : k ≤ 9223372036854775807) (w : World) (ht : Tab w) :
    Calls Tryd.prog 3 #[.agg #[.int .i64 l, .int .i64 h, .int .i64 k]] w fun e w' => e = .returned (.bool true) ∧ Below w.heap.size w w' := by
  have HT := Lib.hid ht
  clear ht
  go_enter Tryd.func3, Tryd.ntmps3
  go_wp2_with fail
  refine (toPiece_any l h k _).mono ?_
  rintro e1 w1 ⟨rfl, hb1⟩
  obtain ⟨hc1, hf1⟩ := bcell hb1
  have hz1 := hb1.size
  try simp at hz1
  have hz1_0 : w.heap.size < w1.heap.size := by omega
  have ha1 : Below w.heap.size w w1 := below_call (by repeat (first | exact Below.refl _ _ | assumption | refine Below.drew ?_ | refine below_drewN ?_ _ | refine Below.alloc ?_ (by first | omega | (simp; done) | (simp; omega)) _ | refine Below.setCell ?_ (by first | omega | (simp; done) | (simp; omega)) _)) hb1
  go_wp2_with fail
  refine (specPieceText_any l h k _).mono ?_
  rintro e2 w2 ⟨rfl, hb2⟩
  have hy2 := hb2.size
  replace hb2 := below_call hb1 hb2
  clear hc1 hf1
  obtain ⟨hc2, hf2⟩ := bcell hb2
  have hz2 := hb2.size
  try simp at hz2
  have hz2_0 : w.heap.size < w2.heap.size := by omega
  have ha2 : Below w.heap.size w w2 := below_call (by repeat (first | exact Below.refl _ _ | assumption | refine Below.drew ?_ | refine below_drewN ?_ _ | refine Below.alloc ?_ (by first | omega | (simp; done) | (simp; omega)) _ | refine Below.setCell ?_ (by first | omega | (simp; done) | (simp; omega)) _)) hb2
  have r2_0 : w2.cell? ⟨w.heap.size, 0, none⟩ = some (.int .i64 l) := by simp [hc2, go_sem]
  have r2_1 : w2.cell? ⟨w.heap.size, 1, none⟩ = some (.int .i64 h) := by simp [hc2, go_sem]
  have r2_2 : w2.cell? ⟨w.heap.size, 2, none⟩ = some (.int .i64 k) := by simp [hc2, go_sem]
  clear hc2 hf2
  go_wp2_with fail
  refine (toPiece_any l h k _).mono ?_
  rintro e w3 ⟨rfl, hb3⟩
  have ha3 := below_call ha2 hb3
  go_wp2_with fail
  refine (pieceText_any l h k _ (HT.out.below ha3)).mono ?_
  rintro e w4 ⟨rfl, hb4⟩
  have ha4 := below_call ha3 hb4
  clear r2_0 r2_1 r2_2
  have hnn : ((ptS l h k).toList != (ptS l h k).toList) = false := by simp
  generalize ptS l h k = t at *
  go_wp2
  go_ret
  exact ⟨rfl, ha4⟩
theorem tab_of_laid_FnExactPieceText {W : World} (h : laidMetH Tryd.prog Rows.fnExactPieceTextRow.laid W) : Lib.TabIs Tryd.prog W "internal/strconv.uint64pow10" .u64 Lib.pow10Tab := by
  rw [MakeChecks.laidMetH_plain _ _ _ (by kernel_rfl)] at h
  exact Lib.tabIs_of_head (rest := []) (show Tryd.prog.globalNamed "internal/strconv.uint64pow10" = some 0 by kernel_rfl) (t := 98) (e := 84) (n := 20) (by kernel_rfl) Tryd.underlying98 Tryd.underlying84 (by kernel_rfl) (by kernel_rfl) (laidMet.tail (laidMet.tail h))
/-! ### The row's step: the arguments are opened, the walk is called, the arguments read as before. -/
set_option maxRecDepth 100000 in
set_option maxHeartbeats 1000000 in
set_option linter.unusedVariables false in
theorem lifted_FnExactPieceText (os : Os) (started : os.Started) (H : Type) (enc : TypeId × Value → H) :
    ReturnsInHanded {} Tryd.checked os 3 .any (fun w args => (Rows.fnExactPieceTextSpec.pre enc Tryd.prog Tryd.f3 Rows.fnExactPieceTextRow.domain false w args ∧ laidMetH Tryd.prog Rows.fnExactPieceTextRow.laid w) ∧ sizedMet enc Tryd.prog Tryd.f3 (OpenSpec.ofChange Rows.fnExactPieceTextSpec) false w args) (Rows.fnExactPieceTextSpec.post enc Tryd.prog Tryd.f3 false true false false) := by
  refine returnsInHanded_of_change_and (C := Tryd.checked) (X := fun w _ => laidMetH Tryd.prog Rows.fnExactPieceTextRow.laid w) (fun _ _ _ hh h => h.of_heap hh) ownNone started (by kernel_rfl) Tryd.func3
    (ChangeSpec.witness_shaped (enc := enc) (C := Tryd.checked) (os := os) (X := fun w _ => laidMetH Tryd.prog Rows.fnExactPieceTextRow.laid w) false (World.laidAll Tryd.prog os Rows.fnExactPieceTextRow.laid) #[.agg #[.int .i64 0, .int .i64 0, .int .i64 0]] 8 (World.laidAll_os _ _ _)
      (World.shaped_of_ZipB (by kernel_rfl) (by kernel_rfl)) (by kernel_rfl) (by kernel_rfl) (by kernel_rfl)
      (by rw [MakeChecks.laidMetH_plain _ _ _ (by kernel_rfl)]; exact laidMet_laidAll _ (by kernel_rfl) (by kernel_rfl))) ?_
  intro W base args ds gs before hval0 hW hcnd _ hL _
  have hTab := tab_of_laid_FnExactPieceText hL
  have hval : ∀ (j : Nat) t v, Tryd.f3.params[j]? = some t → args[j]? = some v → Value.okWide Tryd.prog W .any base t v := hval0
  have hW' := hW
  obtain ⟨p, q, hA0, hV, rfl, hfz, hnd⟩ := hW
  have hA : DataW.TrodAll enc Tryd.prog W 0 (fun _ => true) true Tryd.f3.params.toList args.toList ds p := hA0
  rw [Tryd.params3] at hA hval
  obtain ⟨v0, vs0, d0, ds0, p0, q0, hargs, rfl, rfl, h0, r0⟩ := trodAll_cons hA
  obtain ⟨rfl, rfl, rfl⟩ := trodAll_nil r0
  obtain rfl : args = #[v0] := by cases args; simp_all
  obtain ⟨rfl, rfl⟩ := trodVars_none hV
  have k0 := h0
  have lt0 : ∀ x ∈ p0, x.block < W.heap.size := by obtain ⟨m, hm⟩ := k0; exact DataW.trod_lt m _ _ _ hm
  obtain ⟨c0_0, c0_1, c0_2, y0_0, y0_1, y0_2, m0, rfl, _, _, z0_0, z0_1, z0_2⟩ := Joins.open_agg3 Tryd.underlying23 (by kernel_rfl) (by kernel_rfl) (hval 0 23 v0 rfl rfl) h0
  obtain ⟨a0_0, e0_0, _, w0_0⟩ := DataW.trod_int Tryd.underlying2 z0_0
  simp only [List.cons.injEq, and_true] at e0_0
  subst e0_0
  obtain ⟨a0_1, e0_1, _, w0_1⟩ := DataW.trod_int Tryd.underlying2 z0_1
  simp only [List.cons.injEq, and_true] at e0_1
  subst e0_1
  obtain ⟨a0_2, e0_2, _, w0_2⟩ := DataW.trod_int Tryd.underlying2 z0_2
  simp only [List.cons.injEq, and_true] at e0_2
  subst e0_2
  clear hA0 hval0
  refine (exactPieceText_walk a0_0 (bounds_i64 w0_0).1 (bounds_i64 w0_0).2 a0_1 (bounds_i64 w0_1).1 (bounds_i64 w0_1).2 a0_2 (bounds_i64 w0_2).1 (bounds_i64 w0_2).2 W hTab).mono fun e W' ⟨he, bel⟩ => ?_
  subst he
  exact ⟨_, rfl, _, _, _, [], _, [], hW', trodAll_mk1 (shut_bool Tryd.underlying4 _), (trodAll_cons_mk (Below.trod laidOut (by kernel_rfl) (of_decide_eq_true (by kernel_rfl)) k0 bel lt0) trodAll_mk0), rfl, bel.frame _, fun h => by cases h⟩

/-- The statement, proved. -/
theorem fnExactPieceText_holds : Rows.FnExactPieceTextSaid :=
  OpenClaim.holds_of_wide 3 Tryd.f3 rfl rfl rfl rfl rfl rfl rfl ⟨rfl, rfl, rfl, rfl, rfl⟩ rfl rfl rfl rfl rfl (by kernel_rfl) Tryd.func3 (by kernel_rfl)
    (of_decide_eq_true (by kernel_rfl)) (by unfold Func.isWrapper; first | (rw [if_pos (by decide +kernel)]; kernel_rfl) | (rw [if_neg (by decide +kernel)]; exact ⟨rfl, rfl⟩))
    (fun os started H enc _ => lifted_FnExactPieceText os started H enc)
/-- The tied card, proved. -/
theorem fnExactPieceText_card_holds : Rows.FnExactPieceTextCardSaid :=
  Claim7.holds_tied_plain_at .later [] [.data, .data, .data] true (true, "c9ddf004dab8e82d1d880456e90d4d7a08b5798c9e20bdc78f5f65987a0e161b") false fnExactPieceText_holds (fun _ h => by cases h) (by kernel_rfl) (fun _ h => by cases h) fnExactPieceText_row_tie rfl ⟨rfl, rfl⟩ (by kernel_rfl) rfl
    (fun f fn hf hfn => by
      obtain rfl : f = 3 := Option.some.inj ((show Tryd.prog.funcNamed "loop.example/g01042/laws.FnExactPieceText" = some 3 by kernel_rfl).symm.trans hf) |>.symm
      obtain rfl : fn = Tryd.f3 := (Option.some.inj (Tryd.func3.symm.trans hfn)).symm
      exact ⟨by kernel_rfl, fun j t ht => by
        rw [Tryd.params3] at ht
        have hm : t ∈ [23] := by simpa using Array.mem_of_getElem? ht
        have hall : ([23].all fun u => !Tryd.prog.wantsStandIn u) = true := by kernel_rfl
        exact (show Tryd.prog.wantsStandIn t = false by simpa using List.all_eq_true.1 hall t hm)⟩)
    (by kernel_rfl)
end Go.Proofs.YtgnalhnbdpigdaaDoor
