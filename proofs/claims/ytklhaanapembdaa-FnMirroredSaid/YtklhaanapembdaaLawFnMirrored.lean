/- For all bytes, the law FnMirrored holds: an arch from the other side stands alike, with the same thrust; no condition. -/
import Derived.Test.YtklhaanapembdaaThrL
import Derived.Test.YtklhaanapembdaaThrA
import Derived.Test.YtklhaanapembdaaMirI
import Derived.Test.YtklhaanapembdaaCanI
import Derived.Test.YtklhaanapembdaaLeastI
namespace Go.Proofs.Ytklhaanapembdaa
set_option linter.unusedVariables false
open Go.ChangeShapes Go.WideShapes Go.ChangeAt Go.RowKit

theorem mb_ok {ls lo hi : List Int} (g : blkB ls lo hi = true) : mbA ls lo hi = ls.reverse ∧ mbB ls lo hi = lo.reverse ∧ mbC ls lo hi = hi.reverse ∧ momC ls lo hi = 0 := by
  simp [mbA, mbB, mbC, mbO, momC, g]
set_option maxRecDepth 100000 in
set_option maxHeartbeats 4000000 in
theorem mirrored_walk (a : Option Addr) (len cap : Nat) (zs : List Int) (w : World) (h : IsRow .u8 w a len cap zs) :
    Calls Try.prog 10 #[.slice a len cap] w fun e w' => e = .returned (.bool true) ∧ Below w.heap.size w w' := by
  have hm : len ≤ maxLen := Nat.le_trans h.2.1 h.2.2.1
  have HL := Lib.hid (fun W => a2Long_any a none len cap 0 0 W hm (Nat.zero_le _))
  have H := Lib.hid h
  clear h hm
  cases hl : longB len 0
  case true =>
    rw [hl] at HL
    clear hl
    go_enter Try.func10, Try.ntmps10
    go_wp2_with fail
    refine (HL.out _).mono ?_
    rintro e w1 ⟨rfl, rfl⟩
    go_wp2
    go_ret
    exact ⟨rfl, (by repeat (first | exact Below.refl _ _ | assumption | refine Below.drew ?_ | refine below_drewN ?_ _ | refine Below.alloc ?_ (by first | omega | (simp; done) | (simp; omega)) _ | refine Below.setCell ?_ (by first | omega | (simp; done) | (simp; omega)) _))⟩
  case false =>
    rw [hl] at HL
    clear hl
    go_enter Try.func10, Try.ntmps10
    go_wp2_with fail
    refine (HL.out _).mono ?_
    rintro e w1 ⟨rfl, rfl⟩
    go_wp2_with fail
    refine (a2Blocks_any _ _ _ _ _ (H.out.below (by repeat (first | exact Below.refl _ _ | assumption | refine Below.drew ?_ | refine below_drewN ?_ _ | refine Below.alloc ?_ (by first | omega | (simp; done) | (simp; omega)) _ | refine Below.setCell ?_ (by first | omega | (simp; done) | (simp; omega)) _)))).mono ?_
    rintro e w2 ⟨a0, a1, a2, n0, c0, n1, c1, n2, c2, ls, lo, hi, rfl, hv, hsm, hb2, hB2⟩
    obtain ⟨v', ec, e1, e2, e3⟩ := mirror_law hv
    obtain ⟨m1, m2, m3, m4⟩ := mb_ok hv
    obtain ⟨m1', m2', m3', m4'⟩ := mb_ok v'
    obtain ⟨k0, k1, k2⟩ := hb2.len
    have HMI := Lib.hid (fun W hW => mirrorBlocks_any a0 a1 a2 n0 c0 n1 c1 n2 c2 ls lo hi W hW)
    have HCI := Lib.hid (fun W hW => canStand_any a0 a1 a2 n0 c0 n1 c1 n2 c2 ls lo hi W hW)
    have HLI := Lib.hid (fun W hW => leastThrust_any a0 a1 a2 n0 c0 n1 c1 n2 c2 ls lo hi W hW)
    have HMJ := Lib.hid (fun x0 x1 x2 d0 d1 d2 W hW => mirrorBlocks_any x0 x1 x2 n0 d0 n1 d1 n2 d2 ls.reverse lo.reverse hi.reverse W hW)
    have HCJ := Lib.hid (fun x0 x1 x2 d0 d1 d2 W hW => canStand_any x0 x1 x2 n0 d0 n1 d1 n2 d2 ls.reverse lo.reverse hi.reverse W hW)
    have HLJ := Lib.hid (fun x0 x1 x2 d0 d1 d2 W hW => leastThrust_any x0 x1 x2 n0 d0 n1 d1 n2 d2 ls.reverse lo.reverse hi.reverse W hW)
    have HVJ := Lib.hid (fun x0 x1 x2 d0 d1 d2 W hW => specValidBlocks_any x0 x1 x2 n0 d0 n1 d1 n2 d2 ls.reverse lo.reverse hi.reverse W hW)
    rw [m1, m2, m3, m4] at HMI
    rw [m1', m2', m3', m4', List.reverse_reverse, List.reverse_reverse, List.reverse_reverse] at HMJ
    rw [m4] at HCI
    rw [m4', ec] at HCJ
    rw [e1, e2, e3] at HLJ
    rw [v'] at HVJ
    clear v' ec e1 e2 e3 m1 m2 m3 m4 m1' m2' m3' m4' hv hsm
    have K0 := Lib.hid k0
    have K1 := Lib.hid k1
    have K2 := Lib.hid k2
    have KR0 := Lib.hid (show ls.reverse.length = n0 by simpa using k0)
    have KR1 := Lib.hid (show lo.reverse.length = n1 by simpa using k1)
    have KR2 := Lib.hid (show hi.reverse.length = n2 by simpa using k2)
    generalize ls.reverse = lsr at *
    generalize lo.reverse = lor at *
    generalize hi.reverse = hir at *
    clear k0 k1 k2
    generalize canV ls lo hi = cv at *
    generalize csC ls lo hi = cs at *
    generalize ltN ls lo hi = tN at *
    generalize ltD ls lo hi = tD at *
    have HI2 := Lib.hid hb2
    have ha2 : Below w.heap.size w w2 := below_call (by repeat (first | exact Below.refl _ _ | assumption | refine Below.drew ?_ | refine below_drewN ?_ _ | refine Below.alloc ?_ (by first | omega | (simp; done) | (simp; omega)) _ | refine Below.setCell ?_ (by first | omega | (simp; done) | (simp; omega)) _)) hB2
    have hz2 := ha2.size
    clear hb2 hB2
    go_wp2_with fail
    have F1 : Hid ((w2.alloc (.cells #[.slice a0 n0 c0, .slice a1 n1 c1, .slice a2 n2 c2] 26)).heap[w2.heap.size]? = some _) := Lib.hid (blk_new _ _)
    refine (HMI.out _ (HI2.out.below (by repeat (first | exact Below.refl _ _ | assumption | refine Below.drew ?_ | refine below_drewN ?_ _ | refine Below.alloc ?_ (by first | omega | (simp; done) | (simp; omega)) _ | refine Below.setCell ?_ (by first | omega | (simp; done) | (simp; omega)) _)))).mono ?_
    rintro e w3 hN3
    obtain ⟨x0, x1, x2, d0, d1, d2, rfl, hO3, hb3⟩ := hN3.toldT KR0.out KR1.out KR2.out
    have hb3' : Below w2.heap.size w2 w3 := below_call (by repeat (first | exact Below.refl _ _ | assumption | refine Below.drew ?_ | refine below_drewN ?_ _ | refine Below.alloc ?_ (by first | omega | (simp; done) | (simp; omega)) _ | refine Below.setCell ?_ (by first | omega | (simp; done) | (simp; omega)) _)) hb3
    have HI3 := Lib.hid (HI2.out.below hb3')
    have HJ3 := Lib.hid hO3.isB
    have F3 := Lib.hid (blk_call F1.out hb3)
    have ha3 := below_call ha2 hb3'
    have hz3 := hb3'.size
    have hz3' := hb3.size
    simp at hz3'
    clear hb3 hb3' hO3 HI2 F1 hN3
    obtain ⟨f0, f1, f2, ff⟩ : w3.cell? ⟨w2.heap.size, 0, none⟩ = some (.slice a0 n0 c0) ∧ w3.cell? ⟨w2.heap.size, 1, none⟩ = some (.slice a1 n1 c1) ∧ w3.cell? ⟨w2.heap.size, 2, none⟩ = some (.slice a2 n2 c2) ∧ True := by
      refine ⟨?_, ?_, ?_, trivial⟩ <;> (rw [cellOf F3.out]; rfl)
    go_wp2_with fail
    clear f0 f1 f2
    have G3 : Hid ((w3.alloc (.cells #[.slice x0 n0 d0, .slice x1 n1 d1, .slice x2 n2 d2] 26)).heap[w3.heap.size]? = some _) := Lib.hid (blk_new _ _)
    refine (HVJ.out _ _ _ _ _ _ _ (HJ3.out.below (by repeat (first | exact Below.refl _ _ | assumption | refine Below.drew ?_ | refine below_drewN ?_ _ | refine Below.alloc ?_ (by first | omega | (simp; done) | (simp; omega)) _ | refine Below.setCell ?_ (by first | omega | (simp; done) | (simp; omega)) _)))).mono ?_
    rintro e w4 ⟨rfl, hb4⟩
    have hb4' : Below w3.heap.size w3 w4 := below_call (by repeat (first | exact Below.refl _ _ | assumption | refine Below.drew ?_ | refine below_drewN ?_ _ | refine Below.alloc ?_ (by first | omega | (simp; done) | (simp; omega)) _ | refine Below.setCell ?_ (by first | omega | (simp; done) | (simp; omega)) _)) hb4
    have HI4 := Lib.hid (HI3.out.below hb4')
    have HJ4 := Lib.hid (HJ3.out.below hb4')
    have F4 := Lib.hid (blk_call F3.out hb4')
    have G4 := Lib.hid (blk_call G3.out hb4)
    have ha4 := below_call ha3 hb4'
    have hz4 := hb4'.size
    have hz4' := hb4.size
    simp at hz4'
    clear hb4 hb4' HI3 HJ3 F3 G3
    have f0 := cellOf F4.out 0
    have f1 := cellOf F4.out 1
    have f2 := cellOf F4.out 2
    simp at f0 f1 f2
    go_wp2_with fail
    clear f0 f1 f2
    refine (HCI.out _ HI4.out).mono ?_
    rintro e w5 ⟨rfl, hb5⟩
    have HI5 := Lib.hid (HI4.out.below hb5)
    have HJ5 := Lib.hid (HJ4.out.below hb5)
    have F5 := Lib.hid (blk_call F4.out hb5)
    have G5 := Lib.hid (blk_call G4.out hb5)
    have ha5 := below_call ha4 hb5
    have hz5 := hb5.size
    clear hb5 HI4 HJ4 F4 G4
    have f0 := cellOf G5.out 0
    have f1 := cellOf G5.out 1
    have f2 := cellOf G5.out 2
    simp at f0 f1 f2
    go_wp2_with fail
    clear f0 f1 f2
    refine (HCJ.out _ _ _ _ _ _ _ HJ5.out).mono ?_
    rintro e w6 ⟨rfl, hb6⟩
    have HI6 := Lib.hid (HI5.out.below hb6)
    have HJ6 := Lib.hid (HJ5.out.below hb6)
    have F6 := Lib.hid (blk_call F5.out hb6)
    have G6 := Lib.hid (blk_call G5.out hb6)
    have ha6 := below_call ha5 hb6
    have hz6 := hb6.size
    clear hb6 HI5 HJ5 F5 G5
    have f0 := cellOf F6.out 0
    have f1 := cellOf F6.out 1
    have f2 := cellOf F6.out 2
    simp at f0 f1 f2
    go_wp2_with fail
    clear f0 f1 f2
    refine (HLI.out _ HI6.out).mono ?_
    rintro e w7 ⟨rfl, hb7⟩
    have HI7 := Lib.hid (HI6.out.below hb7)
    have HJ7 := Lib.hid (HJ6.out.below hb7)
    have F7 := Lib.hid (blk_call F6.out hb7)
    have G7 := Lib.hid (blk_call G6.out hb7)
    have ha7 := below_call ha6 hb7
    have hz7 := hb7.size
    clear hb7 HI6 HJ6 F6 G6
    have lG7 : w3.heap.size < w7.heap.size := blk_lt G7.out
    have f0 := cellOf G7.out 0
    have f1 := cellOf G7.out 1
    have f2 := cellOf G7.out 2
    simp at f0 f1 f2
    go_wp2_with fail
    clear f0 f1 f2
    have P7 : Hid ((w7.alloc (.cells #[.int .i64 tN, .int .i64 tD] 31)).heap[w7.heap.size]? = some _) := Lib.hid (blk_new _ _)
    refine (HLJ.out _ _ _ _ _ _ _ (HJ7.out.below (by repeat (first | exact Below.refl _ _ | assumption | refine Below.drew ?_ | refine below_drewN ?_ _ | refine Below.alloc ?_ (by first | omega | (simp; done) | (simp; omega)) _ | refine Below.setCell ?_ (by first | omega | (simp; done) | (simp; omega)) _)))).mono ?_
    rintro e w8 ⟨rfl, hb8⟩
    have hb8' : Below w7.heap.size w7 w8 := below_call (by repeat (first | exact Below.refl _ _ | assumption | refine Below.drew ?_ | refine below_drewN ?_ _ | refine Below.alloc ?_ (by first | omega | (simp; done) | (simp; omega)) _ | refine Below.setCell ?_ (by first | omega | (simp; done) | (simp; omega)) _)) hb8
    have HI8 := Lib.hid (HI7.out.below hb8')
    have HJ8 := Lib.hid (HJ7.out.below hb8')
    have F8 := Lib.hid (blk_call F7.out hb8')
    have G8 := Lib.hid (blk_call G7.out hb8')
    have P8 := Lib.hid (blk_call P7.out hb8)
    have ha8 := below_call ha7 hb8'
    have hz8 := hb8'.size
    have hz8' := hb8.size
    simp at hz8'
    clear hb8 hb8' HI7 HJ7 F7 G7 P7
    have lG8 : w3.heap.size < w8.heap.size := blk_lt G8.out
    have f0 := cellOf G8.out 0
    have f1 := cellOf G8.out 1
    have f2 := cellOf G8.out 2
    simp at f0 f1 f2
    go_wp2_with fail
    clear f0 f1 f2
    have Q8 : Hid ((w8.alloc (.cells #[.int .i64 tN, .int .i64 tD] 31)).heap[w8.heap.size]? = some _) := Lib.hid (blk_new _ _)
    refine (HMJ.out _ _ _ _ _ _ _ (HJ8.out.below (by repeat (first | exact Below.refl _ _ | assumption | refine Below.drew ?_ | refine below_drewN ?_ _ | refine Below.alloc ?_ (by first | omega | (simp; done) | (simp; omega)) _ | refine Below.setCell ?_ (by first | omega | (simp; done) | (simp; omega)) _)))).mono ?_
    rintro e w9 hN9
    obtain ⟨y0, y1, y2, e0, e1, e2, rfl, hO9, hb9⟩ := hN9.toldT K0.out K1.out K2.out
    have hb9' : Below w8.heap.size w8 w9 := below_call (by repeat (first | exact Below.refl _ _ | assumption | refine Below.drew ?_ | refine below_drewN ?_ _ | refine Below.alloc ?_ (by first | omega | (simp; done) | (simp; omega)) _ | refine Below.setCell ?_ (by first | omega | (simp; done) | (simp; omega)) _)) hb9
    have HI9 := Lib.hid (HI8.out.below hb9')
    have HN9 := Lib.hid hO9.isB
    have F9 := Lib.hid (blk_call F8.out hb9')
    have P9 := Lib.hid (blk_call P8.out hb9')
    have Q9 := Lib.hid (blk_call Q8.out hb9)
    have ha9 := below_call ha8 hb9'
    have hz9 := hb9'.size
    have hz9' := hb9.size
    simp at hz9'
    clear hb9 hb9' hO9 HI8 HJ8 F8 G8 P8 Q8 hN9
    have f0 := cellOf F9.out 0
    have f1 := cellOf F9.out 1
    have f2 := cellOf F9.out 2
    have p0 := cellOf P9.out 0
    have p1 := cellOf P9.out 1
    have q0 := cellOf Q9.out 0
    have q1 := cellOf Q9.out 1
    simp at f0 f1 f2 p0 p1 q0 q1
    have l1 : w2.heap.size < w9.heap.size := blk_lt F9.out
    have l2 : w7.heap.size < w9.heap.size := blk_lt P9.out
    have l3 : w8.heap.size < w9.heap.size := blk_lt Q9.out
    go_wp2_with fail
    clear f0 f1 f2 p0 p1 q0 q1
    have N9 : Hid ((w9.alloc (.cells #[.slice y0 n0 e0, .slice y1 n1 e1, .slice y2 n2 e2] 26)).heap[w9.heap.size]? = some _) := Lib.hid (blk_new _ _)
    refine (a2Same_same _ _ _ _ _ _ _ (HN9.out.1.below (by repeat (first | exact Below.refl _ _ | assumption | refine Below.drew ?_ | refine below_drewN ?_ _ | refine Below.alloc ?_ (by first | omega | (simp; done) | (simp; omega)) _ | refine Below.setCell ?_ (by first | omega | (simp; done) | (simp; omega)) _))) (HI9.out.1.below (by repeat (first | exact Below.refl _ _ | assumption | refine Below.drew ?_ | refine below_drewN ?_ _ | refine Below.alloc ?_ (by first | omega | (simp; done) | (simp; omega)) _ | refine Below.setCell ?_ (by first | omega | (simp; done) | (simp; omega)) _)))).mono ?_
    rintro e wa ⟨rfl, hba⟩
    have hba' : Below w9.heap.size w9 wa := below_call (by repeat (first | exact Below.refl _ _ | assumption | refine Below.drew ?_ | refine below_drewN ?_ _ | refine Below.alloc ?_ (by first | omega | (simp; done) | (simp; omega)) _ | refine Below.setCell ?_ (by first | omega | (simp; done) | (simp; omega)) _)) hba
    have HIa := Lib.hid (HI9.out.below hba')
    have HNa := Lib.hid (HN9.out.below hba')
    have Fa := Lib.hid (blk_call F9.out hba')
    have Na := Lib.hid (blk_call N9.out hba)
    have haa := below_call ha9 hba'
    clear hba hba' HI9 HN9 F9 N9 P9 Q9
    have f0 := cellOf Fa.out 0
    have f1 := cellOf Fa.out 1
    have f2 := cellOf Fa.out 2
    have r0 := cellOf Na.out 0
    have r1 := cellOf Na.out 1
    have r2 := cellOf Na.out 2
    simp at f0 f1 f2 r0 r1 r2
    go_wp2_with fail
    refine (a2Same_same _ _ _ _ _ _ _ HNa.out.2.1 HIa.out.2.1).mono ?_
    rintro e wb ⟨rfl, hbb⟩
    have HIb := Lib.hid (HIa.out.below hbb)
    have HNb := Lib.hid (HNa.out.below hbb)
    have Fb := Lib.hid (blk_call Fa.out hbb)
    have Nb := Lib.hid (blk_call Na.out hbb)
    have hab := below_call haa hbb
    clear hbb HIa HNa Fa Na f0 f1 f2 r0 r1 r2
    have f2 := cellOf Fb.out 2
    have r2 := cellOf Nb.out 2
    simp at f2 r2
    go_wp2_with fail
    refine (a2Same_same _ _ _ _ _ _ _ HNb.out.2.2 HIb.out.2.2).mono ?_
    rintro e wc ⟨rfl, hbc⟩
    have hac := below_call hab hbc
    clear hbc f2 r2
    go_wp2
    go_ret
    exact ⟨rfl, hac⟩
/-! ### The row's step: the arguments are opened, the walk is called, the arguments read as before. -/
set_option maxRecDepth 100000 in
set_option maxHeartbeats 1000000 in
set_option linter.unusedVariables false in
theorem lifted_FnMirrored (os : Os) (started : os.Started) (H : Type) (enc : TypeId × Value → H) :
    ReturnsInHanded {} Try.checked os 10 .any (Rows.fnMirroredSpec.pre6 enc Try.prog Try.f10 Rows.fnMirroredRow.domain false) (Rows.fnMirroredSpec.post enc Try.prog Try.f10 false true false false) := by
  refine returnsInHanded_of_change (C := Try.checked) ownNone started (by kernel_rfl) Try.func10
    (ChangeSpec.witness6 (enc := enc) (C := Try.checked) false ⟨#[], #[.slice none 0 0], []⟩ 8 (by kernel_rfl) (by kernel_rfl) (by kernel_rfl) (by kernel_rfl)) ?_
  intro W base args ds gs before hval0 hW hcnd _
  have hval : ∀ (j : Nat) t v, Try.f10.params[j]? = some t → args[j]? = some v → Value.okWide Try.prog W .any base t v := hval0
  have hW' := hW
  obtain ⟨p, q, hA0, hV, rfl, hfz, hnd⟩ := hW
  have hA : DataW.TrodAll enc Try.prog W 0 (fun _ => true) true Try.f10.params.toList args.toList ds p := hA0
  rw [Try.params10] at hA hval
  obtain ⟨v0, vs0, d0, ds0, p0, q0, hargs, rfl, rfl, h0, r0⟩ := trodAll_cons hA
  obtain ⟨rfl, rfl, rfl⟩ := trodAll_nil r0
  obtain rfl : args = #[v0] := by cases args; simp_all
  obtain ⟨rfl, rfl⟩ := trodVars_none hV
  have k0 := h0
  have lt0 : ∀ x ∈ p0, x.block < W.heap.size := by obtain ⟨m, hm⟩ := k0; exact DataW.trod_lt m _ _ _ hm
  obtain ⟨a0, len0, cap0, rfl⟩ := okWide_slice Try.underlying22 (hval 0 22 v0 rfl rfl)
  obtain ⟨z0, w0⟩ : ∃ zs, IsRow .u8 W a0 len0 cap0 zs := by
    obtain ⟨fuel, hf⟩ := h0
    rcases open_ints Try.underlying22 Try.underlying5 (by kernel_rfl) hf with ⟨hcs, _⟩ | ⟨x, l, c, zs, hcs, _, hl, hm, hz, _, hcell, hwz⟩
    · simp [Value.cells] at hcs
      obtain ⟨rfl, rfl, rfl⟩ := hcs
      exact ⟨[], isRow_nil⟩
    · simp [Value.cells] at hcs
      obtain ⟨rfl, rfl, rfl⟩ := hcs
      exact ⟨zs.take len0, isRow_mk hl hm (by simpa using hz) hcell hwz⟩
  clear hA0 hval0
  refine (mirrored_walk a0 len0 cap0 z0 W w0).mono fun e W' ⟨he, bel⟩ => ?_
  subst he
  exact ⟨_, rfl, _, _, _, [], _, [], hW', trodAll_mk1 (shut_bool Try.underlying4 _), (trodAll_cons_mk (Below.trod laidOut (by kernel_rfl) (of_decide_eq_true (by kernel_rfl)) k0 bel lt0) trodAll_mk0), rfl, bel.frame _, fun h => by cases h⟩

/-- The statement, proved. -/
theorem fnMirrored_holds : Rows.FnMirroredSaid :=
  OpenClaim.holds_of_wide 10 Try.f10 rfl rfl rfl rfl rfl rfl rfl ⟨rfl, rfl, rfl, rfl, rfl⟩ rfl rfl rfl rfl rfl (by kernel_rfl) Try.func10 (by kernel_rfl)
    (of_decide_eq_true (by kernel_rfl)) (by unfold Func.isWrapper; first | (rw [if_pos (by decide +kernel)]; kernel_rfl) | (rw [if_neg (by decide +kernel)]; exact ⟨rfl, rfl⟩))
    (fun os started H enc _ => lifted_FnMirrored os started H enc)
end Go.Proofs.Ytklhaanapembdaa
