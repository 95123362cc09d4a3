/- For all bytes, the law FnThrust holds: the line with the least thrust is a line of thrust, and an arch that is higher outside stands, too, with no more thrust; no condition. -/
import Derived.Test.YtklhaanapembdaaThrT
import Derived.Test.YtklhaanapembdaaThrA
import Derived.Test.YtklhaanapembdaaCanI
import Derived.Test.YtklhaanapembdaaLeastI
import Derived.Test.YtklhaanapembdaaCurvJ
import Derived.Test.YtklhaanapembdaaLotI
import Derived.Test.YtklhaanapembdaaWhyI
import Derived.Test.YtklhaanapembdaaFallI
import Derived.Test.YtklhaanapembdaaIsLineI
import Derived.Test.YtklhaanapembdaaOwn
import Derived.Deep.RegionLaw
import Derived.Deep.AppendLies
import Derived.OwnWalk
import Derived.StillTailTactics
namespace Go.Proofs.Ytklhaanapembdaa
set_option linter.unusedVariables false
set_option linter.unusedSimpArgs false
open Go.ChangeShapes Go.WideShapes Go.ChangeAt Go.RowKit

def mxI (x y : Int) : Int := max x y
theorem mxI_is (x y : Int) : (if x < y then y else x) = mxI x y := by unfold mxI; split <;> omega
theorem mxI_max (x y : Int) : max x y = mxI x y := rfl
theorem mx3 {x y z B : Int} (h1 : x ≤ B) (h2 : y ≤ B) (h3 : z ≤ B) : ¬ B < mxI x (mxI y z) := by unfold mxI; omega
/-- Blocks that lie in memory, read. -/
theorem atB3 {W : World} {g : Nat} {v0 v1 v2 : Value} (h : W.heap[g]? = some (.cells #[v0, v1, v2] 26 (0, 0))) : W.cell? ⟨g, 0, none⟩ = some v0 ∧ W.cell? ⟨g, 1, none⟩ = some v1 ∧ W.cell? ⟨g, 2, none⟩ = some v2 := by
  refine ⟨?_, ?_, ?_⟩ <;> (rw [cellOf h]; rfl)
theorem atF2 {W : World} {g : Nat} {v0 v1 : Value} (h : W.heap[g]? = some (.cells #[v0, v1] 31 (0, 0))) : W.cell? ⟨g, 0, none⟩ = some v0 ∧ W.cell? ⟨g, 1, none⟩ = some v1 := by
  refine ⟨?_, ?_⟩ <;> (rw [cellOf h]; rfl)
theorem wp_hide {P : Program} {C : Code} {Q : Exit → Act → World → Prop} {a : Act} {w : World} (R : World → Prop) (h : R w) (k : ∀ wq, R wq → Code.wp P C Q a wq) : Code.wp P C Q a w := k w h
theorem then_hide {K : Act → World → Prop} {Q : Exit → Act → World → Prop} {e : Exit} {a : Act} {w : World} (R : World → Prop) (h : R w) (k : ∀ wq, R wq → Exit.then K Q e a wq) : Exit.then K Q e a w := k w h
theorem keepA3 {W : World} {a0 a1 a2 : Addr} {v0 v1 v2 : Value} {o : Obj} (h : W.cell? a0 = some v0 ∧ W.cell? a1 = some v1 ∧ W.cell? a2 = some v2) : (W.alloc o).cell? a0 = some v0 ∧ (W.alloc o).cell? a1 = some v1 ∧ (W.alloc o).cell? a2 = some v2 := ⟨keepA h.1, keepA h.2.1, keepA h.2.2⟩
theorem keepAD3 {W : World} {a0 a1 a2 : Addr} {v0 v1 v2 : Value} {o : Obj} (h : W.cell? a0 = some v0 ∧ W.cell? a1 = some v1 ∧ W.cell? a2 = some v2) : (W.alloc o).drew.cell? a0 = some v0 ∧ (W.alloc o).drew.cell? a1 = some v1 ∧ (W.alloc o).drew.cell? a2 = some v2 := ⟨keepA h.1, keepA h.2.1, keepA h.2.2⟩
/-- An arch that is drawn higher outside: its block, its own outer heights. -/
def WideR (wq : World) (B g : Nat) (n0 k0 n2 k1 c : Nat) (a0 a1 : Option Addr) (hi : List Int) (wf : World) : Prop :=
  wf.heap[B]? = some (.cells #[.slice a0 n0 k0, .slice a1 n2 k1, .slice (some ⟨g, 0, none⟩) n2 c] 26 (0, 0)) ∧ OwnI wf wq.heap.size (.slice (some ⟨g, 0, none⟩) n2 c) hi ∧ Below wq.heap.size wq wf ∧ g ≠ B ∧ wq.heap.size ≤ B
theorem wideC {wq wz : World} {g n0 k0 n2 k1 c : Nat} {a0 a1 : Option Addr} {hi : List Int} (hO : OwnI wz wq.heap.size (.slice (some ⟨g, 0, none⟩) n2 c) hi) (hb : Below wq.heap.size wq wz) (hg : g < wz.heap.size) :
    WideR wq wz.heap.size g n0 k0 n2 k1 c a0 a1 hi (wz.alloc (.cells #[.slice a0 n0 k0, .slice a1 n2 k1, .slice (some ⟨g, 0, none⟩) n2 c] 26)) :=
  ⟨blk_new _ _, hO.alloc _, hb.alloc hb.size _, by omega, hb.size⟩
theorem wideS {wq wz : World} {B g n0 k0 n2 k1 c : Nat} {a0 a1 : Option Addr} {hi : List Int} {v0 v1 v2 : Value} (hO : OwnI wz wq.heap.size (.slice (some ⟨g, 0, none⟩) n2 c) hi) (hb : Below wq.heap.size wq wz) (hB : wz.heap[B]? = some (.cells #[v0, v1, v2] 26 (0, 0))) (hle : wq.heap.size ≤ B) (hg : g ≠ B) :
    WideR wq B g n0 k0 n2 k1 c a0 a1 hi (((wz.setCell ⟨B, 0, none⟩ (.slice a0 n0 k0)).setCell ⟨B, 1, none⟩ (.slice a1 n2 k1)).setCell ⟨B, 2, none⟩ (.slice (some ⟨g, 0, none⟩) n2 c)) := by
  refine ⟨?_, ?_, ((hb.setCell hle _).setCell hle _).setCell hle _, hg, hle⟩
  · have := blk_set (blk_set (blk_set hB 0 (.slice a0 n0 k0)) 1 (.slice a1 n2 k1)) 2 (.slice (some ⟨g, 0, none⟩) n2 c)
    simpa using this
  · exact hO.grown (grown_store (grown_store (grown_store (World.grownBy.refl _ _) _ _) _ _) _ _) (fun e => hg (by injection e))
theorem keepS3 {W : World} {p0 p1 p2 : Addr} {u0 u1 u2 : Value} {B o0 o1 o2 : Nat} {v0 v1 v2 : Value} (h : W.cell? ⟨B, o0, none⟩ = some v0 ∧ W.cell? ⟨B, o1, none⟩ = some v1 ∧ W.cell? ⟨B, o2, none⟩ = some v2) (h0 : p0.block ≠ B) (h1 : p1.block ≠ B) (h2 : p2.block ≠ B) :
    (((W.setCell p0 u0).setCell p1 u1).setCell p2 u2).cell? ⟨B, o0, none⟩ = some v0 ∧ (((W.setCell p0 u0).setCell p1 u1).setCell p2 u2).cell? ⟨B, o1, none⟩ = some v1 ∧ (((W.setCell p0 u0).setCell p1 u1).setCell p2 u2).cell? ⟨B, o2, none⟩ = some v2 := by
  have key : ∀ o v, W.cell? ⟨B, o, none⟩ = some v → (((W.setCell p0 u0).setCell p1 u1).setCell p2 u2).cell? ⟨B, o, none⟩ = some v := fun o v hv => by
    rw [World.cell?_setCell_other _ _ _ _ (fun e => by subst e; exact h2 rfl), World.cell?_setCell_other _ _ _ _ (fun e => by subst e; exact h1 rfl), World.cell?_setCell_other _ _ _ _ (fun e => by subst e; exact h0 rfl)]; exact hv
  exact ⟨key _ _ h.1, key _ _ h.2.1, key _ _ h.2.2⟩
set_option maxRecDepth 100000 in
set_option maxHeartbeats 16000000 in
theorem thrust_walk (a : Option Addr) (len cap : Nat) (zs : List Int) (a' : Option Addr) (len' cap' : Nat) (zs' : List Int) (w : World) (h : IsRow .u8 w a len cap zs) (h' : IsRow .u8 w a' len' cap' zs') :
    Calls Try.prog 3 #[.slice a len cap, .slice a' len' cap'] w fun e w' => e = .returned (.bool true) ∧ Below w.heap.size w w' := by
  have hm : len ≤ maxLen := Nat.le_trans h.2.1 h.2.2.1
  have hm' : len' ≤ maxLen := Nat.le_trans h'.2.1 h'.2.2.1
  have HL := Lib.hid (fun W => a2Long_any a a' len cap len' cap' W hm hm')
  have H := Lib.hid h
  cases hl : longB len len'
  case true =>
    rw [hl] at HL
    clear hl h h' hm hm'
    go_enter Try.func3, Try.ntmps3
    go_wp2_with fail
    refine (HL.out _).mono ?_
    rintro e w1 ⟨rfl, rfl⟩
    go_wp2
    go_ret
    exact ⟨rfl, (by repeat (first | exact Below.refl _ _ | assumption | refine Below.drew ?_ | refine below_drewN ?_ _ | refine Below.alloc ?_ (by first | omega | (simp; done) | (simp; omega)) _ | refine Below.setCell ?_ (by first | omega | (simp; done) | (simp; omega)) _))⟩
  case false =>
    rw [hl] at HL
    have HAT := Lib.hid (fun n (hn : 1 ≤ n) => a2At_at h' 0 n (by omega) (by omega) hn)
    clear hl h h' hm hm'
    go_enter Try.func3, Try.ntmps3
    go_wp2_with fail
    refine (HL.out _).mono ?_
    rintro e w1 ⟨rfl, rfl⟩
    go_wp2_with fail
    refine (a2Blocks_any _ _ _ _ _ (H.out.below (by repeat (first | exact Below.refl _ _ | assumption | refine Below.drew ?_ | refine below_drewN ?_ _ | refine Below.alloc ?_ (by first | omega | (simp; done) | (simp; omega)) _ | refine Below.setCell ?_ (by first | omega | (simp; done) | (simp; omega)) _)))).mono ?_
    rintro e w2 ⟨a0, a1, a2, n0, k0, n1, k1, n2, k2, ls, lo, hi, rfl, hv, hsm, hb2, hB2⟩
    obtain ⟨v1, v2, v3, v4, v5, v6, v7, v8⟩ := blkB_t hv
    obtain ⟨e0, e1, e2⟩ := hb2.len
    have hn0 : 2 ≤ n0 := by omega
    have hn1 : 3 ≤ n1 := by omega
    have hn2 : n2 = n1 := by omega
    have hn11 : n1 ≤ 11 := by omega
    subst hn2
    have HCA := Lib.hid (fun W hW => canStand_any a0 a1 a2 n0 k0 n2 k1 n2 k2 ls lo hi W hW)
    have HLE := Lib.hid (fun W hW => leastThrust_any a0 a1 a2 n0 k0 n2 k1 n2 k2 ls lo hi W hW)
    have HCU := Lib.hid (fun W hW => curvatureBounds_any a0 a1 a2 n0 k0 n2 k1 n2 k2 ls lo hi W hW)
    have HLT := Lib.hid (fun W hW => lineOfThrust_any a0 a1 a2 n0 k0 n2 k1 n2 k2 ls lo hi W hW)
    rw [show momC ls lo hi = 0 by simp [momC, hv]] at HCA
    have HV := Lib.hid hv
    have HSM := Lib.hid hsm
    have HI2 := Lib.hid hb2
    have E1 := Lib.hid e1
    have E2 := Lib.hid e2
    have E0 := Lib.hid e0
    have ha2 : Below w.heap.size w w2 := below_call (by repeat (first | exact Below.refl _ _ | assumption | refine Below.drew ?_ | refine below_drewN ?_ _ | refine Below.alloc ?_ (by first | omega | (simp; done) | (simp; omega)) _ | refine Below.setCell ?_ (by first | omega | (simp; done) | (simp; omega)) _)) hB2
    have hz2 := ha2.size
    clear hb2 hB2 v1 v2 v3 v4 v5 v6 v7 v8 e0 e1 e2 hv hsm
    cases hcv : canV ls lo hi
    · -- the arch falls
      have hs := hcv
      rw [canV_eq HV.out] at hs
      obtain ⟨p1, p2, p3⟩ := fall_law HV.out hs
      obtain ⟨c1, c2, c3, c4, c5, c6⟩ := cv_no hcv
      obtain ⟨q1, q2⟩ := lot_no hcv
      have hcs : csC ls lo hi = 10 := cs_cracked HV.out hs
      rw [hcv] at HCA
      rw [c5, c6, hcs] at HLE
      rw [c1, c2, c3, c4, hcs] at HCU
      rw [q1, q2, hcs] at HLT
      have HWN := Lib.hid (fun W hW => whyNot_any a0 a1 a2 n0 k0 n2 k1 n2 k2 ls lo hi W hW)
      have HPF := Lib.hid (fun a3 n3 c3 a4 n4 c4 W hW h3 h4 => provesFall_any a0 a1 a2 n0 k0 n2 k1 n2 k2 ls lo hi a3 n3 c3 (wnL ls lo hi) a4 n4 c4 (wnH ls lo hi) W hW h3 h4)
      rw [p1] at HWN
      rw [p2, p3] at HPF
      clear hs p1 p2 p3 c1 c2 c3 c4 c5 c6 q1 q2 hcs hcv HAT HSM
      generalize wnL ls lo hi = zl at *
      generalize wnH ls lo hi = zh at *
      go_wp2_with fail
      have F1 : Hid ((w2.alloc (.cells #[.slice a0 n0 k0, .slice a1 n2 k1, .slice a2 n2 k2] 26)).heap[w2.heap.size]? = some _) := Lib.hid (blk_new _ _)
      refine (HCA.out _ (HI2.out.below (by repeat (first | exact Below.refl _ _ | assumption | refine Below.drew ?_ | refine below_drewN ?_ _ | refine Below.alloc ?_ (by first | omega | (simp; done) | (simp; omega)) _ | refine Below.setCell ?_ (by first | omega | (simp; done) | (simp; omega)) _)))).mono ?_
      rintro e w3 ⟨rfl, hb3⟩
      have hb3' : Below w2.heap.size w2 w3 := below_call (by repeat (first | exact Below.refl _ _ | assumption | refine Below.drew ?_ | refine below_drewN ?_ _ | refine Below.alloc ?_ (by first | omega | (simp; done) | (simp; omega)) _ | refine Below.setCell ?_ (by first | omega | (simp; done) | (simp; omega)) _)) hb3
      have HI3 := Lib.hid (HI2.out.below hb3')
      have F3 := Lib.hid (blk_call F1.out hb3)
      have ha3 := below_call ha2 hb3'
      clear hb3 hb3' HI2 F1
      obtain ⟨f0, f1, f2⟩ := atB3 F3.out
      go_wp2_with fail
      clear f0 f1 f2
      refine (HLE.out _ HI3.out).mono ?_
      rintro e w4 ⟨rfl, hb4⟩
      have HI4 := Lib.hid (HI3.out.below hb4)
      have F4 := Lib.hid (blk_call F3.out hb4)
      have ha4 := below_call ha3 hb4
      clear hb4 HI3 F3
      obtain ⟨f0, f1, f2⟩ := atB3 F4.out
      have lF4 : w2.heap.size < w4.heap.size := blk_lt F4.out
      have hz4 := ha4.size
      go_wp2_with fail
      clear f0 f1 f2
      refine (HCU.out _ (HI4.out.below (by repeat (first | exact Below.refl _ _ | assumption | refine Below.drew ?_ | refine below_drewN ?_ _ | refine Below.alloc ?_ (by first | omega | (simp; done) | (simp; omega)) _ | refine Below.setCell ?_ (by first | omega | (simp; done) | (simp; omega)) _)))).mono ?_
      rintro e w5 ⟨rfl, hb5⟩
      have hb5' : Below w4.heap.size w4 w5 := below_call (by repeat (first | exact Below.refl _ _ | assumption | refine Below.drew ?_ | refine below_drewN ?_ _ | refine Below.alloc ?_ (by first | omega | (simp; done) | (simp; omega)) _ | refine Below.setCell ?_ (by first | omega | (simp; done) | (simp; omega)) _)) hb5
      have HI5 := Lib.hid (HI4.out.below hb5')
      have F5 := Lib.hid (blk_call F4.out hb5')
      have ha5 := below_call ha4 hb5'
      clear hb5 hb5' HI4 F4
      obtain ⟨f0, f1, f2⟩ := atB3 F5.out
      have lF5 : w2.heap.size < w5.heap.size := blk_lt F5.out
      have hz5 := ha5.size
      go_wp2_with fail
      clear f0 f1 f2
      refine (HLT.out _ (HI5.out.below (by repeat (first | exact Below.refl _ _ | assumption | refine Below.drew ?_ | refine below_drewN ?_ _ | refine Below.alloc ?_ (by first | omega | (simp; done) | (simp; omega)) _ | refine Below.setCell ?_ (by first | omega | (simp; done) | (simp; omega)) _)))).mono ?_
      rintro e w6 hN6
      obtain ⟨x6, d6, rfl, hO6, hb6⟩ := hN6.toldT (n := 0) rfl
      have hb6' : Below w5.heap.size w5 w6 := below_call (by repeat (first | exact Below.refl _ _ | assumption | refine Below.drew ?_ | refine below_drewN ?_ _ | refine Below.alloc ?_ (by first | omega | (simp; done) | (simp; omega)) _ | refine Below.setCell ?_ (by first | omega | (simp; done) | (simp; omega)) _)) hb6
      have HI6 := Lib.hid (HI5.out.below hb6')
      have F6 := Lib.hid (blk_call F5.out hb6')
      have ha6 := below_call ha5 hb6'
      clear hb6 hb6' HI5 F5 hN6 hO6
      obtain ⟨f0, f1, f2⟩ := atB3 F6.out
      go_wp2_with fail
      clear f0 f1 f2
      refine (HWN.out _ HI6.out).mono ?_
      rintro e w7 ⟨x1, d1, x2, d2, b1, t1, b2, t2, rfl, hO1, hO2, _, _, _, _, _, hb7⟩
      have HI7 := Lib.hid (HI6.out.below hb7)
      have F7 := Lib.hid (blk_call F6.out hb7)
      have ha7 := below_call ha6 hb7
      have R1 := Lib.hid hO1.row
      have R2 := Lib.hid hO2.row
      clear hb7 HI6 F6 hO1 hO2
      obtain ⟨f0, f1, f2⟩ := atB3 F7.out
      go_wp2_with fail
      clear f0 f1 f2
      refine (HPF.out _ _ _ _ _ _ _ HI7.out R1.out R2.out).mono ?_
      rintro e w8 ⟨rfl, hb8⟩
      have ha8 := below_call ha7 hb8
      go_wp2
      go_ret
      exact ⟨rfl, ha8⟩
    · -- the arch stands
      obtain ⟨hv, hs⟩ := canV_t hcv
      have hSC := SmallB.toC hv HSM.out
      have N := stand_nums hcv hSC
      obtain ⟨i1, i2⟩ := lot_isLine hcv
      obtain ⟨bd, bl⟩ := lot_bend hcv
      obtain ⟨zb, zd1, zd2⟩ := lot_nums hcv
      have hcs : csC ls lo hi = 0 := cs_ok hv hs
      rw [hcv] at HCA
      rw [hcs] at HLE
      rw [N.hN, N.hD, hcs] at HCU
      rw [hcs] at HLT
      have HIL := Lib.hid (fun a3 n3 c3 W hW h3 => isLine_any a0 a1 a2 n0 k0 n2 k1 n2 k2 ls lo hi a3 n3 c3 (lotI ls lo hi) (lotD ls lo hi) W hW h3)
      rw [i1, i2] at HIL
      have HHL := Lib.hid (fun at' => higher_law hcv HSM.out at')
      have HN := Lib.hid N
      have u0 := hSC.l 0 (by have := E0.out; omega)
      have u1 := hSC.l 1 (by have := E0.out; omega)
      obtain ⟨n1', n2', d1', d2', t1, t2, t3, t4, tx, l1, l2, l3, l4, lx, _, _⟩ := N
      rw [E1.out] at bl
      have zz0 := zb 0 (by rw [E1.out]; omega)
      have zz1 := zb 1 (by rw [E1.out]; omega)
      have zz2 := zb 2 (by rw [E1.out]; omega)
      have hbe : bendAt (lotI ls lo hi) 1 = (lotI ls lo hi).getD 2 0 - 2 * (lotI ls lo hi).getD 1 0 + (lotI ls lo hi).getD 0 0 := rfl
      rw [hbe] at bd
      clear hv hs hSC i1 i2 hcs zb hbe hcv
      generalize lotI ls lo hi = Z at *
      generalize lotD ls lo hi = D at *
      generalize sN (bfind ls lo hi) = n at *
      generalize sD (bfind ls lo hi) = d at *
      generalize ltN ls lo hi = tN at *
      generalize ltD ls lo hi = tD at *
      generalize cvLN ls lo hi = xN at *
      generalize cvLD ls lo hi = xD at *
      go_wp2_with fail
      have F1 : Hid ((w2.alloc (.cells #[.slice a0 n0 k0, .slice a1 n2 k1, .slice a2 n2 k2] 26)).heap[w2.heap.size]? = some _) := Lib.hid (blk_new _ _)
      refine (HCA.out _ (HI2.out.below (by repeat (first | exact Below.refl _ _ | assumption | refine Below.drew ?_ | refine below_drewN ?_ _ | refine Below.alloc ?_ (by first | omega | (simp; done) | (simp; omega)) _ | refine Below.setCell ?_ (by first | omega | (simp; done) | (simp; omega)) _)))).mono ?_
      rintro e w3 ⟨rfl, hb3⟩
      have hb3' : Below w2.heap.size w2 w3 := below_call (by repeat (first | exact Below.refl _ _ | assumption | refine Below.drew ?_ | refine below_drewN ?_ _ | refine Below.alloc ?_ (by first | omega | (simp; done) | (simp; omega)) _ | refine Below.setCell ?_ (by first | omega | (simp; done) | (simp; omega)) _)) hb3
      have HI3 := Lib.hid (HI2.out.below hb3')
      have F3 := Lib.hid (blk_call F1.out hb3)
      have ha3 := below_call ha2 hb3'
      clear hb3 hb3' HI2 F1
      obtain ⟨f0, f1, f2⟩ := atB3 F3.out
      go_wp2_with fail
      clear f0 f1 f2
      refine (HLE.out _ HI3.out).mono ?_
      rintro e w4 ⟨rfl, hb4⟩
      have HI4 := Lib.hid (HI3.out.below hb4)
      have F4 := Lib.hid (blk_call F3.out hb4)
      have ha4 := below_call ha3 hb4
      clear hb4 HI3 F3
      obtain ⟨f0, f1, f2⟩ := atB3 F4.out
      have lF4 : w2.heap.size < w4.heap.size := blk_lt F4.out
      have hz4 := ha4.size
      go_wp2_with fail
      clear f0 f1 f2
      have T4 : Hid ((w4.alloc (.cells #[.int .i64 tN, .int .i64 tD] 31)).heap[w4.heap.size]? = some _) := Lib.hid (blk_new _ _)
      refine (HCU.out _ (HI4.out.below (by repeat (first | exact Below.refl _ _ | assumption | refine Below.drew ?_ | refine below_drewN ?_ _ | refine Below.alloc ?_ (by first | omega | (simp; done) | (simp; omega)) _ | refine Below.setCell ?_ (by first | omega | (simp; done) | (simp; omega)) _)))).mono ?_
      rintro e w5 ⟨rfl, hb5⟩
      have hb5' : Below w4.heap.size w4 w5 := below_call (by repeat (first | exact Below.refl _ _ | assumption | refine Below.drew ?_ | refine below_drewN ?_ _ | refine Below.alloc ?_ (by first | omega | (simp; done) | (simp; omega)) _ | refine Below.setCell ?_ (by first | omega | (simp; done) | (simp; omega)) _)) hb5
      have HI5 := Lib.hid (HI4.out.below hb5')
      have F5 := Lib.hid (blk_call F4.out hb5')
      have T5 := Lib.hid (blk_call T4.out hb5)
      have ha5 := below_call ha4 hb5'
      clear hb5 hb5' HI4 F4 T4
      obtain ⟨f0, f1, f2⟩ := atB3 F5.out
      have lF5 : w2.heap.size < w5.heap.size := blk_lt F5.out
      have hz5 := ha5.size
      have lT5 : w4.heap.size < w5.heap.size := blk_lt T5.out
      go_wp2_with fail
      clear f0 f1 f2
      obtain ⟨W5, hW5⟩ : ∃ W5, (w5.alloc (.cells #[.int .i64 xN, .int .i64 xD] 31)).alloc (.cells #[.int .i64 n, .int .i64 d] 31) = W5 := ⟨_, rfl⟩
      have L6 : Hid (W5.heap[w5.heap.size]? = some (.cells #[.int .i64 xN, .int .i64 xD] 31 (0, 0))) := Lib.hid (by rw [← hW5]; exact blk_alloc (blk_new _ _))
      have M6 : Hid (W5.heap[w5.heap.size + 1]? = some (.cells #[.int .i64 n, .int .i64 d] 31 (0, 0))) := Lib.hid (by rw [← hW5]; exact blk_new' _ _ (by simp))
      have F6 : Hid (W5.heap[w2.heap.size]? = some _) := Lib.hid (by rw [← hW5]; exact blk_alloc (blk_alloc F5.out))
      have T6 : Hid (W5.heap[w4.heap.size]? = some _) := Lib.hid (by rw [← hW5]; exact blk_alloc (blk_alloc T5.out))
      have HI6 : Hid (IsB a0 a1 a2 n0 k0 n2 k1 n2 k2 ls lo hi W5) := Lib.hid (by rw [← hW5]; exact HI5.out.below (by repeat (first | exact Below.refl _ _ | assumption | refine Below.drew ?_ | refine below_drewN ?_ _ | refine Below.alloc ?_ (by first | omega | (simp; done) | (simp; omega)) _ | refine Below.setCell ?_ (by first | omega | (simp; done) | (simp; omega)) _)))
      have ha6 : Below w.heap.size w W5 := by rw [← hW5]; exact (by repeat (first | exact Below.refl _ _ | assumption | refine Below.drew ?_ | refine below_drewN ?_ _ | refine Below.alloc ?_ (by first | omega | (simp; done) | (simp; omega)) _ | refine Below.setCell ?_ (by first | omega | (simp; done) | (simp; omega)) _))
      (try rw [hW5])
      clear hW5 F5 T5 HI5 ha5
      refine (HLT.out _ HI6.out).mono ?_
      rintro e w6 hN6
      obtain ⟨x6, d6, rfl, hO6, hb6⟩ := hN6.toldT (n := n2) bl
      have HI7 := Lib.hid (HI6.out.below hb6)
      have F7 := Lib.hid (blk_call F6.out hb6)
      have T7 := Lib.hid (blk_call T6.out hb6)
      have L7 := Lib.hid (blk_call L6.out hb6)
      have M7 := Lib.hid (blk_call M6.out hb6)
      have Z7 := Lib.hid hO6.row
      have ha7 := below_call ha6 hb6
      clear hb6 HI6 F6 T6 L6 M6 hN6 hO6
      obtain ⟨f0, f1, f2⟩ := atB3 F7.out
      obtain ⟨g0, g1⟩ := atF2 T7.out
      obtain ⟨x0, x1⟩ := atF2 L7.out
      obtain ⟨y0, y1⟩ := atF2 M7.out
      have hmx1 := mx3 (x := xN) (y := n) (z := tN) (B := 1000000) (by omega) (by omega) (by omega)
      have hmx2 := mx3 (x := xD) (y := d) (z := tD) (B := 10000000) (by omega) (by omega) (by omega)
      have hmi := mxI_is
      have r1 : ¬ xD < 1 := by omega
      have r2 : ¬ d < 1 := by omega
      have r3 : ¬ tD < 1 := by omega
      have r4 : ¬ xN < 0 := by omega
      have r5 : ¬ n < 1 := by omega
      obtain ⟨m1, m2⟩ := mul_bd (a := xN) (b := d) (A := 1000) (B := 3000) (by omega) (by omega) (by omega) (by omega)
      obtain ⟨m3, m4⟩ := mul_bd (a := n) (b := xD) (A := 1000) (B := 3000) (by omega) (by omega) (by omega) (by omega)
      obtain ⟨m5, m6⟩ := mul_bd (a := 2 * tN) (b := n) (A := 6000) (B := 1000) (by omega) (by omega) (by omega) (by omega)
      obtain ⟨m7, m8⟩ := mul_bd (a := tD) (b := d) (A := 2000) (B := 3000) (by omega) (by omega) (by omega) (by omega)
      have hx2 : 2 * tN * n = tD * d := by rw [← Int.mul_comm d tD, ← tx]; simp only [Int.mul_assoc, Int.mul_comm, Int.mul_left_comm]
      have hx1 : ¬ n * xD < xN * d := by omega
      have j1 := IntWalk.i64_in (xN * d) (by omega)
      have j2 := IntWalk.i64_in (n * xD) (by omega)
      have j3 := IntWalk.i64_in (2 * tN) (by omega)
      have j4 : IntKind.i64.wrap (2 * tN * n) = tD * d := by rw [hx2]; exact IntWalk.i64_in _ (by omega)
      have j5 := IntWalk.i64_in (tD * d) (by omega)
      have HX2 := Lib.hid hx2
      have HTX := Lib.hid tx
      have HLX := Lib.hid lx
      have HBD := Lib.hid bd
      have HBL := Lib.hid bl
      clear hx2 tx lx bd bl
      go_wp2_with fail
      clear hmx1 hmx2 hmi r1 r2 r3 r4 r5 m1 m2 m3 m4 m5 m6 m7 m8 hx1 j1 j2 j3 j4 j5 f0 f1 f2 g0 g1 x0 x1 y0 y1
      refine (HIL.out _ _ _ _ HI7.out Z7.out).mono ?_
      rintro e w7 ⟨rfl, hb7⟩
      have HI8 := Lib.hid (HI7.out.below hb7)
      have F8 := Lib.hid (blk_call F7.out hb7)
      have T8 := Lib.hid (blk_call T7.out hb7)
      have M8 := Lib.hid (blk_call M7.out hb7)
      have Z8 := Lib.hid (Z7.out.below hb7)
      have ha8 := below_call ha7 hb7
      clear hb7 HI7 F7 T7 L7 M7 Z7 HIL HCA HLE HCU HLT ha7
      obtain ⟨f0, f1, f2⟩ := atB3 F8.out
      obtain ⟨y0, y1⟩ := atF2 M8.out
      obtain ⟨bz, oz, rfl, hbz⟩ := Z8.out.addr (by omega)
      obtain ⟨b0, o0, rfl, hb0⟩ := HI8.out.1.addr (by omega)
      have dz0 := Z8.out.same (i := 0) (by omega)
      have dz1 := Z8.out.same (i := 1) (by omega)
      have dz2 := Z8.out.same (i := 2) (by omega)
      have dl0 := HI8.out.1.same (i := 0) (by omega)
      have dl1 := HI8.out.1.same (i := 1) (by omega)
      simp only [Nat.add_zero] at dz0 dl0
      have hBD := HBD.out
      generalize Z.getD 0 0 = z0 at *
      generalize Z.getD 1 0 = z1 at *
      generalize Z.getD 2 0 = z2 at *
      generalize ls.getD 0 0 = la at *
      generalize ls.getD 1 0 = lb at *
      obtain ⟨bb, hbb⟩ : ∃ bb, z0 - 2 * z1 + z2 = bb := ⟨_, rfl⟩
      have hbb2 : z2 - 2 * z1 + z0 = bb := by omega
      rw [hbb2] at hBD
      obtain ⟨V, hV⟩ : ∃ V, n * (la + lb) * D = V := ⟨_, rfl⟩
      rw [hV] at hBD
      obtain ⟨m1, m2⟩ := mul_bd (a := n) (b := la + lb) (A := 1000) (B := 12) (by omega) (by omega) (by omega) (by omega)
      obtain ⟨m3, m4⟩ := mul_bd (a := n * (la + lb)) (b := D) (A := 12000) (B := 100000000) (by omega) (by omega) (by omega) (by omega)
      have hVb : 0 ≤ V ∧ V ≤ 1200000000000 := by omega
      have j1 := IntWalk.i64_in (2 * z1) (by omega)
      have j2 := IntWalk.i64_in (z0 - 2 * z1) (by omega)
      have j3 : IntKind.i64.wrap (z0 - 2 * z1 + z2) = bb := by rw [hbb]; exact IntWalk.i64_in _ (by omega)
      have j4 := IntWalk.i64_in (-bb) (by omega)
      have j5 : IntKind.i64.wrap (-bb * d) = V := by rw [hBD]; exact IntWalk.i64_in _ (by omega)
      have j6 := IntWalk.i64_in (la + lb) (by omega)
      have j7 := IntWalk.i64_in (n * (la + lb)) (by omega)
      have j8 : IntKind.i64.wrap (n * (la + lb) * D) = V := by rw [hV]; exact IntWalk.i64_in _ (by omega)
      have q1 : ¬ (n2 : Int) < 3 := by omega
      have q2 : ¬ n2 < 3 := by omega
      have q3 : 0 < n2 := by omega
      have q4 : 1 < n2 := by omega
      have q5 : 2 < n2 := by omega
      have q6 : 0 < n0 := by omega
      have q7 : 1 < n0 := by omega
      clear hbb hbb2 hBD hV HBD m1 m2 m3 m4 hVb
      go_wp2_with fail
      go_quiet (fail)
      go_wp2_with fail
      go_quiet (fail)
      go_wp2_with fail
      refine wp_hide (R := fun wq => Below w7.heap.size w7 wq) (by repeat (first | exact Below.refl _ _ | refine below_drewN ?_ _ | refine Below.drew ?_)) (fun wq hbq => ?_)
      have HIq := Lib.hid (HI8.out.below hbq)
      have Fq := Lib.hid (blk_call F8.out hbq)
      have Tq := Lib.hid (blk_call T8.out hbq)
      have haq := below_call ha8 hbq
      have hzq := haq.size
      have lFq := blk_lt Fq.out
      have lTq := blk_lt Tq.out
      clear f0 f1 f2 y0 y1 dz0 dz1 dz2 dl0 dl1 j1 j2 j3 j4 j5 j6 j7 j8 HI8 F8 T8 M8 Z8 hbq ha8 hbz hb0 zz0 zz1 zz2 u0 u1 HBL HLX HX2 HTX lF4 hz4 lF5 hz5 lT5 ha2 ha3 ha4 ha6 HN
      obtain ⟨b2, o2, rfl, hb2'⟩ := HIq.out.2.2.addr (by omega)
      obtain ⟨i0, hi0', hi0, hi1, hi2⟩ := info_parts info_i64
      have q8 := atB3 Fq.out
      have q9 : wq.drew.cell? ⟨w2.heap.size, 0, none⟩ = some (Value.slice (some ⟨b0, o0, none⟩) n0 k0) ∧ wq.drew.cell? ⟨w2.heap.size, 1, none⟩ = some (Value.slice a1 n2 k1) ∧ wq.drew.cell? ⟨w2.heap.size, 2, none⟩ = some (Value.slice (some ⟨b2, o2, none⟩) n2 k2) := q8
      obtain ⟨E, hE⟩ : ∃ E : Obj, Obj.cells #[] 2 (0, 0) = E := ⟨_, rfl⟩
      obtain ⟨Z3, hZ3⟩ : ∃ Z3 : Obj, Obj.cells #[.slice none 0 0, .slice none 0 0, .slice none 0 0] 26 (0, 0) = Z3 := ⟨_, rfl⟩
      have HC1 := Lib.hid (HIq.out.2.2.below ((Below.refl _ _).alloc (Nat.le_refl _) (.cells #[] 2)).drew).cellsAt
      have HC2 := Lib.hid (HIq.out.2.2.below (((Below.refl _ _).alloc (Nat.le_refl _) (.cells #[] 2)).alloc (by simp) (.cells #[.slice none 0 0, .slice none 0 0, .slice none 0 0] 26)).drew).cellsAt
      have HC3 := Lib.hid (HIq.out.2.2.below (((Below.refl _ _).alloc (Nat.le_refl _) (.cells #[.slice none 0 0, .slice none 0 0, .slice none 0 0] 26)).alloc (by simp) (.cells #[] 2)).drew).cellsAt
      have HO1 := Lib.hid (World.ownsRow.drew (ownI_empty wq wq.heap.size (Nat.le_refl _)))
      have HO2 := Lib.hid (World.ownsRow.drew ((ownI_empty wq wq.heap.size (Nat.le_refl _)).alloc (.cells #[.slice none 0 0, .slice none 0 0, .slice none 0 0] 26)))
      have HO3 : Hid (World.ownsRow ((wq.alloc (.cells #[.slice none 0 0, .slice none 0 0, .slice none 0 0] 26)).alloc (.cells #[] 2)).drew wq.heap.size 2 1 (.slice (some ⟨wq.heap.size + 1, 0, none⟩) 0 0) 0 []) := Lib.hid (by
        have := World.ownsRow.drew (ownI_empty (wq.alloc (.cells #[.slice none 0 0, .slice none 0 0, .slice none 0 0] 26)) wq.heap.size (by simp))
        simpa using this)
      have F1q : (wq.alloc (.cells #[] 2)).drew.heap[w2.heap.size]? = some _ := blk_alloc Fq.out
      have F2q : ((wq.alloc (.cells #[] 2)).alloc (.cells #[.slice none 0 0, .slice none 0 0, .slice none 0 0] 26)).drew.heap[w2.heap.size]? = some _ := blk_alloc (blk_alloc Fq.out)
      have F3q : ((wq.alloc (.cells #[.slice none 0 0, .slice none 0 0, .slice none 0 0] 26)).alloc (.cells #[] 2)).drew.heap[w2.heap.size]? = some _ := blk_alloc (blk_alloc Fq.out)
      have B2q : ((wq.alloc (.cells #[] 2)).alloc (.cells #[.slice none 0 0, .slice none 0 0, .slice none 0 0] 26)).drew.heap[wq.heap.size + 1]? = some (.cells #[.slice none 0 0, .slice none 0 0, .slice none 0 0] 26 (0, 0)) := blk_new' (wq.alloc (.cells #[] 2)) _ (by simp)
      have B3q : ((wq.alloc (.cells #[.slice none 0 0, .slice none 0 0, .slice none 0 0] 26)).alloc (.cells #[] 2)).drew.heap[wq.heap.size]? = some (.cells #[.slice none 0 0, .slice none 0 0, .slice none 0 0] 26 (0, 0)) := blk_alloc (blk_new wq _)
      have ne1 : w2.heap.size ≠ wq.heap.size := by omega
      have ne2 : w2.heap.size ≠ wq.heap.size + 1 := by omega
      have ne3 : wq.heap.size ≠ w2.heap.size := by omega
      have ne4 : wq.heap.size + 1 ≠ w2.heap.size := by omega
      have ne5 : wq.heap.size + 1 ≠ wq.heap.size := by omega
      have ne6 : wq.heap.size ≠ wq.heap.size + 1 := by omega
      clear hE hZ3
      go_region_held3 (fun w' => w'.cell? ⟨w2.heap.size, 0, none⟩ = some (Value.slice (some ⟨b0, o0, none⟩) n0 k0) ∧ w'.cell? ⟨w2.heap.size, 1, none⟩ = some (Value.slice a1 n2 k1) ∧ w'.cell? ⟨w2.heap.size, 2, none⟩ = some (Value.slice (some ⟨b2, o2, none⟩) n2 k2)) (first | (with_reducible assumption) | (with_reducible exact q9) | (with_reducible exact keepAD3 q8) | (with_reducible exact keepAD3 (keepA3 q8)) | (with_reducible exact hS) | (with_reducible exact keepA3 hS) | (with_reducible exact keepS3 hS ne3 ne3 ne3) | (with_reducible exact keepS3 hS ne4 ne4 ne4))
        (first
        | (refine step_append_lies _ (by rfl) _ _ 24 (by rfl) wq.heap.size 2 i0 (.int .i64 0) 1 8 Try.underlying24 hi0' hi0 hi1 hi2 rfl (by decide) (.slice (some ⟨wq.heap.size, 0, none⟩) 0 0) 0 [] (by rfl) HO1.out ⟨b2, o2, none⟩ n2 _ (hi.map (Value.int .i64)) (by rfl) (by simp [E2.out]) HC1.out (by intro u hu; obtain ⟨n, _, rfl⟩ := List.mem_map.1 hu; rfl) (by omega) (by unfold maxLen; omega) (by omega) (by simp) (wq.heap.size + 1) (by simp) ?_; intro g9 cap9 wz hown9 hgrow9 hat9 hlt9; (have hF9 := (hgrow9.block _ (blk_lt F1q) (fun e => ne1 (by injection e))).trans F1q); (have hS := atB3 hF9))
        | (refine step_append_lies _ (by rfl) _ _ 24 (by rfl) wq.heap.size 2 i0 (.int .i64 0) 1 8 Try.underlying24 hi0' hi0 hi1 hi2 rfl (by decide) (.slice (some ⟨wq.heap.size, 0, none⟩) 0 0) 0 [] (by rfl) HO2.out ⟨b2, o2, none⟩ n2 _ (hi.map (Value.int .i64)) (by rfl) (by simp [E2.out]) HC2.out (by intro u hu; obtain ⟨n, _, rfl⟩ := List.mem_map.1 hu; rfl) (by omega) (by unfold maxLen; omega) (by omega) (by simp; omega) (wq.heap.size + 1 + 1) (by simp) ?_; intro g9 cap9 wz hown9 hgrow9 hat9 hlt9; (have hF9 := (hgrow9.block _ (blk_lt F2q) (fun e => ne1 (by injection e))).trans F2q); (have hB9 := (hgrow9.block _ (blk_lt B2q) (fun e => ne5 (by injection e))).trans B2q); (have hS := atB3 hF9); (obtain ⟨k90, k91, k92⟩ := atB3 hB9); (have kf90 := frozenOf hB9 0); (have kf91 := frozenOf hB9 1); (have kf92 := frozenOf hB9 2))
        | (refine step_append_lies _ (by rfl) _ _ 24 (by rfl) wq.heap.size 2 i0 (.int .i64 0) 1 8 Try.underlying24 hi0' hi0 hi1 hi2 rfl (by decide) (.slice (some ⟨wq.heap.size + 1, 0, none⟩) 0 0) 0 [] (by rfl) HO3.out ⟨b2, o2, none⟩ n2 _ (hi.map (Value.int .i64)) (by rfl) (by simp [E2.out]) HC3.out (by intro u hu; obtain ⟨n, _, rfl⟩ := List.mem_map.1 hu; rfl) (by omega) (by unfold maxLen; omega) (by omega) (by simp; omega) (wq.heap.size + 1 + 1) (by simp) ?_; intro g9 cap9 wz hown9 hgrow9 hat9 hlt9; (have hF9 := (hgrow9.block _ (blk_lt F3q) (fun e => ne2 (by injection e))).trans F3q); (have hB9 := (hgrow9.block _ (blk_lt B3q) (fun e => ne6 (by injection e))).trans B3q); (have hS := atB3 hF9); (obtain ⟨k90, k91, k92⟩ := atB3 hB9); (have kf90 := frozenOf hB9 0); (have kf91 := frozenOf hB9 1); (have kf92 := frozenOf hB9 2)))
      all_goals
        have hO9 : OwnI wz wq.heap.size (.slice (some ⟨g9, 0, none⟩) n2 cap9) hi := by
          unfold OwnI
          rw [E2.out]
          simpa using hown9
        have hbz : Below wq.heap.size wq wz := by
          first
          | exact below_mark (a := wq) (zs := []) ((Below.refl _ _).alloc (Nat.le_refl _) _).drew (Nat.le_refl _) HO1.out hgrow9
          | exact below_mark (a := wq) (zs := []) (((Below.refl _ _).alloc (Nat.le_refl _) _).alloc (by simp) _).drew (Nat.le_refl _) HO2.out hgrow9
          | exact below_mark (a := wq) (zs := []) (((Below.refl _ _).alloc (Nat.le_refl _) _).alloc (by simp) _).drew (Nat.le_refl _) HO3.out hgrow9
        first
        | (refine then_hide (R := fun wf => WideR wq wz.heap.size g9 n0 k0 n2 k1 cap9 (some ⟨b0, o0, none⟩) a1 hi wf) ?_ ?_
           · with_reducible exact wideC hO9 hbz hlt9
           intro wf hR)
        | (refine then_hide (R := fun wf => WideR wq (wq.heap.size + 1) g9 n0 k0 n2 k1 cap9 (some ⟨b0, o0, none⟩) a1 hi wf) ?_ ?_
           · with_reducible refine wideS hO9 hbz hB9 ?_ ?_
             · omega
             · rcases hat9 with h | h
               · have h' := Option.some.inj h
                 dsimp only at h'
                 omega
               · omega
           intro wf hR)
        | (refine then_hide (R := fun wf => WideR wq wq.heap.size g9 n0 k0 n2 k1 cap9 (some ⟨b0, o0, none⟩) a1 hi wf) ?_ ?_
           · with_reducible refine wideS hO9 hbz hB9 ?_ ?_
             · omega
             · rcases hat9 with h | h
               · have h' := Option.some.inj h
                 dsimp only at h'
                 omega
               · omega
           intro wf hR)
        clear hO9 hbz hown9 hgrow9 hat9 hlt9 hS hF9 q8 q9 HC1 HC2 HC3 HO1 HO2 HO3 F1q F2q F3q B2q B3q ne1 ne2 ne3 ne4 ne5 ne6 hb2'
        (try clear hB9 k90 k91 k92 kf90 kf91 kf92)
        obtain ⟨WB, HO, hbf, hgB, hB⟩ := hR
        have Ff := Lib.hid (blk_call Fq.out hbf)
        have haf := below_call haq hbf
        clear Fq
        obtain ⟨f0, f1, f2⟩ := atB3 Ff.out
        obtain ⟨at', at0, at1, A0⟩ := HAT.out (n2 : Int) (by omega)
        obtain ⟨q, rfl⟩ := Int.eq_ofNat_of_zero_le at0
        go_wp2_with fail
        refine (A0.out _ haf).mono ?_
        rintro e wx ⟨rfl, rfl⟩
        clear A0 HAT f0 f1 f2
        obtain ⟨c0, c1, c2⟩ := atB3 WB
        have hql : q < n2 := by omega
        have hqI : (q : Int) < (n2 : Int) := by omega
        have hOr : wf.ownsRow wq.heap.size 2 1 (.slice (some ⟨g9, 0, none⟩) n2 cap9) n2 (hi.map (Value.int .i64)) := by
          have h0 := HO
          unfold OwnI at h0
          rw [E2.out] at h0
          exact h0
        have hcq : wf.cell? ⟨g9, q, none⟩ = some (.int .i64 (hi.getD q 0)) := by
          rw [hOr.cellAt q (by omega), List.getElem?_map, List.getD_eq_getElem?_getD, List.getElem?_eq_getElem (by rw [E2.out]; omega)]
          rfl
        have hfq := hOr.frozenAt q
        have hqb : 0 ≤ hi.getD q 0 ∧ hi.getD q 0 ≤ 90 := HSM.out.2.2.2 _ (by rw [List.getD_eq_getElem?_getD, List.getElem?_eq_getElem (by rw [E2.out]; omega)]; exact List.getElem_mem _)
        have HS := Lib.hid (HHL.out q)
        clear HHL
        have i1 := IntWalk.i64_in (hi.getD q 0 + 1) (by omega)
        go_wp2_with fail
        obtain ⟨hh, hhe⟩ : ∃ hh, hi.getD q 0 = hh := ⟨_, rfl⟩
        obtain ⟨s1, s2, s3⟩ := HS.out
        clear HS
        rw [hhe] at hcq hqb i1 s1 s2 s3
        have HLW := Lib.hid (fun W hW => leastThrust_any (some ⟨b0, o0, none⟩) a1 (some ⟨g9, 0, none⟩) n0 k0 n2 k1 n2 cap9 ls lo (hi.set q (hh + 1)) W hW)
        rw [s1] at HLW
        obtain ⟨_, _, _, _, v1, v2, v3, v4, _, _, _, _, _, _, _, _⟩ := s2
        have HS3 : Hid (OwnI (wf.setCell ⟨g9, q, none⟩ (.int .i64 (hh + 1))) wq.heap.size (.slice (some ⟨g9, 0, none⟩) n2 cap9) (hi.set q (hh + 1))) := Lib.hid (by
          have h9 := (hOr.stored q (.int .i64 (hh + 1))).1
          unfold OwnI
          rw [List.length_set, List.map_set, E2.out]
          exact h9)
        have hlg : wq.heap.size ≤ g9 := (World.ownsRow.lt hOr g9 rfl).1
        have HWB := Lib.hid (blk_far WB (p := ⟨g9, q, none⟩) (by exact fun e => hgB e.symm) (.int .i64 (hh + 1)))
        have HB9 : Hid (Below wq.heap.size wq (wf.setCell ⟨g9, q, none⟩ (.int .i64 (hh + 1)))) := Lib.hid (hbf.setCell (p := ⟨g9, q, none⟩) hlg _)
        go_still_tail 10, (by kernel_rfl)
        change wpList _ _ _ _ _ (World.drew wf)
        go_wp2_with fail
        have HBd := Lib.hid HB9.out.drew
        have HSd : Hid (OwnI (wf.setCell ⟨g9, q, none⟩ (.int .i64 (hh + 1))).drew wq.heap.size (.slice (some ⟨g9, 0, none⟩) n2 cap9) (hi.set q (hh + 1))) := Lib.hid (World.ownsRow.drew HS3.out)
        refine (HLW.out _ ⟨(HIq.out.below HBd.out).1, (HIq.out.below HBd.out).2.1, HSd.out.row⟩).mono ?_
        rintro e wy ⟨rfl, hby⟩
        have hay := below_call (below_call haq HBd.out) hby
        have Ty := Lib.hid (blk_call (blk_call Tq.out HBd.out) hby)
        have hzy := hay.size
        obtain ⟨x0, x1⟩ := atF2 Ty.out
        clear hby HLW HS3 HSd HB9 HBd HWB HIq Tq haq hOr hcq hfq WB HO hbf haf c0 c1 c2 Ff s1 hhe
        generalize ltN ls lo (hi.set q (hh + 1)) = rN at *
        generalize ltD ls lo (hi.set q (hh + 1)) = rD at *
        obtain ⟨m1, m2⟩ := mul_bd (a := rN) (b := tD) (A := 3000) (B := 2000) (by omega) v2 (by omega) t4
        obtain ⟨m3, m4⟩ := mul_bd (a := tN) (b := rD) (A := 3000) (B := 2000) (by omega) t2 (by omega) v4
        have y1 : decide (0 < rD) = true := decide_eq_true (by omega)
        have y2 : decide (rD ≤ 10000000) = true := decide_eq_true (by omega)
        have y3 : decide (0 < rN) = true := decide_eq_true (by omega)
        have y4 : decide (rN ≤ 1000000) = true := decide_eq_true (by omega)
        have y5 : decide (rN * tD ≤ tN * rD) = true := decide_eq_true s3
        have lTy := blk_lt Ty.out
        clear s3
        go_wp2
        go_ret
        exact ⟨ret_bool (by simp [*]), (by repeat (first | exact Below.refl _ _ | assumption | refine Below.drew ?_ | refine below_drewN ?_ _ | refine Below.alloc ?_ (by first | omega | (simp; done) | (simp; omega)) _ | refine Below.setCell ?_ (by first | omega | (simp; done) | (simp; omega)) _))⟩
/-! ### The row's step: the arguments are opened, the walk is called, the arguments read as before. -/
set_option maxRecDepth 100000 in
set_option maxHeartbeats 1000000 in
set_option linter.unusedVariables false in
theorem lifted_FnThrust (os : Os) (started : os.Started) (H : Type) (enc : TypeId × Value → H) :
    ReturnsInHanded {} Try.checked os 3 .any (Rows.fnThrustSpec.pre6 enc Try.prog Try.f3 Rows.fnThrustRow.domain false) (Rows.fnThrustSpec.post enc Try.prog Try.f3 false true false false) := by
  refine returnsInHanded_of_change (C := Try.checked) ownNone started (by kernel_rfl) Try.func3
    (ChangeSpec.witness6 (enc := enc) (C := Try.checked) false ⟨#[], #[.slice none 0 0, .slice none 0 0], []⟩ 8 (by kernel_rfl) (by kernel_rfl) (by kernel_rfl) (by kernel_rfl)) ?_
  intro W base args ds gs before hval0 hW hcnd _
  have hval : ∀ (j : Nat) t v, Try.f3.params[j]? = some t → args[j]? = some v → Value.okWide Try.prog W .any base t v := hval0
  have hW' := hW
  obtain ⟨p, q, hA0, hV, rfl, hfz, hnd⟩ := hW
  have hA : DataW.TrodAll enc Try.prog W 0 (fun _ => true) true Try.f3.params.toList args.toList ds p := hA0
  rw [Try.params3] at hA hval
  obtain ⟨v0, vs0, d0, ds0, p0, q0, hargs, rfl, rfl, h0, r0⟩ := trodAll_cons hA
  obtain ⟨v1, vs1, d1, ds1, p1, q1, rfl, rfl, rfl, h1, r1⟩ := trodAll_cons r0
  obtain ⟨rfl, rfl, rfl⟩ := trodAll_nil r1
  obtain rfl : args = #[v0, v1] := by cases args; simp_all
  obtain ⟨rfl, rfl⟩ := trodVars_none hV
  have k0 := h0
  have lt0 : ∀ x ∈ p0, x.block < W.heap.size := by obtain ⟨m, hm⟩ := k0; exact DataW.trod_lt m _ _ _ hm
  obtain ⟨a0, len0, cap0, rfl⟩ := okWide_slice Try.underlying22 (hval 0 22 v0 rfl rfl)
  obtain ⟨z0, w0⟩ : ∃ zs, IsRow .u8 W a0 len0 cap0 zs := by
    obtain ⟨fuel, hf⟩ := h0
    rcases open_ints Try.underlying22 Try.underlying5 (by kernel_rfl) hf with ⟨hcs, _⟩ | ⟨x, l, c, zs, hcs, _, hl, hm, hz, _, hcell, hwz⟩
    · simp [Value.cells] at hcs
      obtain ⟨rfl, rfl, rfl⟩ := hcs
      exact ⟨[], isRow_nil⟩
    · simp [Value.cells] at hcs
      obtain ⟨rfl, rfl, rfl⟩ := hcs
      exact ⟨zs.take len0, isRow_mk hl hm (by simpa using hz) hcell hwz⟩
  have k1 := h1
  have lt1 : ∀ x ∈ p1, x.block < W.heap.size := by obtain ⟨m, hm⟩ := k1; exact DataW.trod_lt m _ _ _ hm
  obtain ⟨a1, len1, cap1, rfl⟩ := okWide_slice Try.underlying22 (hval 1 22 v1 rfl rfl)
  obtain ⟨z1, w1⟩ : ∃ zs, IsRow .u8 W a1 len1 cap1 zs := by
    obtain ⟨fuel, hf⟩ := h1
    rcases open_ints Try.underlying22 Try.underlying5 (by kernel_rfl) hf with ⟨hcs, _⟩ | ⟨x, l, c, zs, hcs, _, hl, hm, hz, _, hcell, hwz⟩
    · simp [Value.cells] at hcs
      obtain ⟨rfl, rfl, rfl⟩ := hcs
      exact ⟨[], isRow_nil⟩
    · simp [Value.cells] at hcs
      obtain ⟨rfl, rfl, rfl⟩ := hcs
      exact ⟨zs.take len1, isRow_mk hl hm (by simpa using hz) hcell hwz⟩
  clear hA0 hval0
  refine (thrust_walk a0 len0 cap0 z0 a1 len1 cap1 z1 W w0 w1).mono fun e W' ⟨he, bel⟩ => ?_
  subst he
  exact ⟨_, rfl, _, _, _, [], _, [], hW', trodAll_mk1 (shut_bool Try.underlying4 _), (trodAll_cons_mk (Below.trod laidOut (by kernel_rfl) (of_decide_eq_true (by kernel_rfl)) k0 bel lt0) (trodAll_cons_mk (Below.trod laidOut (by kernel_rfl) (of_decide_eq_true (by kernel_rfl)) k1 bel lt1) trodAll_mk0)), rfl, bel.frame _, fun h => by cases h⟩

/-- The statement, proved. -/
theorem fnThrust_holds : Rows.FnThrustSaid :=
  OpenClaim.holds_of_wide 3 Try.f3 rfl rfl rfl rfl rfl rfl rfl ⟨rfl, rfl, rfl, rfl, rfl⟩ rfl rfl rfl rfl rfl (by kernel_rfl) Try.func3 (by kernel_rfl)
    (of_decide_eq_true (by kernel_rfl)) (by unfold Func.isWrapper; first | (rw [if_pos (by decide +kernel)]; kernel_rfl) | (rw [if_neg (by decide +kernel)]; exact ⟨rfl, rfl⟩))
    (fun os started H enc _ => lifted_FnThrust os started H enc)
end Go.Proofs.Ytklhaanapembdaa
