/- Contracts of the reference's drawing of a course (l06Draw, A2Course, A2Length): a course of the length comes; condition: the bytes can be read, at most 3000 of them. -/
import Derived.Deep.LoopGhost
import Derived.Test.YtklhaanapembdaaM40
import Derived.Test.YtklhaanapembdaaCourS
import Derived.Test.YtklhaanapembdaaDrawB

namespace Go.Proofs.Ytklhaanapembdaa
set_option linter.unusedVariables false
open Go.RowKit

theorem ord_at (q : Nat) (hq : q < 5) (h : q < (⟨#[83, 72, 84, 66, 67]⟩ : ByteArray).size) : (⟨#[83, 72, 84, 66, 67]⟩ : ByteArray)[q] = (ordN (q : Int)).toUInt8 := by
  match q, hq with
  | 0, _ => rfl
  | 1, _ => rfl
  | 2, _ => rfl
  | 3, _ => rfl
  | 4, _ => rfl
theorem two_at (q : Nat) (hq : q < 2) (h : q < (⟨#[83, 72]⟩ : ByteArray).size) : (⟨#[83, 72]⟩ : ByteArray)[q] = (if (q : Int) = 0 then 83 else 72 : Nat).toUInt8 := by
  match q, hq with
  | 0, _ => rfl
  | 1, _ => rfl
theorem qU_nat {n : Nat} (h : n < 256) : qU n.toUInt8 = (qN n : Int) := by
  unfold qU qN
  have e : ∀ m : Nat, m < 256 → (n.toUInt8 = m.toUInt8 ↔ n = m) := fun m hm => by
    constructor
    · intro h2
      have h3 : n.toUInt8.toNat = m.toUInt8.toNat := by rw [h2]
      simp at h3
      omega
    · intro h2; rw [h2]
  have e1 := e 83 (by omega)
  have e2 := e 84 (by omega)
  have e3 := e 72 (by omega)
  have e4 := e 66 (by omega)
  have e5 := e 67 (by omega)
  simp only [show (83 : Nat).toUInt8 = 83 from rfl, show (84 : Nat).toUInt8 = 84 from rfl, show (72 : Nat).toUInt8 = 72 from rfl, show (66 : Nat).toUInt8 = 66 from rfl, show (67 : Nat).toUInt8 = 67 from rfl] at e1 e2 e3 e4 e5
  simp only [e1, e2, e3, e4, e5]
  repeat' split
  all_goals rfl
/-- The course that has been drawn. -/
def outB (l : List Nat) : List UInt8 := l.map Nat.toUInt8
theorem outB_snoc (l : List Nat) (c : Nat) : outB (l ++ [c]) = outB l ++ [c.toUInt8] := by simp [outB]
theorem outB_sum {l : List Nat} (h : ∀ c ∈ l, 1 ≤ qN c ∧ c < 256) : sumU (outB l) = (sumN l : Int) ∧ Pcs (outB l) := by
  induction l with
  | nil => exact ⟨rfl, (fun c hc => by cases hc)⟩
  | cons d l ih =>
    obtain ⟨h1, h2⟩ := ih (fun c hc => h c (by simp [hc]))
    obtain ⟨g1, g2⟩ := h d (by simp)
    have e := qU_nat g2
    refine ⟨?_, ?_⟩
    · show qU d.toUInt8 + sumU (outB l) = ((qN d + sumN l : Nat) : Int)
      rw [h1, e]; omega
    · intro c hc
      rcases List.mem_cons.1 hc with rfl | hc
      · show 1 ≤ qU d.toUInt8
        rw [e]; omega
      · exact h2 c hc
theorem rd_cour {n : Nat} {x : Rd} (h : RdOk n x) (hl : x.left = 0) (h1 : 1 ≤ n) (h2 : n ≤ 40) : Cour (n : Int) (⟨(outB x.out).toArray⟩ : ByteArray) := by
  obtain ⟨e1, e2⟩ := outB_sum h.2.2
  have := h.1
  exact cour_mk (s := ⟨(outB x.out).toArray⟩) (by simpa using e2) (by rw [e1]; omega) (by omega) (by omega)
theorem rd_room {n : Nat} {x : Rd} (h : RdOk n x) : x.out.length ≤ n ∧ x.left ≤ n := by have := h.1; have := h.2.1; omega
theorem rnd_yes {zs : List Int} {x : Rd} (h : qN (ltrN zs x.p) ≤ x.left) : rnd zs x = ⟨nx3 zs x.p, x.out ++ [ltrN zs x.p], x.left - qN (ltrN zs x.p)⟩ := by unfold rnd; rw [if_pos h]
theorem rnd_no {zs : List Int} {x : Rd} (h : ¬ qN (ltrN zs x.p) ≤ x.left) : rnd zs x = ⟨nx3 zs x.p, x.out, x.left⟩ := by unfold rnd; rw [if_neg h]
theorem SrcX.rowlt {w : World} {b : Nat} {a : Option Addr} {len cap : Nat} {zs : List Int} {p : Nat × Nat} (h : SrcX w b a len cap zs p) : 0 < len → ∀ x, a = some x → x.block < w.heap.size := fun h0 x hx => by
  obtain ⟨rb, o, ha, hb, _⟩ := h.1.2.2.2.2 h0
  rw [ha] at hx
  injection hx with hx
  subst hx
  exact hb
set_option maxHeartbeats 400000 in
theorem l06Order_any (w : World) : Calls Try.prog 129 #[] w fun e w' => e = .returned (.string ⟨#[83, 72, 84, 66, 67]⟩) ∧ w = w' := by
  go_enter Try.func129, Try.ntmps129
  go_wp2
  go_ret
  exact ⟨rfl, rfl⟩
/-- Bounds of a place, hidden from the walk. -/
def PlcOk (p : Nat × Nat) (g M : Nat) : Prop := p.1 + 3 * g ≤ M ∧ M ≤ 1000000000000000 * 200 ∧ p.2 < 18446744073709551616
theorem PlcOk.h1 {p : Nat × Nat} {g M : Nat} (h : PlcOk p g M) : p.1 ≤ 1000000000000000000 := by have := h.1; have := h.2.1; omega
theorem PlcOk.nx {zs : List Int} {p : Nat × Nat} {g M : Nat} (h : PlcOk p (g + 1) M) : (nxS zs p).1 ≤ 1000000000000000000 ∧ (nxS zs p).2 < 18446744073709551616 := ⟨by have := h.1; have := h.2.1; show p.1 + 1 ≤ _; omega, nx_lt _ _⟩
theorem PlcOk.nxx {zs : List Int} {p : Nat × Nat} {g M : Nat} (h : PlcOk p (g + 1) M) : (nxS zs (nxS zs p)).1 ≤ 1000000000000000000 ∧ (nxS zs (nxS zs p)).2 < 18446744073709551616 := ⟨by have := h.1; have := h.2.1; show p.1 + 1 + 1 ≤ _; omega, nx_lt _ _⟩
theorem PlcOk.nx3 {zs : List Int} {p : Nat × Nat} {g M : Nat} (h : PlcOk p (g + 1) M) : PlcOk (nx3 zs p) g M := by
  have h1 := (nx3_at zs p).2
  refine ⟨by have := h.1; omega, h.2.1, ?_⟩
  unfold Go.Proofs.Ytklhaanapembdaa.nx3
  split <;> exact nx_lt _ _
set_option maxRecDepth 100000 in
set_option maxHeartbeats 8000000 in
theorem l06Draw_any (b : Nat) (a : Option Addr) (len cap : Nat) (zs : List Int) (n : Nat) (w : World) (h : SrcX w b a len cap zs (0, 0)) (n1 : 1 ≤ n) (n2 : n ≤ 40) (hlen : len ≤ 3000) :
    Calls Try.prog 90 #[.pointer (some ⟨b, 0, none⟩), .int .i64 (n : Int)] w fun e w' => ∃ s : ByteArray, e = .returned (.string s) ∧ Cour (n : Int) s ∧ w.grownBy w' (some b) := by
  obtain ⟨j0, hj, hj0, hj1, hj2⟩ := info_parts info_u8
  have hbl := h.lt
  have HRA := Lib.hid h.rowlt
  have hzl : zs.length = len := h.1.1
  obtain ⟨K, hK, hKe⟩ := draw_ends zs n ⟨(0, 0), [], n⟩ (Nat.le_refl _)
  have HM : Hid (PlcOk (0, 0) K (3 * K)) := Lib.hid ⟨by show 0 + 3 * K ≤ 3 * K; omega, by
    rw [hzl] at hK
    have : n * (len + 281474976710657) ≤ 40 * (3000 + 281474976710657) := Nat.mul_le_mul n2 (by omega)
    omega, by show 0 < _; omega⟩
  have HKe := Lib.hid hKe
  have HR0 : Hid (RdOk n ⟨(0, 0), [], n⟩) := Lib.hid ⟨by show sumN [] + n = n; simp [sumN], by simp, (fun c hc => by cases hc)⟩
  have H0 := Lib.hid (h.alloc (.cells #[] 5))
  generalize 3 * K = M at *
  clear h hzl hK hKe
  go_enter Try.func90, Try.ntmps90
  go_wp2_with fail
  go_loopg [5, 6, 7] K (fun g ov lv _ wr => ∃ (x : Rd) (vo : Value), (it (rnd zs) g x).left = 0 ∧ vo = ov ∧ lv = .int .i64 (x.left : Int) ∧ RdOk n x ∧ PlcOk x.p g M ∧ OwnU wr w.heap.size vo (outB x.out) ∧ SrcX wr b a len cap zs x.p ∧ w.grownBy wr (some b))
  case atStart => exact ⟨⟨(0, 0), [], n⟩, _, HKe.out, rfl, rfl, HR0.out, HM.out, ownU_empty _ _ (Nat.le_refl _), H0.out, grown_alloc (World.grownBy.refl _ _) _⟩
  case round =>
    clear HKe HR0 HM H0
    obtain ⟨x, vo, hit, rfl, rfl, hR, hP, hU, hS, hG⟩ := hrel
    have hrm := rd_room hR
    have HR := Lib.hid hR
    by_cases hl0 : x.left = 0
    · have HC := Lib.hid (rd_cour hR hl0 n1 n2)
      have hpos : 0 < (outB x.out).length := by
        have h0 := HC.out.s0
        have e : (⟨(outB x.out).toArray⟩ : ByteArray).size = (outB x.out).length := by show (outB x.out).toArray.size = _; simp
        omega
      obtain ⟨aL, cL, rfl⟩ := hU.shape
      have hcv := hU.text hpos
      have HG := Lib.hid hG
      have hlI : (x.left : Int) = 0 := by omega
      rw [hlI] at *
      generalize hTT : (⟨(outB x.out).toArray⟩ : ByteArray) = T at *
      generalize (outB x.out).length = nL at *
      clear hit hR hP hU hS hG HR hTT hl0 hlI hpos hrm
      go_wp2
      go_ret
      exact ⟨T, rfl, HC.out, HG.out⟩
    · obtain ⟨g, rfl⟩ : ∃ g, gk = g + 1 := by
        rcases Nat.eq_zero_or_pos gk with h | h
        · subst h; exact absurd hit hl0
        · exact ⟨gk - 1, by omega⟩
      have hlp : (0 : Int) < (x.left : Int) := by omega
      have HIT : Hid ((it (rnd zs) g (rnd zs x)).left = 0) := Lib.hid hit
      have HPN : Hid (PlcOk (nx3 zs x.p) g M) := Lib.hid hP.nx3
      have HQN : Hid (1 ≤ qN (ltrN zs x.p) ∧ ltrN zs x.p < 256) := Lib.hid (qN_pos zs x.p)
      have HRn := Lib.hid (rnd_ok (zs := zs) hR)
      have HP1 := Lib.hid (pick_x b a len cap zs x.p 5 wr hS hP.h1 hP.2.2 (by omega) (by omega))
      have HP2 := Lib.hid (fun W (hS : SrcX W b a len cap zs (nxS zs x.p)) => one_x b a len cap zs (nxS zs x.p) W hS (hP.nx).1 (hP.nx).2)
      have HP3 := Lib.hid (fun W (hS : SrcX W b a len cap zs (nxS zs (nxS zs x.p))) => pick_x b a len cap zs (nxS zs (nxS zs x.p)) 2 W hS (hP.nxx).1 (hP.nxx).2 (by omega) (by omega))
      have HV := Lib.hid (fun p => nv_bd (hS.1.2.2.2.1 rfl) p)
      have HU := Lib.hid hU
      have HG := Lib.hid hG
      clear hit hP hR hS hU hG hl0
      go_wp2_with (first | (go_at_call 129; refine (l06Order_any _).mono ?_; rintro e w' ⟨rfl, rfl⟩) | fail)
      refine HP1.out.mono ?_
      rintro e1 w1 ⟨rfl, hS1, hG1⟩
      obtain ⟨v0, v1⟩ := HV.out x.p
      obtain ⟨q, hq⟩ : ∃ q : Nat, nvV zs x.p % 5 = (q : Int) := ⟨(nvV zs x.p % 5).toNat, by omega⟩
      have hq5 : q < 5 := by omega
      have hq5' : (q : Int) < 5 := by omega
      have HQ := Lib.hid hq
      have HS1 := Lib.hid hS1
      have HG1 := Lib.hid (grown_trans HG.out hG1)
      have HU1 : Hid (OwnU w1 w.heap.size vo (outB x.out)) := Lib.hid (own_src HU.out hG1 hbl)
      rw [hq]
      clear hS1 hG1 HP1 HG HU v0 v1 hq
      go_wp2_with fail
      generalize hcc : (⟨#[83, 72, 84, 66, 67]⟩ : ByteArray)[q] = c0 at *
      have HC0 : Hid (c0 = (ordN (q : Int)).toUInt8) := Lib.hid (by rw [← hcc]; exact ord_at q hq5 _)
      clear hcc
      refine (HP2.out _ HS1.out).mono ?_
      rintro e2 w2 ⟨rfl, hS2, hG2⟩
      have HS2 := Lib.hid hS2
      have HG2 := Lib.hid (grown_trans HG1.out hG2)
      have HU2 : Hid (OwnU w2 w.heap.size vo (outB x.out)) := Lib.hid (own_src HU1.out hG2 hbl)
      clear hS2 hG2 HP2 HS1 HG1 HU1
      by_cases h2 : nvV zs (nxS zs x.p) % 2 = 0
      · rw [decide_eq_true h2]
        have HN3 : Hid (nx3 zs x.p = nxS zs (nxS zs (nxS zs x.p))) := Lib.hid (by unfold nx3; rw [if_pos h2])
        have HLT : Hid (ltrN zs x.p = if nvV zs (nxS zs (nxS zs x.p)) % 2 = 0 then 83 else 72) := Lib.hid (by unfold ltrN; rw [if_pos h2])
        clear h2
        go_wp2_with fail
        refine (HP3.out _ HS2.out).mono ?_
        rintro e3 w3 ⟨rfl, hS3, hG3⟩
        obtain ⟨v0, v1⟩ := HV.out (nxS zs (nxS zs x.p))
        obtain ⟨r, hr⟩ : ∃ r : Nat, nvV zs (nxS zs (nxS zs x.p)) % 2 = (r : Int) := ⟨(nvV zs (nxS zs (nxS zs x.p)) % 2).toNat, by omega⟩
        have hr2 : r < 2 := by omega
        have hr2' : (r : Int) < 2 := by omega
        rw [← HN3.out] at hS3
        rw [hr] at HLT ⊢
        have HS3 := Lib.hid hS3
        have HG3 := Lib.hid (grown_trans HG2.out hG3)
        have HU3 : Hid (OwnU w3 w.heap.size vo (outB x.out)) := Lib.hid (own_src HU2.out hG3 hbl)
        clear hS3 hG3 HP3 HS2 HG2 HU2 v0 v1 hr
        go_wp2_with fail
        generalize hcc : (⟨#[83, 72]⟩ : ByteArray)[r] = c at *
        have HC : Hid (c = (ltrN zs x.p).toUInt8) := Lib.hid (by rw [← hcc, HLT.out]; exact two_at r hr2 _)
        clear hcc HC0 HLT
        have HQU : Hid (qU c = (qN (ltrN zs x.p) : Int)) := Lib.hid (by rw [HC.out]; exact qU_nat HQN.out.2)
        refine (l02Quarters_any c _).mono ?_
        rintro e4 w4 ⟨rfl, rfl⟩
        rw [HQU.out]
        obtain ⟨qn1, _⟩ := HQN.out
        have HYES := Lib.hid (fun h => rnd_yes (zs := zs) (x := x) h)
        have HNO := Lib.hid (fun h => rnd_no (zs := zs) (x := x) h)
        have HOB := Lib.hid (outB_snoc x.out (ltrN zs x.p))
        obtain ⟨o, ho⟩ : ∃ o, outB x.out = o := ⟨_, rfl⟩
        have HOL : Hid (o.length = x.out.length) := Lib.hid (by rw [← ho]; simp [outB])
        rw [ho, ← HC.out] at HOB
        rw [ho] at HU3
        have HO := Lib.hid ho
        have hz3 := HG3.out.size
        clear ho
        by_cases hfit : qN (ltrN zs x.p) ≤ x.left
        · have HX := Lib.hid (HYES.out hfit)
          have hfit' : (qN (ltrN zs x.p) : Int) ≤ (x.left : Int) := by omega
          have HSUB := Lib.hid (show ((x.left - qN (ltrN zs x.p) : Nat) : Int) = (x.left : Int) - (qN (ltrN zs x.p) : Int) by omega)
          rw [HX.out] at HIT HRn
          generalize hqv : qN (ltrN zs x.p) = qv at *
          obtain ⟨lf, hlf⟩ : ∃ lf, x.left = lf := ⟨_, rfl⟩
          have HLF := Lib.hid hlf
          rw [hlf] at hlp hrm hfit hfit' HSUB HIT HRn ⊢
          clear hlf hqv HYES HNO HX
          obtain ⟨hrm1, hrm2⟩ := hrm
          have hUl : w3.ownsRow w.heap.size 5 1 vo o.length (ucells o) := HU3.out
          have hol : o.length ≤ 40 := by rw [HOL.out]; omega
          generalize hon : o.length = on at *
          go_wp2_with (at_builtin; refine wpList_append_new _ rfl _ _ 22 rfl _ 5 j0 (.int .u8 0) 1 1 Try.underlying22 hj hj0 hj1 hj2 rfl (by decide) _ _ _ rfl (World.ownsRow.alloc hUl _) ⟨w3.heap.size, 0, none⟩ 1 1 [.int .u8 (c.toNat : Int)] rfl rfl (cell_one_new _ _ _) (by simp [Value.oneCell']) (by unfold maxLen; omega) (by omega) (by first | omega | (simp; done) | (simp; omega)) (by decide) ?_; intro v' w1' hown1 hgrow1 hnew1)
          have HUn := Lib.hid (OwnU.snoc hown1 (by rw [hon]))
          have hvb : ∀ k, vo.ownBlock = some k → w.heap.size ≤ k := fun k e => (World.ownsRow.lt hUl k e).1
          have HSn := Lib.hid ((HS3.out.alloc (.cells #[.int .u8 (c.toNat : Int)] 5)).own hgrow1 hvb hbl HRA.out)
          have HGn := Lib.hid (grown_own (grown_alloc HG3.out _) hgrow1 hvb)
          clear hown1 hgrow1 hnew1 hvb hUl HU3 HS3 HG3 hon
          go_wp2_with fail
          refine (l02Quarters_any c _).mono ?_
          rintro e5 w5 ⟨rfl, rfl⟩
          rw [HQU.out]
          go_wp2
          go_roundg g
          case measure => omega
          case rel => exact ⟨⟨nx3 zs x.p, x.out ++ [ltrN zs x.p], lf - qv⟩, _, HIT.out, rfl, by first | (show Value.int _ _ = Value.int _ _; rw [HSUB.out]) | (simp [HSUB.out]), HRn.out, HPN.out, by rw [HOB.out]; exact HUn.out, HSn.out, HGn.out⟩
        · have HX := Lib.hid (HNO.out hfit)
          have hfit' : ¬ (qN (ltrN zs x.p) : Int) ≤ (x.left : Int) := by omega
          rw [HX.out] at HIT HRn
          have HU4 : Hid (OwnU w3 w.heap.size vo (outB x.out)) := Lib.hid (by rw [HO.out]; exact HU3.out)
          generalize hqv : qN (ltrN zs x.p) = qv at *
          clear hqv HYES HNO HX HU3 HO
          go_wp2
          go_roundg g
          case measure => omega
          case rel => exact ⟨⟨nx3 zs x.p, x.out, x.left⟩, _, HIT.out, rfl, rfl, HRn.out, HPN.out, HU4.out, HS3.out, HG3.out⟩
      · rw [decide_eq_false h2]
        have HN3 : Hid (nx3 zs x.p = nxS zs (nxS zs x.p)) := Lib.hid (by unfold nx3; rw [if_neg h2])
        have HLT : Hid (ltrN zs x.p = ordN (q : Int)) := Lib.hid (by unfold ltrN; rw [if_neg h2, HQ.out])
        clear h2
        have HS3 : Hid (SrcX w2 b a len cap zs (nx3 zs x.p)) := Lib.hid (by rw [HN3.out]; exact HS2.out)
        have HC : Hid (c0 = (ltrN zs x.p).toUInt8) := Lib.hid (by rw [HLT.out]; exact HC0.out)
        have HG3 := HG2
        have HU3 := HU2
        clear HS2 HG2 HU2 HP3 HC0 HLT
        go_wp2_with fail
        have HQU : Hid (qU c0 = (qN (ltrN zs x.p) : Int)) := Lib.hid (by rw [HC.out]; exact qU_nat HQN.out.2)
        refine (l02Quarters_any c0 _).mono ?_
        rintro e4 w4 ⟨rfl, rfl⟩
        rw [HQU.out]
        obtain ⟨qn1, _⟩ := HQN.out
        have HYES := Lib.hid (fun h => rnd_yes (zs := zs) (x := x) h)
        have HNO := Lib.hid (fun h => rnd_no (zs := zs) (x := x) h)
        have HOB := Lib.hid (outB_snoc x.out (ltrN zs x.p))
        obtain ⟨o, ho⟩ : ∃ o, outB x.out = o := ⟨_, rfl⟩
        have HOL : Hid (o.length = x.out.length) := Lib.hid (by rw [← ho]; simp [outB])
        rw [ho, ← HC.out] at HOB
        rw [ho] at HU3
        have HO := Lib.hid ho
        have hz3 := HG3.out.size
        clear ho
        by_cases hfit : qN (ltrN zs x.p) ≤ x.left
        · have HX := Lib.hid (HYES.out hfit)
          have hfit' : (qN (ltrN zs x.p) : Int) ≤ (x.left : Int) := by omega
          have HSUB := Lib.hid (show ((x.left - qN (ltrN zs x.p) : Nat) : Int) = (x.left : Int) - (qN (ltrN zs x.p) : Int) by omega)
          rw [HX.out] at HIT HRn
          generalize hqv : qN (ltrN zs x.p) = qv at *
          obtain ⟨lf, hlf⟩ : ∃ lf, x.left = lf := ⟨_, rfl⟩
          have HLF := Lib.hid hlf
          rw [hlf] at hlp hrm hfit hfit' HSUB HIT HRn ⊢
          clear hlf hqv HYES HNO HX
          obtain ⟨hrm1, hrm2⟩ := hrm
          have hUl : w2.ownsRow w.heap.size 5 1 vo o.length (ucells o) := HU3.out
          have hol : o.length ≤ 40 := by rw [HOL.out]; omega
          generalize hon : o.length = on at *
          go_wp2_with (at_builtin; refine wpList_append_new _ rfl _ _ 22 rfl _ 5 j0 (.int .u8 0) 1 1 Try.underlying22 hj hj0 hj1 hj2 rfl (by decide) _ _ _ rfl (World.ownsRow.alloc hUl _) ⟨w2.heap.size, 0, none⟩ 1 1 [.int .u8 (c0.toNat : Int)] rfl rfl (cell_one_new _ _ _) (by simp [Value.oneCell']) (by unfold maxLen; omega) (by omega) (by first | omega | (simp; done) | (simp; omega)) (by decide) ?_; intro v' w1' hown1 hgrow1 hnew1)
          have HUn := Lib.hid (OwnU.snoc hown1 (by rw [hon]))
          have hvb : ∀ k, vo.ownBlock = some k → w.heap.size ≤ k := fun k e => (World.ownsRow.lt hUl k e).1
          have HSn := Lib.hid ((HS3.out.alloc (.cells #[.int .u8 (c0.toNat : Int)] 5)).own hgrow1 hvb hbl HRA.out)
          have HGn := Lib.hid (grown_own (grown_alloc HG3.out _) hgrow1 hvb)
          clear hown1 hgrow1 hnew1 hvb hUl HU3 HS3 HG3 hon
          go_wp2_with fail
          refine (l02Quarters_any c0 _).mono ?_
          rintro e5 w5 ⟨rfl, rfl⟩
          rw [HQU.out]
          go_wp2
          go_roundg g
          case measure => omega
          case rel => exact ⟨⟨nx3 zs x.p, x.out ++ [ltrN zs x.p], lf - qv⟩, _, HIT.out, rfl, by first | (show Value.int _ _ = Value.int _ _; rw [HSUB.out]) | (simp [HSUB.out]), HRn.out, HPN.out, by rw [HOB.out]; exact HUn.out, HSn.out, HGn.out⟩
        · have HX := Lib.hid (HNO.out hfit)
          have hfit' : ¬ (qN (ltrN zs x.p) : Int) ≤ (x.left : Int) := by omega
          rw [HX.out] at HIT HRn
          have HU4 : Hid (OwnU w2 w.heap.size vo (outB x.out)) := Lib.hid (by rw [HO.out]; exact HU3.out)
          generalize hqv : qN (ltrN zs x.p) = qv at *
          clear hqv HYES HNO HX HU3 HO
          go_wp2
          go_roundg g
          case measure => omega
          case rel => exact ⟨⟨nx3 zs x.p, x.out, x.left⟩, _, HIT.out, rfl, rfl, HRn.out, HPN.out, HU4.out, HS3.out, HG3.out⟩
theorem below_of_grown' {w w' : World} {b : Nat} (hb : Below w.heap.size w w') {w2 : World} (hg : w'.grownBy w2 (some b)) (h : w.heap.size ≤ b) : Below w.heap.size w w2 := below_of_grown hb hg h
set_option maxHeartbeats 1000000 in
theorem a2Course_any (a : Option Addr) (len cap : Nat) (zs : List Int) (n : Nat) (w : World) (h : IsRow .u8 w a len cap zs) (n1 : 1 ≤ n) (n2 : n ≤ 40) (hlen : len ≤ 3000) :
    Calls Try.prog 37 #[.slice a len cap, .int .i64 (n : Int)] w fun e w' => ∃ s : ByteArray, e = .returned (.string s) ∧ Cour (n : Int) s ∧ Below w.heap.size w w' := by
  have HF := Lib.hid (fromX_any a len cap zs w h)
  have HD := Lib.hid (fun W (hS : SrcX W w.heap.size a len cap zs (0, 0)) => l06Draw_any w.heap.size a len cap zs n W hS n1 n2 hlen)
  clear h
  go_enter Try.func37, Try.ntmps37
  go_wp2_with fail
  refine HF.out.mono ?_
  rintro e1 w1 ⟨rfl, hS, hb, _⟩
  go_wp2_with fail
  refine (HD.out _ hS).mono ?_
  rintro e2 w2 ⟨s, rfl, hc, hg⟩
  have HX := Lib.hid (And.intro hc (below_of_grown hb hg (Nat.le_refl _)))
  clear hc hg hb hS
  go_wp2
  go_ret
  exact ⟨s, rfl, HX.out⟩
set_option maxHeartbeats 1000000 in
theorem a2Length_any (a : Option Addr) (len cap : Nat) (zs : List Int) (w : World) (h : IsRow .u8 w a len cap zs) :
    Calls Try.prog 28 #[.slice a len cap] w fun e w' => ∃ n : Nat, e = .returned (.int .i64 (n : Int)) ∧ (1 ≤ n ∧ n ≤ 40) ∧ Below w.heap.size w w' := by
  have HF := Lib.hid (fromX_any a len cap zs w h)
  have HP := Lib.hid (fun W (hS : SrcX W w.heap.size a len cap zs (0, 0)) => pick_x w.heap.size a len cap zs (0, 0) 40 W hS (by omega) (by omega) (by omega) (by omega))
  have HV := Lib.hid (nv_bd (h.2.2.2.1 rfl) (0, 0))
  clear h
  go_enter Try.func28, Try.ntmps28
  go_wp2_with fail
  refine HF.out.mono ?_
  rintro e1 w1 ⟨rfl, hS, hb, _⟩
  go_wp2_with fail
  refine (HP.out _ hS).mono ?_
  rintro e2 w2 ⟨rfl, _, hg⟩
  have HX := Lib.hid (below_of_grown hb hg (Nat.le_refl _))
  obtain ⟨v0, v1⟩ := HV.out
  obtain ⟨m, hm⟩ : ∃ m : Nat, 1 + nvV zs (0, 0) % 40 = (m : Int) := ⟨(1 + nvV zs (0, 0) % 40).toNat, by omega⟩
  obtain ⟨r, hr⟩ : ∃ r, nvV zs (0, 0) % 40 = r := ⟨_, rfl⟩
  have hr0 : 0 ≤ r ∧ r < 40 := by omega
  rw [hr] at hm ⊢
  have HM := Lib.hid hm
  have HR : Hid (1 ≤ m ∧ m ≤ 40) := Lib.hid (by omega)
  clear hg hb hS hr hm v0 v1
  go_wp2
  go_ret
  exact ⟨m, ret_int HM.out, HR.out, HX.out⟩
end Go.Proofs.Ytklhaanapembdaa
