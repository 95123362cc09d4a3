/- The plain law of thrusts: what WhyNot tells proves the fall; bounds, thrust and line of a small arch that stands; an arch that is higher outside stands with no more thrust; no program in sight. -/
import Derived.Test.YtklhaanapembdaaM13
import Derived.Test.YtklhaanapembdaaM14
import Derived.Test.YtklhaanapembdaaM15
import Derived.Test.YtklhaanapembdaaDrawB

namespace Go.Proofs.Ytklhaanapembdaa
set_option linter.unusedVariables false
set_option linter.unusedSimpArgs false

theorem four_cnd {ls lo hi : List Int} {j k p q : Nat} (h1 : k < j) (h2 : j < lo.length) (h3 : p < q) (h4 : q < lo.length) :
    fourB (jl (cnd ls lo hi j k p q)) ((lo.length : Int) - 1) = true ∧ cndZ ls lo hi (jl (cnd ls lo hi j k p q)) = cnd ls lo hi j k p q := by
  refine ⟨?_, by simp [cndZ, jl, cnd]⟩
  unfold fourB
  rw [insB_mk (fun i hI => ?_), decide_eq_true (show (jl (cnd ls lo hi j k p q)).length = 4 from rfl)]
  · have e0 : (jl (cnd ls lo hi j k p q)).getD 0 0 = (j : Int) := rfl
    have e1 : (jl (cnd ls lo hi j k p q)).getD 1 0 = (k : Int) := rfl
    have e2 : (jl (cnd ls lo hi j k p q)).getD 2 0 = (p : Int) := rfl
    have e3 : (jl (cnd ls lo hi j k p q)).getD 3 0 = (q : Int) := rfl
    rw [e0, e1, e2, e3, decide_eq_true (by omega), decide_eq_true (by omega)]
    rfl
  · have hi' : i < 4 := hI
    have e0 : (jl (cnd ls lo hi j k p q)).getD 0 0 = (j : Int) := rfl
    have e1 : (jl (cnd ls lo hi j k p q)).getD 1 0 = (k : Int) := rfl
    have e2 : (jl (cnd ls lo hi j k p q)).getD 2 0 = (p : Int) := rfl
    have e3 : (jl (cnd ls lo hi j k p q)).getD 3 0 = (q : Int) := rfl
    have hc : i = 0 ∨ i = 1 ∨ i = 2 ∨ i = 3 := by omega
    rcases hc with rfl | rfl | rfl | rfl
    · rw [e0]; omega
    · rw [e1]; omega
    · rw [e2]; omega
    · rw [e3]; omega
theorem four_mem {ls lo hi : List Int} {c : Cnd} (h : c ∈ qAll ls lo hi lo.length lo.length) : fourB (jl c) ((lo.length : Int) - 1) = true ∧ cndZ ls lo hi (jl c) = c := by
  obtain ⟨j, k, p, q, h1, h2, h3, h4, rfl⟩ := qAll_mem.1 h
  exact four_cnd h1 h2 h3 h4
/-- What WhyNot tells of an arch that falls proves it. -/
theorem fall_law {ls lo hi : List Int} (hv : blkB ls lo hi = true) (hs : standB (bfind ls lo hi) = false) : wnC ls lo hi = 0 ∧ pfC ls lo hi (wnL ls lo hi) (wnH ls lo hi) = 0 ∧ pfV ls lo hi (wnL ls lo hi) (wnH ls lo hi) = true := by
  have hB := best_find ls lo hi
  have hh := bfind_hh hv
  obtain ⟨k1, k2, k3⟩ := hB.high hh
  obtain ⟨f1, f2⟩ := four_mem k1
  cases hn : (bfind ls lo hi).hn
  · by_cases ha : (bfind ls lo hi).high.a < 0
    · obtain ⟨e1, e2, e3⟩ := wn_both hv hs hn ha
      obtain ⟨g1, g2, g3⟩ := both_low (bfind_good hv) hh hs hn ha
      obtain ⟨j1, j2, j3⟩ := hB.low g1
      obtain ⟨f3, f4⟩ := four_mem j1
      rw [e1, e2, e3]
      obtain ⟨p1, p2⟩ := pf_ok hv (zl := jl (bfind ls lo hi).low) (zh := jl (bfind ls lo hi).high) (.inr f3) f1
      refine ⟨rfl, p1, ?_⟩
      rw [p2, f2, f4]
      unfold standB at hs
      rw [hn, hh, g1, decide_eq_true ha] at hs
      have hl : lessC (bfind ls lo hi).high.a (bfind ls lo hi).high.b (bfind ls lo hi).low.a (bfind ls lo hi).low.b = true := by simpa using hs
      unfold pfY
      rw [if_neg (by omega), if_neg (by omega), if_neg (by omega), if_neg (by rw [jl_len]; omega), hl, decide_eq_true g3]
      rfl
    · obtain ⟨e1, e2, e3⟩ := wn_high hv hs hn ha
      rw [e1, e2, e3]
      obtain ⟨p1, p2⟩ := pf_ok hv (zl := []) (zh := jl (bfind ls lo hi).high) (.inl rfl) f1
      refine ⟨rfl, p1, ?_⟩
      rw [p2, f2]
      unfold pfY
      rw [if_neg (by omega), if_neg (by omega), if_pos (by omega)]
  · obtain ⟨e1, e2, e3⟩ := wn_never hv hs hn
    obtain ⟨j1, j2, j3⟩ := hB.neverT hn
    obtain ⟨f3, f4⟩ := four_mem j1
    rw [e1, e2, e3]
    obtain ⟨p1, p2⟩ := pf_ok hv (zl := []) (zh := jl (bfind ls lo hi).never) (.inl rfl) f3
    refine ⟨rfl, p1, ?_⟩
    rw [p2, f4]
    unfold pfY
    rw [if_neg (by omega), if_pos j2, decide_eq_true j3]
/-! ### Numbers of a small arch -/
structure SmallC (ls lo hi : List Int) : Prop where
  n : ls.length ≤ 5
  l : ∀ i, i < ls.length → 1 ≤ ls.getD i 0 ∧ ls.getD i 0 ≤ 6
  a : ∀ i, i < ls.length + 1 → 0 ≤ lo.getD i 0 ∧ lo.getD i 0 ≤ 100
  b : ∀ i, i < ls.length + 1 → 0 ≤ hi.getD i 0 ∧ hi.getD i 0 ≤ 100
theorem SmallB.toC {ls lo hi : List Int} (hv : blkB ls lo hi = true) (h : SmallB ls lo hi) : SmallC ls lo hi := by
  obtain ⟨v1, v2, v3, v4, v5, v6, v7, v8⟩ := blkB_t hv
  obtain ⟨h1, h2, h3, h4⟩ := h
  have key : ∀ (l : List Int) (u v : Int), (∀ x ∈ l, u ≤ x ∧ x ≤ v) → ∀ i, i < l.length → u ≤ l.getD i 0 ∧ l.getD i 0 ≤ v := fun l u v h i hi => h _ (by rw [List.getD_eq_getElem?_getD, List.getElem?_eq_getElem hi]; exact List.getElem_mem hi)
  exact ⟨h1, key ls 1 6 h2, fun i hI => by have := key lo 0 90 h3 i (by omega); omega, fun i hI => by have := key hi 0 90 h4 i (by omega); omega⟩
theorem momS_small {ls : List Int} {k : Nat} (hk : k ≤ 5) (h : ∀ i, i < ls.length → 1 ≤ ls.getD i 0 ∧ ls.getD i 0 ≤ 6) (hl : k ≤ ls.length) (i : Nat) (hi : i ≤ k) : 0 ≤ momS ls k i ∧ momS ls k i ≤ 60 * (i : Int) := by
  induction i with
  | zero => simp [momS]
  | succ i ih =>
    have h1 := ih (by omega)
    have h2 := h i (by omega)
    have h3 := mul_bd (a := ls.getD i 0) (b := 2 * (k : Int) - 2 * (i : Int) - 1) (A := 6) (B := 10) (by omega) (by omega) (by omega) (by omega)
    simp only [momS]
    omega
theorem momAt_small {ls lo hi : List Int} (h : SmallC ls lo hi) {k : Nat} (hk : k ≤ ls.length) : 0 ≤ momAt ls k ∧ momAt ls k ≤ 300 := by
  have h1 := h.n
  have := momS_small (k := k) (by omega) h.l hk k (Nat.le_refl _)
  unfold momAt
  omega
theorem cnd_small {ls lo hi : List Int} (hv : blkB ls lo hi = true) (h : SmallC ls lo hi) {c : Cnd} (hc : c ∈ qAll ls lo hi lo.length lo.length) : -1000 ≤ c.a ∧ c.a ≤ 1000 ∧ -3000 ≤ c.b ∧ c.b ≤ 3000 := by
  obtain ⟨v1, v2, v3, v4, v5, v6, v7, v8⟩ := blkB_t hv
  obtain ⟨j, k, p, q, h1, h2, h3, h4, rfl⟩ := qAll_mem.1 hc
  have hn := h.n
  have aj := h.a j (by omega)
  have ap := h.a p (by omega)
  have bk := h.b k (by omega)
  have bq := h.b q (by omega)
  have mj := momAt_small h (k := j) (by omega)
  have mk := momAt_small h (k := k) (by omega)
  have mp := momAt_small h (k := p) (by omega)
  have mq := momAt_small h (k := q) (by omega)
  have p1 := prod_bd (x := lo.getD j 0 - hi.getD k 0) (y := (q : Int) - p) (A := 100) (B := 5) (by omega) (by omega) (by omega) (by omega) (by omega)
  have p2 := prod_bd (x := hi.getD q 0 - lo.getD p 0) (y := (j : Int) - k) (A := 100) (B := 5) (by omega) (by omega) (by omega) (by omega) (by omega)
  have p3 := prod_bd (x := momAt ls q - momAt ls p) (y := (j : Int) - k) (A := 300) (B := 5) (by omega) (by omega) (by omega) (by omega) (by omega)
  have p4 := prod_bd (x := momAt ls j - momAt ls k) (y := (q : Int) - p) (A := 300) (B := 5) (by omega) (by omega) (by omega) (by omega) (by omega)
  show -1000 ≤ cA lo hi j k p q ∧ cA lo hi j k p q ≤ 1000 ∧ -3000 ≤ cB (momAt ls) j k p q ∧ cB (momAt ls) j k p q ≤ 3000
  unfold cA cB
  omega
/-- The numbers of an arch that stands. -/
structure StandN (ls lo hi : List Int) : Prop where
  n1 : 1 ≤ sN (bfind ls lo hi)
  n2 : sN (bfind ls lo hi) ≤ 1000
  d1 : 1 ≤ sD (bfind ls lo hi)
  d2 : sD (bfind ls lo hi) ≤ 3000
  t1 : 1 ≤ ltN ls lo hi
  t2 : ltN ls lo hi ≤ 3000
  t3 : 1 ≤ ltD ls lo hi
  t4 : ltD ls lo hi ≤ 2000
  tx : ltN ls lo hi * (2 * sN (bfind ls lo hi)) = sD (bfind ls lo hi) * ltD ls lo hi
  l1 : 0 ≤ cvLN ls lo hi
  l2 : cvLN ls lo hi ≤ 1000
  l3 : 1 ≤ cvLD ls lo hi
  l4 : cvLD ls lo hi ≤ 3000
  lx : cvLN ls lo hi * sD (bfind ls lo hi) ≤ sN (bfind ls lo hi) * cvLD ls lo hi
  hN : cvHN ls lo hi = sN (bfind ls lo hi)
  hD : cvHD ls lo hi = sD (bfind ls lo hi)
theorem stand_nums {ls lo hi : List Int} (h : canV ls lo hi = true) (hc : SmallC ls lo hi) : StandN ls lo hi := by
  obtain ⟨hv, hs⟩ := canV_t h
  obtain ⟨c1, c2, c3, c4, c5, c6⟩ := cv_yes h
  have hB := best_find ls lo hi
  have hh := bfind_hh hv
  obtain ⟨b1, a1, n1, d1, hall⟩ := stand_all hB hs hh
  obtain ⟨k1, _, _⟩ := hB.high hh
  obtain ⟨m1, m2, m3, m4⟩ := cnd_small hv hc k1
  have n2 : sN (bfind ls lo hi) ≤ 1000 := Int.le_trans (lwN_le _ _ (by omega)) (by omega)
  have d2 : sD (bfind ls lo hi) ≤ 3000 := Int.le_trans (lwD_le _ _ (by omega)) (by omega)
  refine ⟨n1, n2, d1, d2, ?_, ?_, ?_, ?_, ?_, ?_, ?_, ?_, ?_, ?_, c3, c4⟩
  · rw [c5]; exact lwN_pos _ _ (by omega)
  · rw [c5]; exact Int.le_trans (lwN_le _ _ (by omega)) (by omega)
  · rw [c6]; exact lwD_pos _ _ (by omega)
  · rw [c6]; exact Int.le_trans (lwD_le _ _ (by omega)) (by omega)
  · rw [c5, c6]; exact lw_cross _ _
  all_goals
    first
    | rw [c1]
    | skip
    first
    | rw [c2]
    | skip
    by_cases hl : (bfind ls lo hi).hl = true ∧ 0 < (bfind ls lo hi).low.a
    · obtain ⟨j1, j2, j3⟩ := hB.low hl.1
      obtain ⟨w1, w2, w3, w4⟩ := cnd_small hv hc j1
      have e1 : loN (bfind ls lo hi) = lwN (bfind ls lo hi).low.a (bfind ls lo hi).low.b := if_pos hl
      have e2 : loD (bfind ls lo hi) = lwD (bfind ls lo hi).low.a (bfind ls lo hi).low.b := if_pos hl
      have u1 := lwN_pos (bfind ls lo hi).low.a (bfind ls lo hi).low.b hl.2
      have u2 := lwN_le (bfind ls lo hi).low.a (bfind ls lo hi).low.b (by omega)
      have u3 := lwD_pos (bfind ls lo hi).low.a (bfind ls lo hi).low.b j2
      have u4 := lwD_le (bfind ls lo hi).low.a (bfind ls lo hi).low.b j2
      have ux : lwN (bfind ls lo hi).low.a (bfind ls lo hi).low.b * sD (bfind ls lo hi) ≤ sN (bfind ls lo hi) * lwD (bfind ls lo hi).low.a (bfind ls lo hi).low.b := by
        have x1 := lwN_mul (bfind ls lo hi).low.a (bfind ls lo hi).low.b
        have x2 := lwD_mul (bfind ls lo hi).low.a (bfind ls lo hi).low.b
        have x3 := gcd_ge (bfind ls lo hi).low.a (bfind ls lo hi).low.b j2
        have x4 := hall _ j1
        refine Int.le_of_mul_le_mul_right ?_ (show (0 : Int) < (Int.gcd (bfind ls lo hi).low.a (bfind ls lo hi).low.b : Int) by omega)
        rw [Int.mul_right_comm, x1, Int.mul_assoc, x2]
        exact x4
      first
      | (rw [e1, e2]; exact ux)
      | (rw [e1]; omega)
      | (rw [e2]; omega)
    · have e1 : loN (bfind ls lo hi) = 0 := if_neg hl
      have e2 : loD (bfind ls lo hi) = 1 := if_neg hl
      first
      | (rw [e1, e2]; omega)
      | (rw [e1]; omega)
      | (rw [e2]; omega)
/-- The line of thrust bends by the curvature. -/
theorem lot_bend {ls lo hi : List Int} (h : canV ls lo hi = true) : -bendAt (lotI ls lo hi) 1 * sD (bfind ls lo hi) = sN (bfind ls lo hi) * (ls.getD 0 0 + ls.getD 1 0) * lotD ls lo hi ∧ (lotI ls lo hi).length = lo.length := by
  obtain ⟨hv, hs⟩ := canV_t h
  obtain ⟨v1, v2, v3, v4, v5, v6, v7, v8⟩ := blkB_t hv
  obtain ⟨n1, n2, d1, d2⟩ := s_sharp hv hs
  obtain ⟨b1, b2, b3, b4, b5, b6⟩ := lt_bd hv hs
  obtain ⟨e1, e2⟩ := lot_yes h
  obtain ⟨f1, f2⟩ := lot_spec hv hs
  rw [← f1] at e1
  have hd : 0 < sD (bfind ls lo hi) * (ltS ls lo hi).2 := Int.mul_pos (by omega) (by omega)
  have hC := coV_pos ls lo hd ((ltS ls lo hi).1 * sD (bfind ls lo hi)) (sN (bfind ls lo hi) * (ltS ls lo hi).2) lo.length lo.length
  have hD := ldV_mul ls lo (sD (bfind ls lo hi) * (ltS ls lo hi).2) ((ltS ls lo hi).1 * sD (bfind ls lo hi)) (sN (bfind ls lo hi) * (ltS ls lo hi).2) lo.length
  have hZ := fun k hk => liV_mul ls lo (sD (bfind ls lo hi) * (ltS ls lo hi).2) ((ltS ls lo hi).1 * sD (bfind ls lo hi)) (sN (bfind ls lo hi) * (ltS ls lo hi).2) lo.length k hk
  have hbend := ouV_bend ls lo (sD (bfind ls lo hi) * (ltS ls lo hi).2) ((ltS ls lo hi).1 * sD (bfind ls lo hi)) (sN (bfind ls lo hi) * (ltS ls lo hi).2) lo.length 0
  have hlen := liV_len ls lo (sD (bfind ls lo hi) * (ltS ls lo hi).2) ((ltS ls lo hi).1 * sD (bfind ls lo hi)) (sN (bfind ls lo hi) * (ltS ls lo hi).2) lo.length
  rw [← e1] at hlen hZ
  rw [f2, ← e2] at hD
  refine ⟨?_, hlen⟩
  rw [← hZ (0 + 2) (by omega), ← hZ (0 + 1) (by omega), ← hZ 0 (by omega)] at hbend
  generalize lotI ls lo hi = Z at *
  generalize lotD ls lo hi = D at *
  generalize coV ls lo (sD (bfind ls lo hi) * (ltS ls lo hi).2) ((ltS ls lo hi).1 * sD (bfind ls lo hi)) (sN (bfind ls lo hi) * (ltS ls lo hi).2) lo.length lo.length = C at *
  clear hZ f1 f2 e1 e2 hd
  unfold bendAt
  simp only [Nat.zero_add] at hbend
  rw [show (1 : Nat) + 1 = 2 from rfl, show (1 : Nat) - 1 = 0 from rfl]
  generalize (ltS ls lo hi).2 = cD at *
  generalize sD (bfind ls lo hi) = sd at *
  generalize sN (bfind ls lo hi) = sn at *
  generalize Z.getD 2 0 = z2 at *
  generalize Z.getD 1 0 = z1 at *
  generalize Z.getD 0 0 = z0 at *
  generalize ls.getD 0 0 = u at *
  generalize ls.getD 1 0 = v at *
  refine Int.eq_of_mul_eq_mul_right (show C ≠ 0 by omega) ?_
  grind
/-- The line's numbers. -/
theorem lot_nums {ls lo hi : List Int} (h : canV ls lo hi = true) : (∀ i, i < lo.length → -100000000000 ≤ (lotI ls lo hi).getD i 0 ∧ (lotI ls lo hi).getD i 0 ≤ 100000000000) ∧ 1 ≤ lotD ls lo hi ∧ lotD ls lo hi ≤ 100000000 := by
  have h1 := (lot_isLine h).1
  have hl := (lot_bend h).2
  unfold lineC at h1
  rw [if_pos (canV_t h).1] at h1
  by_cases hq : (decide ((lotI ls lo hi).length = lo.length) && insB (lotI ls lo hi) (-100000000000) 100000000000 && inB (lotD ls lo hi) 1 100000000) = true
  · simp only [Bool.and_eq_true] at hq
    have := inB_t hq.2
    exact ⟨fun i hi => insB_t hq.1.2 i (by omega), this.1, this.2⟩
  · rw [if_neg hq] at h1; omega
/-! ### An arch that is higher outside -/
theorem set_ge (hi : List Int) (at' : Nat) (i : Nat) : hi.getD i 0 ≤ (hi.set at' (hi.getD at' 0 + 1)).getD i 0 ∧ (hi.set at' (hi.getD at' 0 + 1)).getD i 0 ≤ hi.getD i 0 + 1 := by
  by_cases e : at' = i
  · subst e
    by_cases hl : at' < hi.length
    · have : (hi.set at' (hi.getD at' 0 + 1)).getD at' 0 = hi.getD at' 0 + 1 := by rw [List.getD_eq_getElem?_getD, List.getElem?_set_self hl]; rfl
      omega
    · rw [List.set_eq_of_length_le (by omega)]; omega
  · have : (hi.set at' (hi.getD at' 0 + 1)).getD i 0 = hi.getD i 0 := by rw [List.getD_eq_getElem?_getD, List.getElem?_set_ne e, ← List.getD_eq_getElem?_getD]
    omega
theorem higher_law {ls lo hi : List Int} (h : canV ls lo hi = true) (hc : SmallB ls lo hi) (at' : Nat) :
    csC ls lo (hi.set at' (hi.getD at' 0 + 1)) = 0 ∧ StandN ls lo (hi.set at' (hi.getD at' 0 + 1)) ∧ ltN ls lo (hi.set at' (hi.getD at' 0 + 1)) * ltD ls lo hi ≤ ltN ls lo hi * ltD ls lo (hi.set at' (hi.getD at' 0 + 1)) := by
  obtain ⟨hv, hs⟩ := canV_t h
  have hC := SmallB.toC hv hc
  obtain ⟨v1, v2, v3, v4, v5, v6, v7, v8⟩ := blkB_t hv
  have hg := set_ge hi at'
  have hlen : (hi.set at' (hi.getD at' 0 + 1)).length = hi.length := by simp
  have hb90 : ∀ i, i < ls.length + 1 → hi.getD i 0 ≤ 90 := fun i hi' => (hc.2.2.2 _ (by rw [List.getD_eq_getElem?_getD, List.getElem?_eq_getElem (by omega)]; exact List.getElem_mem _)).2
  generalize hi.set at' (hi.getD at' 0 + 1) = hi' at *
  have hv' : blkB ls lo hi' = true := by
    have hv2 := hv
    unfold blkB at hv2 ⊢
    simp only [Bool.and_eq_true, decide_eq_true_eq] at hv2 ⊢
    obtain ⟨⟨⟨⟨⟨⟨h1, h2⟩, h3⟩, h4⟩, h5⟩, h6⟩, h7⟩ := hv2
    refine ⟨⟨⟨⟨⟨⟨h1, h2⟩, h3⟩, by omega⟩, h5⟩, insB_mk fun i hi => ?_⟩, leB_mk fun i hi => ?_⟩
    · have := hg i; have := hC.b i (by omega); omega
    · have := hg i; have := v8 i (by omega); omega
  have hC' : SmallC ls lo hi' := ⟨hC.n, hC.l, hC.a, fun i hi => by have := hg i; have := hC.b i hi; have := hb90 i hi; omega⟩
  obtain ⟨n1, d1, hA⟩ := stand_has hv hs
  obtain ⟨s1, s2⟩ := stand_blk hv' n1 d1 (allC_higher (by omega) (fun i => (hg i).1) hA)
  have hcv : canV ls lo hi' = true := by rw [canV_eq hv', s1]
  have N := stand_nums h hC
  have N' := stand_nums hcv hC'
  refine ⟨cs_ok hv' s1, N', ?_⟩
  have x1 := N.tx
  have x2 := N'.tx
  have y1 := N.t1
  have y2 := N.t3
  have y3 := N'.t1
  have y4 := N'.t3
  have z1 := N.n1
  have z2 := N'.n1
  generalize ltN ls lo hi = a at *
  generalize ltD ls lo hi = b at *
  generalize ltN ls lo hi' = a' at *
  generalize ltD ls lo hi' = b' at *
  generalize sN (bfind ls lo hi) = n at *
  generalize sD (bfind ls lo hi) = d at *
  generalize sN (bfind ls lo hi') = n' at *
  generalize sD (bfind ls lo hi') = d' at *
  have hp : 0 < (2 * n) * (2 * n') := Int.mul_pos (by omega) (by omega)
  refine Int.le_of_mul_le_mul_right ?_ hp
  have e1 : a' * b * ((2 * n) * (2 * n')) = (a' * (2 * n')) * (2 * n) * b := by simp only [Int.mul_assoc, Int.mul_comm, Int.mul_left_comm]
  have e2 : a * b' * ((2 * n) * (2 * n')) = (a * (2 * n)) * (2 * n') * b' := by simp only [Int.mul_assoc, Int.mul_comm, Int.mul_left_comm]
  rw [e1, e2, x1, x2]
  have e3 : d' * b' * (2 * n) * b = (n * d') * (2 * (b * b')) := by simp only [Int.mul_assoc, Int.mul_comm, Int.mul_left_comm]
  have e4 : d * b * (2 * n') * b' = (n' * d) * (2 * (b * b')) := by simp only [Int.mul_assoc, Int.mul_comm, Int.mul_left_comm]
  rw [e3, e4]
  exact Int.mul_le_mul_of_nonneg_right s2 (by have := Int.mul_nonneg (show 0 ≤ b by omega) (show 0 ≤ b' by omega); omega)
end Go.Proofs.Ytklhaanapembdaa
