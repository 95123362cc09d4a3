/- Pairs of numbers modulo two numbers: a set of pairs that is closed under differences has a size that divides the number of all pairs; no program in sight. -/
import Derived.Test.YtlkdkidpbjpkhaaPtP
namespace Go.Proofs.Ytlkdkidpbjpkhaa

def am (W a b : Nat) : Nat := (a + b) % W
def sm (W a b : Nat) : Nat := (a + (W - b)) % W
theorem am_eq {W a b : Nat} (ha : a < W) (hb : b < W) : am W a b = if a + b < W then a + b else a + b - W := by
  unfold am
  split
  · exact Nat.mod_eq_of_lt (by assumption)
  · rw [Nat.mod_eq_sub_mod (by omega)]; exact Nat.mod_eq_of_lt (by omega)
theorem sm_eq {W a b : Nat} (ha : a < W) (hb : b < W) : sm W a b = if b ≤ a then a - b else a + W - b := by
  unfold sm
  split
  · rw [Nat.mod_eq_sub_mod (by omega)]
    rw [show a + (W - b) - W = a - b by omega]
    exact Nat.mod_eq_of_lt (by omega)
  · rw [show a + (W - b) = a + W - b by omega]; exact Nat.mod_eq_of_lt (by omega)
theorem am_lt {W a b : Nat} (ha : a < W) : am W a b < W := Nat.mod_lt _ (by omega)
theorem sm_lt {W a b : Nat} (ha : a < W) : sm W a b < W := Nat.mod_lt _ (by omega)
theorem am_sm {W a b : Nat} (ha : a < W) (hb : b < W) : am W b (sm W a b) = a := by
  rw [am_eq hb (sm_lt ha), sm_eq ha hb]
  split <;> split <;> omega
theorem sm_am {W t s : Nat} (ht : t < W) (hs : s < W) : sm W (am W t s) t = s := by
  rw [sm_eq (am_lt ht) ht, am_eq ht hs]
  split <;> split <;> omega
theorem sm_sm {W a s t : Nat} (ha : a < W) (hs : s < W) (ht : t < W) : sm W (sm W (am W a s) t) s = sm W a t := by
  rw [sm_eq (sm_lt (am_lt ha)) hs, sm_eq (am_lt ha) ht, sm_eq ha ht, am_eq ha hs]
  split <;> split <;> split <;> (try split) <;> omega
def ad (W H : Nat) (a b : Nat × Nat) : Nat × Nat := (am W a.1 b.1, am H a.2 b.2)
def sb (W H : Nat) (a b : Nat × Nat) : Nat × Nat := (sm W a.1 b.1, sm H a.2 b.2)
def InR (W H : Nat) (a : Nat × Nat) : Prop := a.1 < W ∧ a.2 < H
/-- All pairs. -/
def dec (W k : Nat) : Nat × Nat := (k % W, k / W)
def allG (W H : Nat) : List (Nat × Nat) := (List.range (W * H)).map (dec W)
theorem dec_inj {W k k' : Nat} (h : dec W k = dec W k') : k = k' := by
  have h1 : k % W = k' % W := congrArg Prod.fst h
  have h2 : k / W = k' / W := congrArg Prod.snd h
  rw [← Nat.div_add_mod k W, ← Nat.div_add_mod k' W, h1, h2]
theorem allG_nodup (W H : Nat) : (allG W H).Nodup := by
  unfold allG
  refine List.nodup_iff_pairwise_ne.2 (List.pairwise_map.2 ?_)
  exact (List.nodup_iff_pairwise_ne.1 List.nodup_range).imp fun h e => h (dec_inj e)
theorem allG_mem {W H : Nat} (hW : 0 < W) (a : Nat × Nat) : a ∈ allG W H ↔ InR W H a := by
  unfold allG
  rw [List.mem_map]
  constructor
  · rintro ⟨k, hk, rfl⟩
    have hk' : k < W * H := List.mem_range.1 hk
    exact ⟨Nat.mod_lt _ hW, Nat.div_lt_of_lt_mul hk'⟩
  · rintro ⟨h1, h2⟩
    refine ⟨a.2 * W + a.1, List.mem_range.2 ?_, ?_⟩
    · have : (a.2 + 1) * W ≤ H * W := Nat.mul_le_mul_right W (by omega)
      rw [Nat.add_mul, Nat.one_mul] at this
      rw [Nat.mul_comm W H]; omega
    · unfold dec
      rw [Nat.mul_comm a.2 W, Nat.mul_add_mod, Nat.mod_eq_of_lt h1, Nat.mul_add_div hW, Nat.div_eq_of_lt h1]
      simp
theorem filter_nodup {l : List (Nat × Nat)} (h : l.Nodup) (p : Nat × Nat → Bool) : (l.filter p).Nodup := List.Nodup.sublist List.filter_sublist h
/-- A set that is a union of the group's translates. -/
theorem lagrange {W H : Nat} (hW : 0 < W) (hH : 0 < H) (P : Nat × Nat → Bool) (h0 : P (0, 0) = true) (hs : ∀ a b, InR W H a → InR W H b → P a = true → P b = true → P (sb W H a b) = true) :
    ∀ (m : Nat) (T : List (Nat × Nat)), T.length = m → T.Nodup → (∀ t ∈ T, InR W H t) → (∀ t ∈ T, ∀ s, InR W H s → P s = true → ad W H t s ∈ T) → ((allG W H).filter P).length ∣ T.length := by
  intro m
  induction m using Nat.strongRecOn with
  | ind m ih =>
    intro T hm hnd hin hcl
    cases T with
    | nil => exact Nat.dvd_zero _
    | cons t rest =>
      have ht : t ∈ t :: rest := List.mem_cons_self ..
      have htr := hin t ht
      generalize hTT : t :: rest = T at *
      have hSm : ∀ s, s ∈ (allG W H).filter P ↔ InR W H s ∧ P s = true := fun s => by rw [List.mem_filter, allG_mem hW]
      have hC : (T.filter fun a => P (sb W H a t)).length = ((allG W H).filter P).length := by
        have hp : (T.filter fun a => P (sb W H a t)).Perm (((allG W H).filter P).map (ad W H t)) := by
          refine (List.perm_ext_iff_of_nodup (filter_nodup hnd _) ?_).2 fun a => ?_
          · refine List.nodup_iff_pairwise_ne.2 (List.pairwise_map.2 ?_)
            refine (List.nodup_iff_pairwise_ne.1 (filter_nodup (allG_nodup W H) P)).imp_of_mem fun {x y} hx hy hne e => hne ?_
            have hx' := ((hSm x).1 hx).1
            have hy' := ((hSm y).1 hy).1
            have e1 : am W t.1 x.1 = am W t.1 y.1 := congrArg Prod.fst e
            have e2 : am H t.2 x.2 = am H t.2 y.2 := congrArg Prod.snd e
            have f1 := sm_am htr.1 hx'.1
            have f2 := sm_am htr.1 hy'.1
            have f3 := sm_am htr.2 hx'.2
            have f4 := sm_am htr.2 hy'.2
            rw [e1] at f1
            rw [e2] at f3
            exact Prod.ext (f1.symm.trans f2) (f3.symm.trans f4)
          · rw [List.mem_filter, List.mem_map]
            constructor
            · rintro ⟨ha, hpa⟩
              have har := hin a ha
              refine ⟨sb W H a t, (hSm _).2 ⟨⟨sm_lt har.1, sm_lt har.2⟩, hpa⟩, Prod.ext (am_sm har.1 htr.1) (am_sm har.2 htr.2)⟩
            · rintro ⟨s, hsm, rfl⟩
              obtain ⟨hsr, hsp⟩ := (hSm s).1 hsm
              refine ⟨hcl t ht s hsr hsp, ?_⟩
              have e : sb W H (ad W H t s) t = s := Prod.ext (sm_am htr.1 hsr.1) (sm_am htr.2 hsr.2)
              show P (sb W H (ad W H t s) t) = true
              rw [e]; exact hsp
        rw [hp.length_eq, List.length_map]
      have hlen := List.length_eq_countP_add_countP (fun a => P (sb W H a t)) (l := T)
      rw [List.countP_eq_length_filter, List.countP_eq_length_filter, hC] at hlen
      have hS1 : 0 < ((allG W H).filter P).length := List.length_pos_of_mem ((hSm (0, 0)).2 ⟨⟨hW, hH⟩, h0⟩)
      have hR := ih _ (show (T.filter fun a => decide ¬P (sb W H a t) = true).length < m by omega) _ rfl (filter_nodup hnd _) (fun a ha => hin a (List.mem_filter.1 ha).1) (fun a ha s hsr hsp => by
        obtain ⟨ha1, ha2⟩ := List.mem_filter.1 ha
        have har := hin a ha1
        have haa := hcl a ha1 s hsr hsp
        refine List.mem_filter.2 ⟨haa, decide_eq_true fun hc => ?_⟩
        have ha3 : ¬ P (sb W H a t) = true := of_decide_eq_true ha2
        refine ha3 ?_
        have hadr := hin _ haa
        have e : sb W H (sb W H (ad W H a s) t) s = sb W H a t := Prod.ext (sm_sm har.1 hsr.1 htr.1) (sm_sm har.2 hsr.2 htr.2)
        rw [← e]
        exact hs _ _ ⟨sm_lt hadr.1, sm_lt hadr.2⟩ hsr hc hsp)
      rw [hlen]
      exact Nat.dvd_add (Nat.dvd_refl _) hR
theorem lagrange_all {W H : Nat} (hW : 0 < W) (hH : 0 < H) (P : Nat × Nat → Bool) (h0 : P (0, 0) = true) (hs : ∀ a b, InR W H a → InR W H b → P a = true → P b = true → P (sb W H a b) = true) : ((allG W H).filter P).length ∣ W * H := by
  have h := lagrange hW hH P h0 hs _ (allG W H) rfl (allG_nodup W H) (fun t ht => (allG_mem hW t).1 ht) (fun t ht s hsr _ => by
    have htr := (allG_mem hW t).1 ht
    exact (allG_mem hW _).2 ⟨am_lt htr.1, am_lt htr.2⟩)
  have e : (allG W H).length = W * H := by simp [allG]
  rwa [e] at h
/-- The list of shifts is what the predicate leaves of all pairs. -/
theorem fR_filter (a b : List ByteArray) (u : Nat) (acc : List (Nat × Nat)) (r : Nat) : fR a b u acc r = acc ++ ((List.range r).map fun x => (x, u)).filter fun p => isB a b (p.1 : Int) (p.2 : Int) := by
  induction r with
  | zero => simp [fR]
  | succ r ih =>
    simp only [fR]
    rw [List.range_succ, List.map_append, List.filter_append, ih]
    cases h : isB a b (r : Int) (u : Int) <;> simp [h]
theorem fU_filter (a b : List ByteArray) (hW : 0 < patN a) (u : Nat) : fU a b u = ((List.range (u * patN a)).map (dec (patN a))).filter fun p => isB a b (p.1 : Int) (p.2 : Int) := by
  induction u with
  | zero => simp [fU]
  | succ u ih =>
    simp only [fU]
    rw [fR_filter, ih, Nat.succ_mul, List.range_add, List.map_append, List.filter_append]
    congr 2
    rw [List.map_map]
    apply List.map_congr_left
    intro x hx
    have hx' := List.mem_range.1 hx
    show (x, u) = dec (patN a) (u * patN a + x)
    unfold dec
    rw [Nat.mul_comm u, Nat.mul_add_mod, Nat.mod_eq_of_lt hx', Nat.mul_add_div hW, Nat.div_eq_of_lt hx']
    simp
theorem fL_filter {a b : List ByteArray} (hW : 0 < patN a) : fL a b = (allG (patN a) a.length).filter fun p => isB a b (p.1 : Int) (p.2 : Int) := by
  unfold fL allG
  rw [fU_filter a b hW, Nat.mul_comm]
end Go.Proofs.Ytlkdkidpbjpkhaa
