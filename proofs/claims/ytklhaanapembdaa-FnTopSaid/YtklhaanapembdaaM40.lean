/- The plain law of the reference's source as a sequence: behind the bytes each seed comes (its period is whole), so the drawing of a course ends; no program in sight. -/
import Derived.Lib.Hide
import Derived.Laws.IdiomStrings
import Derived.Test.YtklhaanapembdaaM15
import Derived.Test.YtklhaanapembdaaM37

namespace Go.Proofs.Ytklhaanapembdaa
set_option linter.unusedVariables false

/-! ### The period -/
def lcA : Nat := 6364136223846793005
def lcC : Nat := 1442695040888963407
def it {α : Type} (f : α → α) : Nat → α → α
  | 0, x => x
  | n + 1, x => it f n (f x)
theorem it_0 {α : Type} (f : α → α) (x : α) : it f 0 x = x := rfl
theorem it_s {α : Type} (f : α → α) (n : Nat) (x : α) : it f (n + 1) x = it f n (f x) := rfl
theorem it_add {α : Type} (f : α → α) (m n : Nat) (x : α) : it f (m + n) x = it f n (it f m x) := by
  induction m generalizing x with
  | zero => simp [it]
  | succ m ih => rw [Nat.succ_add]; exact ih (f x)
theorem it_succ {α : Type} (f : α → α) (n : Nat) (x : α) : it f (n + 1) x = f (it f n x) := by
  rw [it_add f n 1 x]; rfl
def gS (s : Nat) : Nat := s * lcA + lcC
def kA : Nat → Nat
  | 0 => lcA
  | j + 1 => kA j * kA j
def kC : Nat → Nat
  | 0 => lcC
  | j + 1 => kA j * kC j + kC j
theorem it_lin (j s : Nat) : it gS (2 ^ j) s = kA j * s + kC j := by
  induction j generalizing s with
  | zero => show gS s = lcA * s + lcC; unfold gS; rw [Nat.mul_comm]
  | succ j ih =>
    rw [Nat.pow_succ, Nat.mul_two, it_add, ih s, ih]
    show kA j * (kA j * s + kC j) + kC j = kA j * kA j * s + (kA j * kC j + kC j)
    rw [Nat.mul_add, ← Nat.mul_assoc, Nat.add_assoc]
theorem kA_form (j : Nat) : ∃ m, kA j = 1 + 4 * 2 ^ j * m := by
  induction j with
  | zero => exact ⟨1591034055961698251, by decide⟩
  | succ j ih =>
    obtain ⟨m, hm⟩ := ih
    refine ⟨m + 2 * 2 ^ j * (m * m), ?_⟩
    show kA j * kA j = _
    rw [hm, Nat.pow_succ]
    generalize 2 ^ j = p
    simp only [Nat.add_mul, Nat.mul_add, Nat.one_mul, Nat.mul_one]
    have e1 : 4 * p * m * (4 * p * m) = 4 * (p * 2) * (2 * p * (m * m)) := by
      have h1 : 4 * p * m * (4 * p * m) = (4 * 4) * (p * (p * (m * m))) := by simp only [Nat.mul_assoc, Nat.mul_comm, Nat.mul_left_comm]
      have h2 : 4 * (p * 2) * (2 * p * (m * m)) = (4 * 2 * 2) * (p * (p * (m * m))) := by simp only [Nat.mul_assoc, Nat.mul_comm, Nat.mul_left_comm]
      rw [h1, h2]
    rw [e1]
    have e2 : 4 * (p * 2) * m = 4 * p * m + 4 * p * m := by
      rw [show 4 * (p * 2) = 4 * p + 4 * p by omega, Nat.add_mul]
    rw [e2]; omega
theorem kC_form (j : Nat) : ∃ q, kC j = 2 ^ j * (2 * q + 1) := by
  induction j with
  | zero => exact ⟨721347520444481703, by decide⟩
  | succ j ih =>
    obtain ⟨q, hq⟩ := ih
    obtain ⟨m, hm⟩ := kA_form j
    refine ⟨q + 2 ^ j * m * (2 * q + 1), ?_⟩
    show kA j * kC j + kC j = _
    rw [hm, hq, Nat.pow_succ]
    generalize 2 ^ j = p
    generalize hx : 2 * q + 1 = x
    have e : 2 * (q + p * m * x) + 1 = x + 2 * (p * m * x) := by omega
    rw [e]
    simp only [Nat.add_mul, Nat.mul_add, Nat.one_mul]
    have e1 : 4 * p * m * (p * x) = p * 2 * (2 * (p * m * x)) := by
      rw [show 4 * p * m * (p * x) = 4 * (p * m * (p * x)) by simp only [Nat.mul_assoc], show p * m * (p * x) = p * (p * m * x) by simp only [Nat.mul_comm, Nat.mul_left_comm]]
      rw [Nat.mul_assoc p 2, ← Nat.mul_assoc 2 2]
      simp only [Nat.mul_left_comm]
    rw [e1]
    have e2 : p * 2 * x = p * x + p * x := by rw [Nat.mul_comm p 2, Nat.mul_assoc, Nat.two_mul]
    rw [e2]; omega
theorem it_half (j s : Nat) : it gS (2 ^ j) s % 2 ^ (j + 1) = (s + 2 ^ j) % 2 ^ (j + 1) := by
  obtain ⟨m, hm⟩ := kA_form j
  obtain ⟨q, hq⟩ := kC_form j
  rw [it_lin, hm, hq]
  have e : (1 + 4 * 2 ^ j * m) * s + 2 ^ j * (2 * q + 1) = (s + 2 ^ j) + 2 ^ (j + 1) * (2 * (m * s) + q) := by
    rw [Nat.pow_succ]
    generalize 2 ^ j = p
    simp only [Nat.add_mul, Nat.mul_add, Nat.one_mul, Nat.mul_one]
    have e1 : 4 * p * m * s = p * 2 * (2 * (m * s)) := by
      rw [show 4 * p * m * s = 4 * p * (m * s) by simp only [Nat.mul_assoc], ← Nat.mul_assoc (p * 2) 2]
      congr 1
      omega
    have e2 : p * (2 * q) = p * 2 * q := by rw [Nat.mul_assoc]
    rw [e1, e2]; omega
  rw [e, Nat.add_mul_mod_self_left]
/-- Each number comes, in fewer steps than there are numbers. -/
theorem reach (j : Nat) : ∀ s t : Nat, ∃ n, n < 2 ^ j ∧ it gS n s % 2 ^ j = t % 2 ^ j := by
  induction j with
  | zero => intro s t; exact ⟨0, by simp, by simp [Nat.mod_one]⟩
  | succ j ih =>
    intro s t
    obtain ⟨n, hn, he⟩ := ih s t
    by_cases h : it gS n s % 2 ^ (j + 1) = t % 2 ^ (j + 1)
    · exact ⟨n, by rw [Nat.pow_succ]; omega, h⟩
    · refine ⟨n + 2 ^ j, by rw [Nat.pow_succ]; omega, ?_⟩
      rw [it_add, it_half]
      generalize it gS n s = u at *
      rw [Nat.pow_succ, Nat.mod_mul, Nat.mod_mul] at h ⊢
      have hp : 0 < 2 ^ j := Nat.two_pow_pos j
      generalize 2 ^ j = p at *
      rw [Nat.add_mod_right, Nat.add_div_right _ hp, he] at *
      have h1 : u / p % 2 ≠ t / p % 2 := fun e => h (by rw [e])
      have h2 : (u / p).succ % 2 = t / p % 2 := by omega
      rw [h2]
/-! ### The source -/
/-- The seed behind a draw of a byte. -/
def lcN (s b : Nat) : Nat := (s * lcA + b + lcC) % 18446744073709551616
def bt (s : Nat) : Nat := s / 1099511627776 % 256
/-- The number that comes from a state: the place, the seed. -/
def nvV (zs : List Int) (p : Nat × Nat) : Int := if p.1 < zs.length then zs.getD p.1 0 else (bt (lcN p.2 0) : Int)
def nxS (zs : List Int) (p : Nat × Nat) : Nat × Nat := (p.1 + 1, lcN p.2 (if p.1 < zs.length then (zs.getD p.1 0).toNat else 0))
theorem bt_mod (s : Nat) : bt s = bt (s % 281474976710656) := by unfold bt; omega
theorem lc_mod (s : Nat) : lcN s 0 % 281474976710656 = gS (s % 281474976710656) % 281474976710656 := by
  unfold lcN gS
  have e : (18446744073709551616 : Nat) = 281474976710656 * 65536 := by decide
  rw [e, Nat.mod_mul_right_mod, Nat.add_zero, Nat.add_mod, Nat.mul_mod]
  conv => rhs; rw [Nat.add_mod, Nat.mul_mod, Nat.mod_mod]
theorem gS_mod (s : Nat) : gS (s % 281474976710656) % 281474976710656 = gS s % 281474976710656 := by
  unfold gS
  rw [Nat.add_mod, Nat.mul_mod]
  conv => rhs; rw [Nat.add_mod, Nat.mul_mod]
  rw [Nat.mod_mod]
theorem it_mod (n s : Nat) : it gS n (s % 281474976710656) % 281474976710656 = it gS n s % 281474976710656 := by
  induction n generalizing s with
  | zero => show s % _ % _ = s % _; rw [Nat.mod_mod]
  | succ n ih =>
    show it gS n (gS (s % 281474976710656)) % _ = it gS n (gS s) % _
    rw [← ih (gS (s % _)), gS_mod, ih]
/-! ### The drawing of a course -/
def ordN (i : Int) : Nat := if i = 0 then 83 else if i = 1 then 72 else if i = 2 then 84 else if i = 3 then 66 else 67
def qN (c : Nat) : Nat := if c = 83 then 4 else if c = 84 then 3 else if c = 72 then 2 else if c = 66 then 2 else if c = 67 then 1 else 0
def ltrN (zs : List Int) (p : Nat × Nat) : Nat := if nvV zs (nxS zs p) % 2 = 0 then (if nvV zs (nxS zs (nxS zs p)) % 2 = 0 then 83 else 72) else ordN (nvV zs p % 5)
def nx3 (zs : List Int) (p : Nat × Nat) : Nat × Nat := if nvV zs (nxS zs p) % 2 = 0 then nxS zs (nxS zs (nxS zs p)) else nxS zs (nxS zs p)
structure Rd where
  p : Nat × Nat
  out : List Nat
  left : Nat
def rnd (zs : List Int) (x : Rd) : Rd := if qN (ltrN zs x.p) ≤ x.left then ⟨nx3 zs x.p, x.out ++ [ltrN zs x.p], x.left - qN (ltrN zs x.p)⟩ else ⟨nx3 zs x.p, x.out, x.left⟩
theorem rnd_p (zs : List Int) (x : Rd) : (rnd zs x).p = nx3 zs x.p := by unfold rnd; split <;> rfl
theorem rnd_left (zs : List Int) (x : Rd) : (rnd zs x).left ≤ x.left := by
  unfold rnd; split
  · exact Nat.sub_le _ _
  · exact Nat.le_refl _
theorem it_left (zs : List Int) (n : Nat) (x : Rd) : (it (rnd zs) n x).left ≤ x.left := by
  induction n generalizing x with
  | zero => exact Nat.le_refl _
  | succ n ih => exact Nat.le_trans (ih _) (rnd_left zs x)
theorem nx3_at (zs : List Int) (p : Nat × Nat) : p.1 + 2 ≤ (nx3 zs p).1 ∧ (nx3 zs p).1 ≤ p.1 + 3 := by
  unfold nx3
  split
  · show p.1 + 2 ≤ p.1 + 1 + 1 + 1 ∧ p.1 + 1 + 1 + 1 ≤ p.1 + 3; omega
  · show p.1 + 2 ≤ p.1 + 1 + 1 ∧ p.1 + 1 + 1 ≤ p.1 + 3; omega
theorem out_of (zs : List Int) (n : Nat) (p : Nat × Nat) : ∃ k, k ≤ n ∧ p.1 + n ≤ (it (nx3 zs) k p).1 + k := by
  refine ⟨n, Nat.le_refl _, ?_⟩
  induction n generalizing p with
  | zero => exact Nat.le_refl _
  | succ n ih => have := ih (nx3 zs p); have := (nx3_at zs p).1; show _ ≤ (it (nx3 zs) n (nx3 zs p)).1 + (n + 1); omega
theorem at_le (zs : List Int) (n : Nat) (p : Nat × Nat) : p.1 + n ≤ (it (nx3 zs) n p).1 := by
  induction n generalizing p with
  | zero => exact Nat.le_refl _
  | succ n ih => have := ih (nx3 zs p); have := (nx3_at zs p).1; show _ ≤ (it (nx3 zs) n (nx3 zs p)).1; omega
/-- A seed from which, and from the two next ones, a round draws a closer. -/
def tgt : Nat := 250727755940393
def good (s : Nat) : Bool := decide (bt (gS s) % 5 = 4) && decide (bt (gS (gS s)) % 2 = 1)
theorem tgt_good : good tgt = true ∧ good (gS tgt) = true ∧ good (gS (gS tgt)) = true := by decide
theorem good_mod (s : Nat) : good s = good (s % 281474976710656) := by
  unfold good
  have e1 : bt (gS s) = bt (gS (s % 281474976710656)) := by
    rw [bt_mod, bt_mod (gS (s % _)), gS_mod]
  have e2 : bt (gS (gS s)) = bt (gS (gS (s % 281474976710656))) := by
    have e : gS (gS (s % 281474976710656)) % 281474976710656 = gS (gS s) % 281474976710656 := by rw [← gS_mod (gS (s % _)), gS_mod s, gS_mod]
    rw [bt_mod, bt_mod (gS (gS (s % _))), e]
  rw [e1, e2]
theorem good_ltr (zs : List Int) (p : Nat × Nat) (hp : zs.length ≤ p.1) (h : good p.2 = true) : ltrN zs p = 67 := by
  have n1 : nvV zs p = (bt (lcN p.2 0) : Int) := by unfold nvV; rw [if_neg (by omega)]
  have n2 : nxS zs p = (p.1 + 1, lcN p.2 0) := by unfold nxS; rw [if_neg (by omega)]
  have n3 : nvV zs (nxS zs p) = (bt (lcN (lcN p.2 0) 0) : Int) := by rw [n2]; unfold nvV; rw [if_neg (by simp; omega)]
  rw [good_mod] at h
  have b1 : bt (lcN p.2 0) = bt (gS (p.2 % 281474976710656)) := by rw [bt_mod, lc_mod, ← bt_mod]
  have b2 : bt (lcN (lcN p.2 0) 0) = bt (gS (gS (p.2 % 281474976710656))) := by
    rw [bt_mod, lc_mod, lc_mod, gS_mod, ← bt_mod]
  simp only [good, Bool.and_eq_true, decide_eq_true_eq] at h
  unfold ltrN
  rw [n3, n1, b1, b2, if_neg (by omega)]
  have : (bt (gS (p.2 % 281474976710656)) : Int) % 5 = 4 := by omega
  rw [this]; rfl
theorem two_good (zs : List Int) (n : Nat) : ∀ p : Nat × Nat, zs.length ≤ p.1 → it gS n p.2 % 281474976710656 = tgt % 281474976710656 → ∃ k, k ≤ n ∧ ltrN zs (it (nx3 zs) k p) = 67 := by
  induction n using Nat.strongRecOn with
  | _ n ih =>
    intro p hp h
    have hx (q : Nat × Nat) (hq : zs.length ≤ q.1) : (nxS zs q).2 = lcN q.2 0 ∧ zs.length ≤ (nxS zs q).1 := by
      unfold nxS; exact ⟨by rw [if_neg (by omega)], by simp; omega⟩
    have h1 := hx p hp
    have h2 := hx _ h1.2
    have h3 := hx _ h2.2
    have t0 : tgt % 281474976710656 = tgt := by decide
    have step (q : Nat × Nat) (hq : zs.length ≤ q.1) (u : Nat) (hu : q.2 % 281474976710656 = u % 281474976710656) : (nxS zs q).2 % 281474976710656 = gS u % 281474976710656 := by
      rw [(hx q hq).1, lc_mod, hu, gS_mod]
    have s1 := step p hp p.2 rfl
    have s2 := step _ h1.2 _ s1
    have s3 := step _ h2.2 _ s2
    have atG (q : Nat × Nat) (hq : zs.length ≤ q.1) (u : Nat) (hu : q.2 % 281474976710656 = u % 281474976710656) (hg : good u = true) : ltrN zs q = 67 := good_ltr zs q hq (by rw [good_mod, hu, ← good_mod]; exact hg)
    have T := tgt_good
    have case3 : ∃ q, nx3 zs p = q ∧ (q = nxS zs (nxS zs p) ∨ q = nxS zs (nxS zs (nxS zs p))) := ⟨_, rfl, by unfold nx3; split <;> simp⟩
    obtain ⟨q, hq, hc⟩ := case3
    rcases n with _ | _ | _ | m
    · exact ⟨0, Nat.le_refl _, atG p hp tgt (by simpa only [it_0] using h) T.1⟩
    · have h' : gS p.2 % 281474976710656 = tgt % 281474976710656 := by simpa only [it_s, it_0, Nat.zero_add] using h
      refine ⟨0 + 1, Nat.le_refl _, ?_⟩
      rw [it_s, it_0, hq]
      have e1 : gS (gS p.2) % 281474976710656 = gS tgt % 281474976710656 := by rw [← gS_mod, h', gS_mod]
      have e2 : gS (gS (gS p.2)) % 281474976710656 = gS (gS tgt) % 281474976710656 := by rw [← gS_mod, e1, gS_mod]
      rcases hc with rfl | rfl
      · exact atG _ h2.2 _ (s2.trans e1) T.2.1
      · exact atG _ h3.2 _ (s3.trans e2) T.2.2
    · have h' : gS (gS p.2) % 281474976710656 = tgt % 281474976710656 := by simpa only [it_s, it_0, Nat.zero_add] using h
      refine ⟨0 + 1, by omega, ?_⟩
      rw [it_s, it_0, hq]
      have e2 : gS (gS (gS p.2)) % 281474976710656 = gS tgt % 281474976710656 := by rw [← gS_mod, h', gS_mod]
      rcases hc with rfl | rfl
      · exact atG _ h2.2 _ (s2.trans h') T.1
      · exact atG _ h3.2 _ (s3.trans e2) T.2.1
    · have h' : it gS m (gS (gS (gS p.2))) % 281474976710656 = tgt % 281474976710656 := by simpa only [it_s] using h
      rcases hc with rfl | rfl
      · obtain ⟨k, hk, hl⟩ := ih (m + 1) (by omega) _ h2.2 (by
          rw [it_s, ← it_mod, ← gS_mod, s2, gS_mod, it_mod]; exact h')
        exact ⟨k + 1, by omega, by rw [it_s, hq]; exact hl⟩
      · obtain ⟨k, hk, hl⟩ := ih m (by omega) _ h3.2 (by
          rw [← it_mod, s3, it_mod]; exact h')
        exact ⟨k + 1, by omega, by rw [it_s, hq]; exact hl⟩
theorem some_closer (zs : List Int) (p : Nat × Nat) : ∃ k, k ≤ zs.length + 281474976710656 ∧ ltrN zs (it (nx3 zs) k p) = 67 := by
  have h0 := at_le zs zs.length p
  obtain ⟨n, hn, he⟩ := reach 48 (it (nx3 zs) zs.length p).2 tgt
  obtain ⟨k, hk, hl⟩ := two_good zs n (it (nx3 zs) zs.length p) (by omega) he
  refine ⟨zs.length + k, ?_, by rw [it_add]; exact hl⟩
  have : (2 : Nat) ^ 48 = 281474976710656 := by decide
  omega
theorem shrinks (zs : List Int) (k : Nat) : ∀ x : Rd, ltrN zs (it (nx3 zs) k x.p) = 67 → 0 < x.left → (it (rnd zs) (k + 1) x).left < x.left := by
  induction k with
  | zero =>
    intro x h h0
    show (rnd zs x).left < _
    have h' : ltrN zs x.p = 67 := h
    unfold rnd
    rw [h', if_pos (by show 1 ≤ x.left; omega)]
    show x.left - 1 < x.left
    omega
  | succ k ih =>
    intro x h h0
    show (it (rnd zs) (k + 1) (rnd zs x)).left < x.left
    by_cases hs : (rnd zs x).left < x.left
    · exact Nat.lt_of_le_of_lt (it_left _ _ _) hs
    · have he : (rnd zs x).left = x.left := by have := rnd_left zs x; omega
      have := ih (rnd zs x) (by rw [rnd_p]; exact h) (by omega)
      omega
/-- The drawing ends. -/
theorem draw_ends (zs : List Int) (n : Nat) : ∀ x : Rd, x.left ≤ n → ∃ k, k ≤ n * (zs.length + 281474976710657) ∧ (it (rnd zs) k x).left = 0 := by
  induction n with
  | zero => intro x hx; exact ⟨0, by omega, by show x.left = 0; omega⟩
  | succ n ih =>
    intro x hx
    by_cases h0 : x.left = 0
    · exact ⟨0, by omega, h0⟩
    · obtain ⟨k, hk, hl⟩ := some_closer zs x.p
      have hs := shrinks zs k x hl (by omega)
      obtain ⟨m, hm, he⟩ := ih (it (rnd zs) (k + 1) x) (by omega)
      refine ⟨(k + 1) + m, ?_, by rw [it_add]; exact he⟩
      rw [Nat.succ_mul]; omega
/-- What a drawn course has got. -/
def sumN : List Nat → Nat
  | [] => 0
  | c :: cs => qN c + sumN cs
theorem sumN_snoc (l : List Nat) (c : Nat) : sumN (l ++ [c]) = sumN l + qN c := by
  induction l with
  | nil => simp [sumN]
  | cons d l ih => simp only [List.cons_append, sumN, ih]; omega
theorem qN_pos (zs : List Int) (p : Nat × Nat) : 1 ≤ qN (ltrN zs p) ∧ ltrN zs p < 256 := by
  unfold ltrN ordN
  split
  · split <;> decide
  · split
    · decide
    · split
      · decide
      · split
        · decide
        · split <;> decide
def RdOk (n : Nat) (x : Rd) : Prop := sumN x.out + x.left = n ∧ x.out.length + x.left ≤ n ∧ ∀ c ∈ x.out, 1 ≤ qN c ∧ c < 256
theorem rnd_ok {zs : List Int} {n : Nat} {x : Rd} (h : RdOk n x) : RdOk n (rnd zs x) := by
  obtain ⟨h1, h2, h3⟩ := h
  unfold rnd
  split
  · rename_i hq
    have := qN_pos zs x.p
    refine ⟨?_, ?_, ?_⟩
    · show sumN (x.out ++ [_]) + (x.left - _) = n; rw [sumN_snoc]; omega
    · show (x.out ++ [_]).length + (x.left - _) ≤ n; simp; omega
    · intro c hc
      rcases List.mem_append.1 hc with hc | hc
      · exact h3 c hc
      · rw [List.mem_singleton.1 hc]; exact this
  · exact ⟨h1, h2, h3⟩
theorem it_ok {zs : List Int} {n : Nat} (k : Nat) {x : Rd} (h : RdOk n x) : RdOk n (it (rnd zs) k x) := by
  induction k generalizing x with
  | zero => exact h
  | succ k ih => exact ih (rnd_ok h)
theorem it_at (zs : List Int) (k : Nat) (x : Rd) : (it (rnd zs) k x).p.1 ≤ x.p.1 + 3 * k := by
  induction k generalizing x with
  | zero => exact Nat.le_refl _
  | succ k ih =>
    have := ih (rnd zs x)
    rw [rnd_p] at this
    have h2 := (nx3_at zs x.p).2
    show (it (rnd zs) k (rnd zs x)).p.1 ≤ _
    omega
end Go.Proofs.Ytklhaanapembdaa
/- Exact contracts of the reference's small source (next, pick up to 200, one): the number that comes and the seed behind it; condition: the bytes can be read, the place is small. -/
namespace Go.Proofs.Ytklhaanapembdaa
set_option linter.unusedVariables false
open Go.RowKit

/-- A source at a place, with a seed. -/
def SrcX (w : World) (b : Nat) (a : Option Addr) (len cap : Nat) (zs : List Int) (p : Nat × Nat) : Prop :=
  IsRow .u8 w a len cap zs ∧ (0 < len → ∀ x, a = some x → x.block ≠ b) ∧ w.heap[b]? = some (.cells #[.slice a len cap, .int .i64 (p.1 : Int), .int .u64 (p.2 : Int)] 130 (0, 0))
def DrewX (w : World) (b : Nat) (a : Option Addr) (len cap : Nat) (zs : List Int) (p : Nat × Nat) (r : Int) (e : Ending) (w' : World) : Prop :=
  e = .returned (.int .i64 r) ∧ SrcX w' b a len cap zs p ∧ w.grownBy w' (some b)
theorem lc_int (s b : Nat) : (lcN s b : Int) = ((s : Int) * 6364136223846793005 + (b : Int) + 1442695040888963407) % 18446744073709551616 := by
  unfold lcN lcA lcC; omega
theorem lcN_lt (s b : Nat) : lcN s b < 18446744073709551616 := by unfold lcN; omega
theorem byteX (X : Int) (s : Nat) (h : IntKind.u64.wrap X = (s : Int)) (hs : s < 18446744073709551616) : wrap64 (bits BinOp.and IntKind.u64 (IntKind.u64.wrap X / 1099511627776) 255) = (bt s : Int) := by
  rw [h, u64_and _ 255 (by omega) (by omega) (by omega) (by omega)]
  have e : ((s : Int) / 1099511627776).toNat &&& (255 : Int).toNat = bt s := by
    have e1 : ((s : Int) / 1099511627776).toNat = s / 1099511627776 := by omega
    rw [e1, show (255 : Int).toNat = 2 ^ 8 - 1 by decide, Nat.and_two_pow_sub_one_eq_mod]
    rfl
  rw [e]
  have : bt s < 256 := by unfold bt; omega
  rw [IntWalk.wrap64_in _ ⟨by omega, by omega⟩]
theorem drewX_mk {w : World} {b : Nat} {a : Option Addr} {len cap : Nat} {zs : List Int} {n m : Nat} {u v : Value} (hr : IsRow .u8 w a len cap zs) (hne : 0 < len → ∀ x, a = some x → x.block ≠ b) (hb : w.heap[b]? = some (.cells #[.slice a len cap, v, u] 130 (0, 0)))
    {r r' j sd : Int} {p : Nat × Nat} (hj : j = (p.1 : Int)) (hs : sd = (p.2 : Int)) (hrr : r' = r) :
    DrewX w b a len cap zs p r (.returned (.int .i64 r')) ((((w.drewN n).setCell ⟨b, 1, none⟩ (.int .i64 j)).setCell ⟨b, 2, none⟩ (.int .u64 sd)).drewN m) := by
  subst hj hs hrr
  have hg : w.grownBy ((((w.drewN n).setCell ⟨b, 1, none⟩ (.int .i64 (p.1 : Int))).setCell ⟨b, 2, none⟩ (.int .u64 (p.2 : Int))).drewN m) (some b) := grown_drewN (grown_store (grown_store (grown_drewN (World.grownBy.refl _ _) _) _ _) _ _) _
  exact ⟨rfl, ⟨hr.grown hne hg, hne, src_store (w := w.drewN n) hb⟩, hg⟩
set_option maxRecDepth 100000 in
set_option maxHeartbeats 1000000 in
theorem next_x (b : Nat) (a : Option Addr) (len cap : Nat) (zs : List Int) (p : Nat × Nat) (w : World) (h : SrcX w b a len cap zs p) (h1 : p.1 ≤ 1000000000000000000) (h2 : p.2 < 18446744073709551616) :
    Calls Try.prog 114 #[.pointer (some ⟨b, 0, none⟩)] w (DrewX w b a len cap zs (nxS zs p) (nvV zs p)) := by
  obtain ⟨hr, hne, hb⟩ := h
  obtain ⟨i, sd⟩ := p
  simp only at h1 h2 hb
  have c0 := cellOf hb 0
  have c1 := cellOf hb 1
  have c2 := cellOf hb 2
  have f1 := frozenOf hb 1
  have f2 := frozenOf hb 2
  simp at c0 c1 c2
  have hlen := hr.1
  have hcap := hr.2.2.1
  unfold maxLen at hcap
  have hlc := hr.2.1
  by_cases hlt : i < len
  · obtain ⟨rb, ro, ha, hrb, hc⟩ := hr.cell (i := i) hlt
    obtain ⟨u1, u2⟩ := hr.u8 i
    have EV : nvV zs (i, sd) = zs.getD i 0 := by unfold nvV; rw [if_pos (by simp; omega)]
    have ES : nxS zs (i, sd) = (i + 1, lcN sd (zs.getD i 0).toNat) := by unfold nxS; rw [if_pos (by simp; omega)]
    rw [EV, ES]
    generalize zs.getD i 0 = x at *
    have EL := Lib.hid (lc_int sd x.toNat)
    have HP := fun (n m : Nat) (j s : Int) hj hs => Lib.hid (drewX_mk (n := n) (m := m) (r := x) (r' := x) (j := j) (sd := s) (p := (i + 1, lcN sd x.toNat)) hr hne hb hj hs rfl)
    subst ha
    have hnb := hne (by omega) _ rfl
    simp at hnb
    clear hne hr hb EV ES
    go_enter Try.func114, Try.ntmps114
    go_wp2
    go_quiet (fail)
    go_wp2
    go_quiet (fail)
    go_wp2
    go_quiet (fail)
    go_wp2
    go_ret
    refine (HP _ _ _ _ ?_ ?_).out
    · go_num
    · simp only [IntKind.wrap_u64]; rw [EL.out]; omega
  · have EV : nvV zs (i, sd) = (bt (lcN sd 0) : Int) := by unfold nvV; rw [if_neg (by simp; omega)]
    have ES : nxS zs (i, sd) = (i + 1, lcN sd 0) := by unfold nxS; rw [if_neg (by simp; omega)]
    rw [EV, ES]
    have EL0 := lc_int sd 0
    obtain ⟨sdI, hsd⟩ : ∃ x : Int, (sd : Int) = x := ⟨_, rfl⟩
    have HB := hb
    rw [hsd] at c2 EL0
    have EL := Lib.hid EL0
    clear EL0
    have HP := Lib.hid (fun (n m : Nat) (r j s : Int) hj hs hrr => (drewX_mk (n := n) (m := m) (r := (bt (lcN sd 0) : Int)) (r' := r) (j := j) (sd := s) (p := (i + 1, lcN sd 0)) hr hne hb hj hs hrr))
    clear hr hb hne EV ES h2 HB hsd
    go_enter Try.func114, Try.ntmps114
    go_wp2
    go_quiet (fail)
    go_wp2
    go_quiet (fail)
    go_wp2
    go_ret
    refine HP.out _ _ _ _ _ ?_ ?_ ?_
    · go_num
    · simp only [IntKind.wrap_u64]; rw [EL.out]; omega
    · exact byteX _ _ (by simp only [IntKind.wrap_u64]; rw [EL.out]; omega) (lcN_lt sd 0)
theorem nv_bd {zs : List Int} (h : ∀ n ∈ zs, 0 ≤ n ∧ n ≤ 255) (p : Nat × Nat) : 0 ≤ nvV zs p ∧ nvV zs p ≤ 255 := by
  unfold nvV
  split
  · rename_i hp
    refine h _ ?_
    rw [List.getD_eq_getElem?_getD, List.getElem?_eq_getElem hp]; exact List.getElem_mem hp
  · unfold bt; omega
theorem nx_lt (zs : List Int) (p : Nat × Nat) : (nxS zs p).2 < 18446744073709551616 := lcN_lt _ _
set_option maxHeartbeats 1000000 in
theorem pick_x (b : Nat) (a : Option Addr) (len cap : Nat) (zs : List Int) (p : Nat × Nat) (n : Int) (w : World) (h : SrcX w b a len cap zs p) (h1 : p.1 ≤ 1000000000000000000) (h2 : p.2 < 18446744073709551616) (hn : 2 ≤ n) (hn' : n ≤ 200) :
    Calls Try.prog 78 #[.pointer (some ⟨b, 0, none⟩), .int .i64 n] w (DrewX w b a len cap zs (nxS zs p) (nvV zs p % n)) := by
  have hv := nv_bd (h.1.2.2.2.1 rfl) p
  have H1 := Lib.hid (next_x b a len cap zs p w h h1 h2)
  clear h
  go_enter Try.func78, Try.ntmps78
  go_wp2_with fail
  refine H1.out.mono ?_
  rintro e1 w1 ⟨rfl, hs1, hg1⟩
  generalize nvV zs p = x at *
  have HP := Lib.hid (And.intro hs1 hg1)
  clear hs1 hg1 H1
  go_wp2
  go_ret
  exact ⟨rfl, HP.out.1, HP.out.2⟩
set_option maxHeartbeats 1000000 in
theorem one_x (b : Nat) (a : Option Addr) (len cap : Nat) (zs : List Int) (p : Nat × Nat) (w : World) (h : SrcX w b a len cap zs p) (h1 : p.1 ≤ 1000000000000000000) (h2 : p.2 < 18446744073709551616) :
    Calls Try.prog 109 #[.pointer (some ⟨b, 0, none⟩), .int .i64 2] w fun e w' => e = .returned (.bool (decide (nvV zs p % 2 = 0))) ∧ SrcX w' b a len cap zs (nxS zs p) ∧ w.grownBy w' (some b) := by
  have H := Lib.hid (pick_x b a len cap zs p 2 w h h1 h2 (by omega) (by omega))
  clear h
  go_enter Try.func109, Try.ntmps109
  go_wp2_with fail
  refine H.out.mono ?_
  rintro e1 w1 ⟨rfl, hs, hg⟩
  go_wp2
  go_ret
  exact ⟨ret_bool (by rw [Bool.eq_iff_iff]; simp), hs, hg⟩
theorem srcX_new {a : Option Addr} {len cap : Nat} {zs : List Int} {w : World} (h : IsRow .u8 w a len cap zs) :
    SrcX (w.alloc (.cells #[.slice a len cap, .int .i64 0, .int .u64 0] 130)) w.heap.size a len cap zs (0, 0) :=
  ⟨(src_new h).1, (src_new h).2.1, blk_new _ _⟩
theorem fromX_any (a : Option Addr) (len cap : Nat) (zs : List Int) (w : World) (h : IsRow .u8 w a len cap zs) :
    Calls Try.prog 63 #[.slice a len cap] w fun e w' => e = .returned (.pointer (some ⟨w.heap.size, 0, none⟩)) ∧ SrcX w' w.heap.size a len cap zs (0, 0) ∧ Below w.heap.size w w' ∧ w'.heap.size = w.heap.size + 1 :=
  (l00From_any a len cap w).mono fun e w' ⟨he, hw⟩ => by
    subst hw
    exact ⟨he, srcX_new h, (Below.refl _ _).alloc (Nat.le_refl _) _, by simp⟩
/-- The same source, of which only the numbers' range is told. -/
theorem SrcX.own {w w' : World} {b B : Nat} {a : Option Addr} {len cap : Nat} {zs : List Int} {p : Nat × Nat} {v : Value} (h : SrcX w b a len cap zs p) (hg : w.grownBy w' v.ownBlock) (hv : ∀ k, v.ownBlock = some k → B ≤ k) (hb : b < B) (ha : 0 < len → ∀ x, a = some x → x.block < B) : SrcX w' b a len cap zs p := by
  obtain ⟨hr, hne, hbk⟩ := h
  refine ⟨?_, hne, (hg.block b (blk_lt hbk) (fun e => by have := hv b e.symm; omega)).trans hbk⟩
  obtain ⟨g1, g2, g3, g4, g5⟩ := hr
  refine ⟨g1, g2, g3, g4, fun hl => ?_⟩
  obtain ⟨rb, o, hx, hlt, hc⟩ := g5 hl
  have hrb := ha hl _ hx
  simp at hrb
  refine ⟨rb, o, hx, Nat.lt_of_lt_of_le hlt hg.size, fun i n hi => ?_⟩
  have e : w'.heap[rb]? = w.heap[rb]? := hg.block rb hlt (fun e => by have := hv rb e.symm; omega)
  rw [← hc i n hi]
  unfold World.cell?
  simp only [e]
theorem SrcX.below {w w' : World} {b : Nat} {a : Option Addr} {len cap : Nat} {zs : List Int} {p : Nat × Nat} (h : SrcX w b a len cap zs p) (hb : Below w.heap.size w w') : SrcX w' b a len cap zs p := by
  obtain ⟨hr, hne, hbk⟩ := h
  exact ⟨hr.below hb, hne, blk_call hbk hb⟩
theorem SrcX.drew {w : World} {b : Nat} {a : Option Addr} {len cap : Nat} {zs : List Int} {p : Nat × Nat} (h : SrcX w b a len cap zs p) : SrcX w.drew b a len cap zs p := h.below (Below.refl _ _).drew
theorem SrcX.alloc {w : World} {b : Nat} {a : Option Addr} {len cap : Nat} {zs : List Int} {p : Nat × Nat} (h : SrcX w b a len cap zs p) (o : Obj) : SrcX (w.alloc o) b a len cap zs p := h.below ((Below.refl _ _).alloc (Nat.le_refl _) _)
theorem SrcX.lt {w : World} {b : Nat} {a : Option Addr} {len cap : Nat} {zs : List Int} {p : Nat × Nat} (h : SrcX w b a len cap zs p) : b < w.heap.size := blk_lt h.2.2
end Go.Proofs.Ytklhaanapembdaa
/- Slices of bytes of a call's own: made, appended to, and turned into a string; no function of the program is named. -/
namespace Go.Proofs.Ytklhaanapembdaa
open Go.RowKit

/-- A slice of bytes of the call's own. -/
def ucells (bs : List UInt8) : List Value := bs.map fun c => .int .u8 (c.toNat : Int)
theorem ucells_snoc (bs : List UInt8) (c : UInt8) : ucells (bs ++ [c]) = ucells bs ++ [.int .u8 (c.toNat : Int)] := by simp [ucells]
def OwnU (w : World) (base : Nat) (v : Value) (bs : List UInt8) : Prop := w.ownsRow base 5 1 v bs.length (ucells bs)
theorem info_u8 : (Try.prog.info? 5).map (fun i => (i.zero, i.size, i.bytes)) = some (some (.int .u8 0), 1, 1) := by kernel_rfl
theorem ownU_empty (w : World) (base : Nat) (h : base ≤ w.heap.size) : OwnU (w.alloc (.cells #[] 5)) base (.slice (some ⟨w.heap.size, 0, none⟩) 0 0) [] :=
  World.ownsRow_made w #[] 0 h (Nat.zero_le _) rfl
theorem OwnU.snoc {w : World} {base n : Nat} {v : Value} {bs : List UInt8} {c : UInt8} (h : w.ownsRow base 5 1 v n (ucells bs ++ [.int .u8 (c.toNat : Int)])) (hn : n = bs.length + 1) : OwnU w base v (bs ++ [c]) := by
  unfold OwnU; subst hn; rw [ucells_snoc]; simpa using h
theorem OwnU.shape {w : World} {base : Nat} {v : Value} {bs : List UInt8} (h : OwnU w base v bs) : ∃ a c, v = .slice a bs.length c := by
  rcases h.2 with ⟨rfl, h0⟩ | ⟨g, cap, _, rfl, _⟩
  · exact ⟨none, 0, by rw [h0]⟩
  · exact ⟨_, _, rfl⟩
theorem OwnU.cells {w : World} {base n c : Nat} {a : Option Addr} {bs : List UInt8} (h : OwnU w base (.slice a n c) bs) (h0 : 0 < bs.length) : ∃ g, a = some ⟨g, 0, none⟩ ∧ g < w.heap.size ∧ base ≤ g ∧ n = bs.length ∧ ∀ j (hj : j < bs.length), w.cell? ⟨g, j, none⟩ = some (.int .u8 (bs[j].toNat : Int)) := by
  rcases h.2 with ⟨_, hn⟩ | ⟨g, cap, cur, hv, hb, hh, hnc, hm, hs, ht⟩
  · omega
  · injection hv with h1 h2 h3
    refine ⟨g, h1, blk_lt hh, hb, h2, fun j hj => ?_⟩
    rw [cellOf hh]
    have e : (cur.toList.take (bs.length * 1))[j]? = some (.int .u8 (bs[j].toNat : Int)) := by rw [ht]; simp [ucells, hj]
    rw [List.getElem?_take_of_lt (by omega)] at e
    simpa using e
/-- 'string(b)' of a slice of bytes of the call's own. -/
theorem OwnU.text {w : World} {base n c : Nat} {a : Option Addr} {bs : List UInt8} (h : OwnU w base (.slice a n c) bs) (h0 : 0 < bs.length) :
    (convert 22 9 (.slice a n c)).run Try.prog w = .ok (.string ⟨bs.toArray⟩) w := by
  obtain ⟨g, rfl, _, _, rfl, hc⟩ := h.cells h0
  exact run_convert_bytes_back w 22 9 5 ⟨g, 0, none⟩ c bs Try.underlying22 Try.underlying5 Try.underlying9 (fun j hj => by
    have := hc j hj
    by_cases e : j = 0
    · subst e; simpa [Addr.add] using this
    · simpa [Addr.add, e] using this)
theorem OwnU.alloc {w : World} {base : Nat} {v : Value} {bs : List UInt8} (h : OwnU w base v bs) (o : Obj) : OwnU (w.alloc o) base v bs := World.ownsRow.alloc h o
end Go.Proofs.Ytklhaanapembdaa
