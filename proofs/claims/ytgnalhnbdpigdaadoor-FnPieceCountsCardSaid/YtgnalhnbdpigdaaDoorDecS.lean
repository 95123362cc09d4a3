/- Contract of the reference's decimal text (l01Dec): a number from 0 on in its decimal digits; no old memory turns; condition: the number is from 0 on. -/
import Derived.Test.YtgnalhnbdpigdaaDoorDec
import Derived.Test.YtgnalhnbdpigdaaDoorSlice
namespace Go.Proofs.YtgnalhnbdpigdaaDoor
set_option linter.unusedVariables false
open Go.RowKit

theorem ownD_one (w : World) (base : Nat) (c : UInt8) (x : Int) (hx : x = (c.toNat : Int)) (h : base ≤ w.heap.size) : OwnD (w.alloc (.cells #[.int .u8 x] 5)) base (.slice (some ⟨w.heap.size, 0, none⟩) 1 1) [c] := by
  subst hx
  exact ⟨by simp [dcells], .inr ⟨w.heap.size, 1, _, rfl, h, blk_new w _, Nat.le_refl _, by decide, rfl, by simp [dcells]⟩⟩
theorem below_own {a w w' : World} {base : Nat} {v : Value} {bs : List UInt8} (h : Below a.heap.size a w) (ho : OwnD w base v bs) (hb : a.heap.size ≤ base) (hg : w.grownBy w' v.ownBlock) : Below a.heap.size a w' :=
  h.grown hg h.size (fun k e => by have := (World.ownsRow.lt ho k e).1; omega)
theorem dig8 (k : Nat) : IntKind.u8.wrap (48 + (k : Int) % 10) = ((UInt8.ofNat (48 + k % 10)).toNat : Int) := by
  have h1 : k % 10 < 10 := Nat.mod_lt _ (by omega)
  have e1 : (48 + (k : Int) % 10) = ((48 + k % 10 : Nat) : Int) := by omega
  have e2 : (UInt8.ofNat (48 + k % 10)).toNat = 48 + k % 10 := by
    simp [UInt8.toNat_ofNat]; omega
  rw [e1, e2]
  simp [IntKind.wrap, IntKind.signed, IntKind.bits]; omega
set_option maxRecDepth 100000 in
set_option maxHeartbeats 4000000 in
theorem l01Dec_any (n : Nat) (w : World) (h : n ≤ 1000000000) :
    Calls Tryd.prog 34 #[.int .i64 (n : Int)] w fun e w' => e = .returned (.string (decS n)) ∧ Below w.heap.size w w' := by
  obtain ⟨i0, hi, hi0, hi1, hi2⟩ := info_parts info_d8
  go_enter Tryd.func34, Tryd.ntmps34
  go_wp2_with fail
  go_loopw [3, 4] (fun v kk wr => ∃ (k : Nat) (L : List UInt8), k ≤ n ∧ kk = .int .i64 (k : Int) ∧ DL n k L ∧ OwnD wr w.heap.size v L ∧ Below w.heap.size w wr) (fun _ kk _ => (intOf kk).toNat)
  case atStart => exact ⟨n, [], Nat.le_refl _, rfl, dl_start n, ownD_empty _ _ (Nat.le_refl _), (by repeat (first | exact Below.refl _ _ | assumption | refine Below.drew ?_ | refine below_drewN ?_ _ | refine Below.alloc ?_ (by first | omega | (simp; done) | (simp; omega)) _ | refine Below.setCell ?_ (by first | omega | (simp; done) | (simp; omega)) _))⟩
  case round =>
    obtain ⟨k, L, hk, rfl, hD, hO, hB⟩ := hrel
    have hlen := dl_len hD h
    by_cases h0 : k = 0
    · subst h0
      obtain ⟨a, c, rfl⟩ := hO.shape
      rcases hD.1 rfl with ⟨rfl, rfl⟩ | ⟨hn, hL⟩
      · have hz : decS 0 = ⟨#[48]⟩ := by
          unfold decS
          rw [Lib.decDigits_one (by omega)]
          rfl
        have HZ := Lib.hid hz
        clear hD hO hz hlen
        go_wp2
        go_ret
        exact ⟨by rw [HZ.out]; rfl, hB⟩
      · have hl0 : 0 < L.length := by
          rw [← hL, Lib.decDigits_length]
          exact Lib.nDigits_pos n
        have ht := hO.text hl0
        have hs : decS n = ⟨L.toArray⟩ := by unfold decS; rw [hL]
        have hn0 : ¬ (n : Int) < 0 := by omega
        have hlI : ((L.length : Nat) : Int) ≠ 0 := by omega
        have hlB : (((L.length : Nat) : Int) == 0) = false := by simpa using hlI
        have HZ := Lib.hid hs
        clear hD hO hL hs
        generalize (⟨L.toArray⟩ : ByteArray) = t at *
        generalize L.length = m at *
        go_wp2
        go_ret
        exact ⟨by rw [HZ.out]; rfl, hB⟩
    · have hD' := Lib.hid (dl_next hD (by omega) hk)
      have hB' := Lib.hid hB
      have hz := hB.size
      have hkI : ((k : Int) != 0) = true := by simpa using h0
      have hd0 : ¬ (k : Int) % 10 < 0 := by omega
      obtain ⟨c8, hc8⟩ : ∃ c8, UInt8.ofNat (48 + k % 10) = c8 := ⟨_, rfl⟩
      obtain ⟨X, hX⟩ : ∃ X : Int, (c8.toNat : Int) = X := ⟨_, rfl⟩
      have h8 : IntKind.u8.wrap (48 + (k : Int) % 10) = X := by rw [dig8 k, hc8, hX]
      rw [hc8] at hD'
      have HX := Lib.hid hX
      have HK := Lib.hid (show ((k : Int) / 10) = ((k / 10 : Nat) : Int) by omega)
      have HO1 := Lib.hid (ownD_one wr w.heap.size c8 X hX.symm hz)
      have HO := Lib.hid hO
      obtain ⟨a, c, rfl⟩ := hO.shape
      clear hD hB hO hc8 hX
      by_cases hl0 : L.length = 0
      · have hLn : L = [] := List.eq_nil_of_length_eq_zero hl0
        subst hLn
        go_wp2_with (at_builtin; refine wpList_append_zero _ rfl _ _ 28 rfl w.heap.size 5 i0 1 Tryd.underlying28 hi (.slice (some ⟨wr.heap.size, 0, none⟩) 1 1) 1 (dcells [c8]) rfl HO1.out a c rfl ?_)
        go_roundw
        case rel => exact ⟨k / 10, [c8], by omega, by rw [HK.out], hD'.out, HO1.out, hB'.out.alloc hz _⟩
        case measure => simp [intOf]; omega
      · obtain ⟨g, rfl, hg1, hg2, _, hcs⟩ := HO.out.cells (by omega)
        have hnews : Hid (∀ (j : Nat) u, (dcells L)[j]? = some u → (wr.alloc (.cells #[.int .u8 X] 5)).cell? ((⟨g, 0, none⟩ : Addr).add j) = some u) := Lib.hid fun j u hu => by
          have hj : j < L.length := by
            rcases Nat.lt_or_ge j L.length with h1 | h1
            · exact h1
            · rw [List.getElem?_eq_none (by simp [dcells]; omega)] at hu; cases hu
          have e := keepA (o := .cells #[.int .u8 X] 5) (hcs j hj)
          have eu : u = .int .u8 (L[j].toNat : Int) := by
            simp [dcells, hj] at hu
            exact hu.symm
          rw [eu]
          by_cases e0 : j = 0
          · subst e0; simpa [Addr.add] using e
          · simpa [Addr.add, e0] using e
        clear hcs
        go_wp2_with (at_builtin; refine wpList_append_new _ rfl _ _ 28 rfl w.heap.size 5 i0 (.int .u8 0) 1 1 Tryd.underlying28 hi hi0 hi1 hi2 rfl (by decide) (.slice (some ⟨wr.heap.size, 0, none⟩) 1 1) 1 (dcells [c8]) rfl HO1.out ⟨g, 0, none⟩ L.length c (dcells L) rfl (by simp [dcells]) hnews.out (by intro u hu; obtain ⟨n, _, rfl⟩ := List.mem_map.1 hu; rfl) (by unfold maxLen; omega) (by omega) (by simp; omega) (by omega) ?_; intro v' w1' hown1 hgrow1 hnew1)
        have hO2 : Hid (OwnD w1' w.heap.size v' (c8 :: L)) := Lib.hid (by
          have e : (c8 :: L).length = 1 + L.length := by simp; omega
          unfold OwnD
          rw [e]
          exact hown1)
        have hB2 := Lib.hid (below_own (hB'.out.alloc hz (.cells #[.int .u8 X] 5)) HO1.out (Nat.le_refl _) hgrow1)
        clear hown1 hgrow1 hnew1
        go_wp2
        go_roundw
        case rel => exact ⟨k / 10, c8 :: L, by omega, by rw [HK.out], hD'.out, hO2.out, hB2.out⟩
        case measure => simp [intOf]; omega
end Go.Proofs.YtgnalhnbdpigdaaDoor
