/- The plain answers of ShiftsKept and FindShift, and the contracts of the program's functions; no old memory turns; condition: the slices can be read. -/
import Derived.Test.YtlkdkidpbjpkhaaShI
import Derived.Test.YtlkdkidpbjpkhaaDark
namespace Go.Proofs.Ytlkdkidpbjpkhaa
open Go.RowKit

/-- The first pair's parts, or 0, and whether there is one. -/
def hdR (l : List (Nat × Nat)) : Int := ((l.head?.getD (0, 0)).1 : Nat)
def hdU (l : List (Nat × Nat)) : Int := ((l.head?.getD (0, 0)).2 : Nat)
def hdB (l : List (Nat × Nat)) : Bool := !l.isEmpty
theorem hd_some {l : List (Nat × Nat)} {r u : Nat} (h : l.head? = some (r, u)) : hdR l = r ∧ hdU l = u ∧ hdB l = true := by
  cases l with
  | nil => cases h
  | cons p t => simp at h; subst h; exact ⟨rfl, rfl, rfl⟩
theorem hd_nil : hdR [] = 0 ∧ hdU [] = 0 ∧ hdB [] = false := ⟨rfl, rfl, rfl⟩
/-- The number of shifts that keep a pattern. -/
def shN (ss : List ByteArray) : Int := if patB ss = true then ((fL ss ss).length : Int) else 0
theorem sh_no {ss : List ByteArray} (h : patB ss = false) : shN ss = 0 := by simp [shN, h]
theorem sh_yes {ss : List ByteArray} (h : patB ss = true) : shN ss = ((fL ss ss).length : Int) := by simp [shN, h]
/-- Two patterns of one size. -/
def dimB (xs ys : List ByteArray) : Bool := decide (xs.length = ys.length) && decide (patN xs = patN ys)
def twoB (xs ys : List ByteArray) : Bool := patB xs && patB ys
def fsL (xs ys : List ByteArray) : List (Nat × Nat) := if twoB xs ys = true ∧ dimB xs ys = true then fL xs ys else []
def fsR (xs ys : List ByteArray) : Int := hdR (fsL xs ys)
def fsU (xs ys : List ByteArray) : Int := hdU (fsL xs ys)
def fsC (xs ys : List ByteArray) : Int := if twoB xs ys = false then 1 else if dimB xs ys = false then 9 else if hdB (fL xs ys) = true then 0 else 3
theorem fs_1 {xs ys : List ByteArray} (h : twoB xs ys = false) : fsR xs ys = 0 ∧ fsU xs ys = 0 ∧ fsC xs ys = 1 := by
  have : fsL xs ys = [] := by simp [fsL, h]
  simp [fsR, fsU, fsC, this, h, hd_nil]
theorem fs_9 {xs ys : List ByteArray} (h : twoB xs ys = true) (h2 : dimB xs ys = false) : fsR xs ys = 0 ∧ fsU xs ys = 0 ∧ fsC xs ys = 9 := by
  have : fsL xs ys = [] := by simp [fsL, h2]
  simp [fsR, fsU, fsC, this, h, h2, hd_nil]
theorem fs_yes {xs ys : List ByteArray} (h : twoB xs ys = true) (h2 : dimB xs ys = true) : fsR xs ys = hdR (fL xs ys) ∧ fsU xs ys = hdU (fL xs ys) ∧ fsC xs ys = if hdB (fL xs ys) = true then 0 else 3 := by
  have : fsL xs ys = fL xs ys := by simp [fsL, h, h2]
  simp [fsR, fsU, fsC, this, h, h2]
theorem two_t {xs ys : List ByteArray} (h : twoB xs ys = true) : patB xs = true ∧ patB ys = true := by simpa [twoB] using h
theorem dim_t {xs ys : List ByteArray} (h : dimB xs ys = true) : xs.length = ys.length ∧ patN xs = patN ys := by simpa [dimB] using h
theorem dim_f {xs ys : List ByteArray} (h : dimB xs ys = false) : xs.length ≠ ys.length ∨ (xs.length = ys.length ∧ patN xs ≠ patN ys) := by
  simp only [dimB, Bool.and_eq_false_iff, decide_eq_false_iff_not] at h
  omega
theorem fL_len {xs ys : List ByteArray} (h : patB xs = true) : (fL xs ys).length ≤ 576 := by
  obtain ⟨v1, v2, v3, v4, v5⟩ := patB_t h
  exact Nat.le_trans (fU_len xs ys xs.length) (Nat.le_trans (Nat.mul_le_mul v2 v4) (by omega))
set_option maxHeartbeats 1000000 in
theorem shiftsKept_any (a : Option Addr) (len cap : Nat) (ss : List ByteArray) (w : World) (h : IsStrs w a len cap ss) :
    Calls Try.prog 26 #[.slice a len cap] w fun e w' => e = .returned (.tuple #[.int .i64 (shN ss), .int .i64 (darkC ss)]) ∧ Below w.heap.size w w' := by
  have H := Lib.hid h
  have HV := Lib.hid (fun W hW => validPattern_any a len cap ss W hW)
  have e4 := dark_no (ss := ss)
  have e5 := dark_yes (ss := ss)
  cases g : patB ss
  · rw [sh_no g, (e4 g).2]
    rw [g] at HV
    clear h g e4 e5
    go_enter Try.func26, Try.ntmps26
    go_wp2_with fail
    refine (HV.out _ (H.out.below (by repeat (first | exact Below.refl _ _ | assumption | refine Below.drew ?_ | refine below_drewN ?_ _ | refine Below.alloc ?_ (by first | omega | (simp; done) | (simp; omega)) _ | refine Below.setCell ?_ (by first | omega | (simp; done) | (simp; omega)) _)))).mono ?_
    rintro e1 w1 ⟨rfl, hb1⟩
    obtain ⟨hc1, hf1⟩ := bcell hb1
    have hz1 := hb1.size
    try simp at hz1
    have ha1 : Below w.heap.size w w1 := below_call (by repeat (first | exact Below.refl _ _ | assumption | refine Below.drew ?_ | refine below_drewN ?_ _ | refine Below.alloc ?_ (by first | omega | (simp; done) | (simp; omega)) _ | refine Below.setCell ?_ (by first | omega | (simp; done) | (simp; omega)) _)) hb1
    go_wp2
    go_ret2
    exact ⟨rfl, (by repeat (first | exact Below.refl _ _ | assumption | refine Below.drew ?_ | refine below_drewN ?_ _ | refine Below.alloc ?_ (by first | omega | (simp; done) | (simp; omega)) _ | refine Below.setCell ?_ (by first | omega | (simp; done) | (simp; omega)) _))⟩
  · rw [sh_yes g, (e5 g).2]
    have HA := Lib.hid (fun W hW => shifts_any a a len cap cap ss ss W hW hW g (fun y hy => ((patB_t g).2.2.2.2 y hy).1))
    have hfl := fL_len (ys := ss) g
    rw [g] at HV
    generalize fL ss ss = l at *
    clear h g e4 e5
    go_enter Try.func26, Try.ntmps26
    go_wp2_with fail
    refine (HV.out _ (H.out.below (by repeat (first | exact Below.refl _ _ | assumption | refine Below.drew ?_ | refine below_drewN ?_ _ | refine Below.alloc ?_ (by first | omega | (simp; done) | (simp; omega)) _ | refine Below.setCell ?_ (by first | omega | (simp; done) | (simp; omega)) _)))).mono ?_
    rintro e1 w1 ⟨rfl, hb1⟩
    obtain ⟨hc1, hf1⟩ := bcell hb1
    have hz1 := hb1.size
    try simp at hz1
    have ha1 : Below w.heap.size w w1 := below_call (by repeat (first | exact Below.refl _ _ | assumption | refine Below.drew ?_ | refine below_drewN ?_ _ | refine Below.alloc ?_ (by first | omega | (simp; done) | (simp; omega)) _ | refine Below.setCell ?_ (by first | omega | (simp; done) | (simp; omega)) _)) hb1
    go_wp2_with fail
    refine (HA.out _ (H.out.below (by repeat (first | exact Below.refl _ _ | assumption | refine Below.drew ?_ | refine below_drewN ?_ _ | refine Below.alloc ?_ (by first | omega | (simp; done) | (simp; omega)) _ | refine Below.setCell ?_ (by first | omega | (simp; done) | (simp; omega)) _)))).mono ?_
    rintro e w2 ⟨v, rfl, hO, hb2⟩
    obtain ⟨x, c, rfl⟩ := hO.shape
    have ha2 := below_call ha1 hb2
    clear hO
    go_wp2
    go_ret2
    exact ⟨rfl, ha2⟩
set_option maxHeartbeats 4000000 in
theorem findShift_any (a : Option Addr) (len cap : Nat) (xs : List ByteArray) (a' : Option Addr) (len' cap' : Nat) (ys : List ByteArray) (w : World) (h : IsStrs w a len cap xs) (h' : IsStrs w a' len' cap' ys) :
    Calls Try.prog 32 #[.slice a len cap, .slice a' len' cap'] w fun e w' => e = .returned (.tuple #[.int .i64 (fsR xs ys), .int .i64 (fsU xs ys), .int .i64 (fsC xs ys)]) ∧ Below w.heap.size w w' := by
  have H := Lib.hid h
  have H' := Lib.hid h'
  have HV := Lib.hid (fun W hW => validPattern_any a len cap xs W hW)
  have HV' := Lib.hid (fun W hW => validPattern_any a' len' cap' ys W hW)
  cases g1 : patB xs
  · obtain ⟨k1, k2, k3⟩ := fs_1 (xs := xs) (ys := ys) (by simp [twoB, g1])
    rw [k1, k2, k3]
    rw [g1] at HV
    clear h h' g1 k1 k2 k3
    go_enter Try.func32, Try.ntmps32
    go_wp2_with fail
    refine (HV.out _ (H.out.below (by repeat (first | exact Below.refl _ _ | assumption | refine Below.drew ?_ | refine below_drewN ?_ _ | refine Below.alloc ?_ (by first | omega | (simp; done) | (simp; omega)) _ | refine Below.setCell ?_ (by first | omega | (simp; done) | (simp; omega)) _)))).mono ?_
    rintro e1 w1 ⟨rfl, hb1⟩
    obtain ⟨hc1, hf1⟩ := bcell hb1
    have hz1 := hb1.size
    try simp at hz1
    have ha1 : Below w.heap.size w w1 := below_call (by repeat (first | exact Below.refl _ _ | assumption | refine Below.drew ?_ | refine below_drewN ?_ _ | refine Below.alloc ?_ (by first | omega | (simp; done) | (simp; omega)) _ | refine Below.setCell ?_ (by first | omega | (simp; done) | (simp; omega)) _)) hb1
    go_wp2
    go_ret3
    exact ⟨rfl, (by repeat (first | exact Below.refl _ _ | assumption | refine Below.drew ?_ | refine below_drewN ?_ _ | refine Below.alloc ?_ (by first | omega | (simp; done) | (simp; omega)) _ | refine Below.setCell ?_ (by first | omega | (simp; done) | (simp; omega)) _))⟩
  · cases g2 : patB ys
    · obtain ⟨k1, k2, k3⟩ := fs_1 (xs := xs) (ys := ys) (by simp [twoB, g2])
      rw [k1, k2, k3]
      rw [g1] at HV
      rw [g2] at HV'
      clear h h' g1 g2 k1 k2 k3
      go_enter Try.func32, Try.ntmps32
      go_wp2_with fail
      refine (HV.out _ (H.out.below (by repeat (first | exact Below.refl _ _ | assumption | refine Below.drew ?_ | refine below_drewN ?_ _ | refine Below.alloc ?_ (by first | omega | (simp; done) | (simp; omega)) _ | refine Below.setCell ?_ (by first | omega | (simp; done) | (simp; omega)) _)))).mono ?_
      rintro e1 w1 ⟨rfl, hb1⟩
      obtain ⟨hc1, hf1⟩ := bcell hb1
      have hz1 := hb1.size
      try simp at hz1
      have ha1 : Below w.heap.size w w1 := below_call (by repeat (first | exact Below.refl _ _ | assumption | refine Below.drew ?_ | refine below_drewN ?_ _ | refine Below.alloc ?_ (by first | omega | (simp; done) | (simp; omega)) _ | refine Below.setCell ?_ (by first | omega | (simp; done) | (simp; omega)) _)) hb1
      go_wp2_with fail
      refine (HV'.out _ (H'.out.below (by repeat (first | exact Below.refl _ _ | assumption | refine Below.drew ?_ | refine below_drewN ?_ _ | refine Below.alloc ?_ (by first | omega | (simp; done) | (simp; omega)) _ | refine Below.setCell ?_ (by first | omega | (simp; done) | (simp; omega)) _)))).mono ?_
      rintro e2 w2 ⟨rfl, hb2⟩
      have hy2 := hb2.size
      replace hb2 := below_call hb1 hb2
      clear hc1 hf1
      obtain ⟨hc2, hf2⟩ := bcell hb2
      have hz2 := hb2.size
      try simp at hz2
      have ha2 : Below w.heap.size w w2 := below_call (by repeat (first | exact Below.refl _ _ | assumption | refine Below.drew ?_ | refine below_drewN ?_ _ | refine Below.alloc ?_ (by first | omega | (simp; done) | (simp; omega)) _ | refine Below.setCell ?_ (by first | omega | (simp; done) | (simp; omega)) _)) hb2
      go_wp2
      go_ret3
      exact ⟨rfl, (by repeat (first | exact Below.refl _ _ | assumption | refine Below.drew ?_ | refine below_drewN ?_ _ | refine Below.alloc ?_ (by first | omega | (simp; done) | (simp; omega)) _ | refine Below.setCell ?_ (by first | omega | (simp; done) | (simp; omega)) _))⟩
    · have gt : twoB xs ys = true := by simp [twoB, g1, g2]
      have hl := h.1
      have hl' := h'.1
      obtain ⟨v1, v2, v3, v4, v5⟩ := patB_t g1
      obtain ⟨t1, t2, t3, t4, t5⟩ := patB_t g2
      rw [hl] at v1 v2
      rw [hl'] at t1 t2
      obtain ⟨b, o, rfl, hb⟩ := h.addr (by omega)
      obtain ⟨b', o', rfl, hb'⟩ := h'.addr (by omega)
      have hd := h.same (i := 0) (by omega)
      have hd' := h'.same (i := 0) (by omega)
      simp only [Nat.add_zero] at hd hd'
      have hz : (xs.getD 0 ByteArray.empty).size = patN xs := rfl
      have hz' : (ys.getD 0 ByteArray.empty).size = patN ys := rfl
      have HSI : Hid (∀ W, IsStrs W (some ⟨b, o, none⟩) len cap xs → IsStrs W (some ⟨b', o', none⟩) len' cap' ys → len = len' → patN xs = patN ys → Calls Try.prog 57 #[.slice (some ⟨b, o, none⟩) len cap, .slice (some ⟨b', o', none⟩) len' cap'] W fun e w' => ∃ v, e = .returned v ∧ OwnP w' W.heap.size v (fL xs ys) ∧ Below W.heap.size W w') := Lib.hid (fun W hW hW' hle hp => by
        subst hle
        exact shifts_any _ _ _ _ _ xs ys W hW hW' g1 (fun y hy => by rw [hp]; exact (t5 y (by omega)).1))
      rw [g1] at HV
      rw [g2] at HV'
      have hl0 : (0 : Int) < (len : Int) := by omega
      have hl0' : (0 : Int) < (len' : Int) := by omega
      cases g3 : dimB xs ys
      · obtain ⟨k1, k2, k3⟩ := fs_9 gt g3
        rw [k1, k2, k3]
        have hdf := dim_f g3
        rw [hl, hl'] at hdf
        generalize xs.getD 0 ByteArray.empty = x0 at hd hz
        generalize ys.getD 0 ByteArray.empty = y0 at hd' hz'
        generalize patN xs = X at *
        generalize patN ys = Y at *
        clear h h' g1 g2 g3 gt k1 k2 k3 v5 t5 HSI hl hl'
        rcases hdf with hdf | ⟨hdf, hdf2⟩
        · have y1 : ((len : Int) != (len' : Int)) = true := by simp; omega
          clear hdf
          go_enter Try.func32, Try.ntmps32
          go_wp2_with fail
          refine (HV.out _ (H.out.below (by repeat (first | exact Below.refl _ _ | assumption | refine Below.drew ?_ | refine below_drewN ?_ _ | refine Below.alloc ?_ (by first | omega | (simp; done) | (simp; omega)) _ | refine Below.setCell ?_ (by first | omega | (simp; done) | (simp; omega)) _)))).mono ?_
          rintro e1 w1 ⟨rfl, hb1⟩
          obtain ⟨hc1, hf1⟩ := bcell hb1
          have hz1 := hb1.size
          try simp at hz1
          have ha1 : Below w.heap.size w w1 := below_call (by repeat (first | exact Below.refl _ _ | assumption | refine Below.drew ?_ | refine below_drewN ?_ _ | refine Below.alloc ?_ (by first | omega | (simp; done) | (simp; omega)) _ | refine Below.setCell ?_ (by first | omega | (simp; done) | (simp; omega)) _)) hb1
          go_wp2_with fail
          refine (HV'.out _ (H'.out.below (by repeat (first | exact Below.refl _ _ | assumption | refine Below.drew ?_ | refine below_drewN ?_ _ | refine Below.alloc ?_ (by first | omega | (simp; done) | (simp; omega)) _ | refine Below.setCell ?_ (by first | omega | (simp; done) | (simp; omega)) _)))).mono ?_
          rintro e2 w2 ⟨rfl, hb2⟩
          have hy2 := hb2.size
          replace hb2 := below_call hb1 hb2
          clear hc1 hf1
          obtain ⟨hc2, hf2⟩ := bcell hb2
          have hz2 := hb2.size
          try simp at hz2
          have ha2 : Below w.heap.size w w2 := below_call (by repeat (first | exact Below.refl _ _ | assumption | refine Below.drew ?_ | refine below_drewN ?_ _ | refine Below.alloc ?_ (by first | omega | (simp; done) | (simp; omega)) _ | refine Below.setCell ?_ (by first | omega | (simp; done) | (simp; omega)) _)) hb2
          go_wp2_with fail
          go_quiet (fail)
          go_wp2
          go_ret3
          exact ⟨rfl, (by repeat (first | exact Below.refl _ _ | assumption | refine Below.drew ?_ | refine below_drewN ?_ _ | refine Below.alloc ?_ (by first | omega | (simp; done) | (simp; omega)) _ | refine Below.setCell ?_ (by first | omega | (simp; done) | (simp; omega)) _))⟩
        · have y1 : ((len : Int) != (len' : Int)) = false := by simp; omega
          have y2 : ((X : Int) != (Y : Int)) = true := by simp; omega
          clear hdf hdf2
          go_enter Try.func32, Try.ntmps32
          go_wp2_with fail
          refine (HV.out _ (H.out.below (by repeat (first | exact Below.refl _ _ | assumption | refine Below.drew ?_ | refine below_drewN ?_ _ | refine Below.alloc ?_ (by first | omega | (simp; done) | (simp; omega)) _ | refine Below.setCell ?_ (by first | omega | (simp; done) | (simp; omega)) _)))).mono ?_
          rintro e1 w1 ⟨rfl, hb1⟩
          obtain ⟨hc1, hf1⟩ := bcell hb1
          have hz1 := hb1.size
          try simp at hz1
          have ha1 : Below w.heap.size w w1 := below_call (by repeat (first | exact Below.refl _ _ | assumption | refine Below.drew ?_ | refine below_drewN ?_ _ | refine Below.alloc ?_ (by first | omega | (simp; done) | (simp; omega)) _ | refine Below.setCell ?_ (by first | omega | (simp; done) | (simp; omega)) _)) hb1
          go_wp2_with fail
          refine (HV'.out _ (H'.out.below (by repeat (first | exact Below.refl _ _ | assumption | refine Below.drew ?_ | refine below_drewN ?_ _ | refine Below.alloc ?_ (by first | omega | (simp; done) | (simp; omega)) _ | refine Below.setCell ?_ (by first | omega | (simp; done) | (simp; omega)) _)))).mono ?_
          rintro e2 w2 ⟨rfl, hb2⟩
          have hy2 := hb2.size
          replace hb2 := below_call hb1 hb2
          clear hc1 hf1
          obtain ⟨hc2, hf2⟩ := bcell hb2
          have hz2 := hb2.size
          try simp at hz2
          have ha2 : Below w.heap.size w w2 := below_call (by repeat (first | exact Below.refl _ _ | assumption | refine Below.drew ?_ | refine below_drewN ?_ _ | refine Below.alloc ?_ (by first | omega | (simp; done) | (simp; omega)) _ | refine Below.setCell ?_ (by first | omega | (simp; done) | (simp; omega)) _)) hb2
          have q0 := keep1 ha2 hd
          have q1 := keep1 ha2 hd'
          go_wp2_with fail
          go_quiet (fail)
          go_wp2
          go_ret3
          exact ⟨rfl, (by repeat (first | exact Below.refl _ _ | assumption | refine Below.drew ?_ | refine below_drewN ?_ _ | refine Below.alloc ?_ (by first | omega | (simp; done) | (simp; omega)) _ | refine Below.setCell ?_ (by first | omega | (simp; done) | (simp; omega)) _))⟩
      · obtain ⟨k1, k2, k3⟩ := fs_yes gt g3
        obtain ⟨d1, d2⟩ := dim_t g3
        rw [hl, hl'] at d1
        have hfl := fL_len (ys := ys) g1
        have HSJ : Hid (∀ W, IsStrs W (some ⟨b, o, none⟩) len cap xs → IsStrs W (some ⟨b', o', none⟩) len' cap' ys → Calls Try.prog 57 #[.slice (some ⟨b, o, none⟩) len cap, .slice (some ⟨b', o', none⟩) len' cap'] W fun e w' => ∃ v, e = .returned v ∧ OwnP w' W.heap.size v (fL xs ys) ∧ Below W.heap.size W w') := Lib.hid (fun W hW hW' => HSI.out W hW hW' d1 d2)
        generalize xs.getD 0 ByteArray.empty = x0 at hd hz
        generalize ys.getD 0 ByteArray.empty = y0 at hd' hz'
        have y1 : ((len : Int) != (len' : Int)) = false := by simp; omega
        have y2 : ((x0.size : Int) != (y0.size : Int)) = false := by simp; omega
        rw [k1, k2, k3]
        generalize fL xs ys = l at *
        clear h h' g1 g2 g3 gt k1 k2 k3 v1 v2 v3 v4 v5 t1 t2 t3 t4 t5 HSI hl hl' d1 d2 hz hz'
        rcases l with _ | ⟨⟨r, u⟩, t⟩
        · obtain ⟨z1, z2, z3⟩ := hd_nil
          rw [z1, z2, z3]
          clear z1 z2 z3
          go_enter Try.func32, Try.ntmps32
          go_wp2_with fail
          refine (HV.out _ (H.out.below (by repeat (first | exact Below.refl _ _ | assumption | refine Below.drew ?_ | refine below_drewN ?_ _ | refine Below.alloc ?_ (by first | omega | (simp; done) | (simp; omega)) _ | refine Below.setCell ?_ (by first | omega | (simp; done) | (simp; omega)) _)))).mono ?_
          rintro e1 w1 ⟨rfl, hb1⟩
          obtain ⟨hc1, hf1⟩ := bcell hb1
          have hz1 := hb1.size
          try simp at hz1
          have ha1 : Below w.heap.size w w1 := below_call (by repeat (first | exact Below.refl _ _ | assumption | refine Below.drew ?_ | refine below_drewN ?_ _ | refine Below.alloc ?_ (by first | omega | (simp; done) | (simp; omega)) _ | refine Below.setCell ?_ (by first | omega | (simp; done) | (simp; omega)) _)) hb1
          go_wp2_with fail
          refine (HV'.out _ (H'.out.below (by repeat (first | exact Below.refl _ _ | assumption | refine Below.drew ?_ | refine below_drewN ?_ _ | refine Below.alloc ?_ (by first | omega | (simp; done) | (simp; omega)) _ | refine Below.setCell ?_ (by first | omega | (simp; done) | (simp; omega)) _)))).mono ?_
          rintro e2 w2 ⟨rfl, hb2⟩
          have hy2 := hb2.size
          replace hb2 := below_call hb1 hb2
          clear hc1 hf1
          obtain ⟨hc2, hf2⟩ := bcell hb2
          have hz2 := hb2.size
          try simp at hz2
          have ha2 : Below w.heap.size w w2 := below_call (by repeat (first | exact Below.refl _ _ | assumption | refine Below.drew ?_ | refine below_drewN ?_ _ | refine Below.alloc ?_ (by first | omega | (simp; done) | (simp; omega)) _ | refine Below.setCell ?_ (by first | omega | (simp; done) | (simp; omega)) _)) hb2
          have q0 := keep1 ha2 hd
          have q1 := keep1 ha2 hd'
          go_wp2_with fail
          go_quiet (fail)
          have ha3 := below_drewN ha2 nq
          clear q0 q1
          go_wp2_with fail
          refine (HSJ.out _ (H.out.below (by repeat (first | exact Below.refl _ _ | assumption | refine Below.drew ?_ | refine below_drewN ?_ _ | refine Below.alloc ?_ (by first | omega | (simp; done) | (simp; omega)) _ | refine Below.setCell ?_ (by first | omega | (simp; done) | (simp; omega)) _))) (H'.out.below (by repeat (first | exact Below.refl _ _ | assumption | refine Below.drew ?_ | refine below_drewN ?_ _ | refine Below.alloc ?_ (by first | omega | (simp; done) | (simp; omega)) _ | refine Below.setCell ?_ (by first | omega | (simp; done) | (simp; omega)) _)))).mono ?_
          rintro e w4 ⟨v, rfl, hO, hb4⟩
          obtain ⟨x, c, rfl⟩ := hO.shape
          have ha4 := below_call ha3 hb4
          clear hO
          go_wp2
          go_ret3
          exact ⟨rfl, (by repeat (first | exact Below.refl _ _ | assumption | refine Below.drew ?_ | refine below_drewN ?_ _ | refine Below.alloc ?_ (by first | omega | (simp; done) | (simp; omega)) _ | refine Below.setCell ?_ (by first | omega | (simp; done) | (simp; omega)) _))⟩
        · obtain ⟨z1, z2, z3⟩ := hd_some (l := (r, u) :: t) (r := r) (u := u) rfl
          rw [z1, z2, z3]
          clear z1 z2 z3
          go_enter Try.func32, Try.ntmps32
          go_wp2_with fail
          refine (HV.out _ (H.out.below (by repeat (first | exact Below.refl _ _ | assumption | refine Below.drew ?_ | refine below_drewN ?_ _ | refine Below.alloc ?_ (by first | omega | (simp; done) | (simp; omega)) _ | refine Below.setCell ?_ (by first | omega | (simp; done) | (simp; omega)) _)))).mono ?_
          rintro e1 w1 ⟨rfl, hb1⟩
          obtain ⟨hc1, hf1⟩ := bcell hb1
          have hz1 := hb1.size
          try simp at hz1
          have ha1 : Below w.heap.size w w1 := below_call (by repeat (first | exact Below.refl _ _ | assumption | refine Below.drew ?_ | refine below_drewN ?_ _ | refine Below.alloc ?_ (by first | omega | (simp; done) | (simp; omega)) _ | refine Below.setCell ?_ (by first | omega | (simp; done) | (simp; omega)) _)) hb1
          go_wp2_with fail
          refine (HV'.out _ (H'.out.below (by repeat (first | exact Below.refl _ _ | assumption | refine Below.drew ?_ | refine below_drewN ?_ _ | refine Below.alloc ?_ (by first | omega | (simp; done) | (simp; omega)) _ | refine Below.setCell ?_ (by first | omega | (simp; done) | (simp; omega)) _)))).mono ?_
          rintro e2 w2 ⟨rfl, hb2⟩
          have hy2 := hb2.size
          replace hb2 := below_call hb1 hb2
          clear hc1 hf1
          obtain ⟨hc2, hf2⟩ := bcell hb2
          have hz2 := hb2.size
          try simp at hz2
          have ha2 : Below w.heap.size w w2 := below_call (by repeat (first | exact Below.refl _ _ | assumption | refine Below.drew ?_ | refine below_drewN ?_ _ | refine Below.alloc ?_ (by first | omega | (simp; done) | (simp; omega)) _ | refine Below.setCell ?_ (by first | omega | (simp; done) | (simp; omega)) _)) hb2
          have q0 := keep1 ha2 hd
          have q1 := keep1 ha2 hd'
          go_wp2_with fail
          go_quiet (fail)
          have ha3 := below_drewN ha2 nq
          clear q0 q1
          go_wp2_with fail
          refine (HSJ.out _ (H.out.below (by repeat (first | exact Below.refl _ _ | assumption | refine Below.drew ?_ | refine below_drewN ?_ _ | refine Below.alloc ?_ (by first | omega | (simp; done) | (simp; omega)) _ | refine Below.setCell ?_ (by first | omega | (simp; done) | (simp; omega)) _))) (H'.out.below (by repeat (first | exact Below.refl _ _ | assumption | refine Below.drew ?_ | refine below_drewN ?_ _ | refine Below.alloc ?_ (by first | omega | (simp; done) | (simp; omega)) _ | refine Below.setCell ?_ (by first | omega | (simp; done) | (simp; omega)) _)))).mono ?_
          rintro e w4 ⟨v, rfl, hO, hb4⟩
          obtain ⟨x, c, rfl⟩ := hO.shape
          have ha4 := below_call ha3 hb4
          obtain ⟨g, rfl, c0, c1⟩ := hO.first rfl
          have hn1 : (0 : Int) < (((r, u) :: t).length : Int) := by first | (simp; done) | (simp; omega)
          have hn2 : ((((r, u) :: t).length : Int) == 0) = false := by first | (simp; done) | (simp; omega)
          generalize ((r, u) :: t).length = n at *
          clear hO
          go_wp2_with fail
          go_quiet (fail)
          go_wp2
          go_ret3
          exact ⟨rfl, (by repeat (first | exact Below.refl _ _ | assumption | refine Below.drew ?_ | refine below_drewN ?_ _ | refine Below.alloc ?_ (by first | omega | (simp; done) | (simp; omega)) _ | refine Below.setCell ?_ (by first | omega | (simp; done) | (simp; omega)) _))⟩
end Go.Proofs.Ytlkdkidpbjpkhaa
