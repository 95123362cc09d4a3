/- For all bytes, the law FnPieceCounts holds (the tied card of FnPieceCounts): bricks cover the wall, shared bricks have their sum, and waste never makes them fewer; condition, tied to the text: the library's tables are laid as its text lays them. -/
import Derived.Test.YtgnalhnbdpigdaaDoorPieceQ
import Derived.Test.YtgnalhnbdpigdaaDoorPieceC
import Derived.Test.YtgnalhnbdpigdaaDoorPieceT
import Derived.Test.YtgnalhnbdpigdaaDoorDrawR
import Derived.Test.YtgnalhnbdpigdaaDoorTie
import Derived.Test.YtgnalhnbdpigdaaDoorCards
import Derived.LaidMore
import Derived.Lay
import Derived.SevenTiedAt
import Derived.Stop.Joined
import Derived.Stop.LaidErr
import Derived.MakeChecks
import Derived.BigQuiet
namespace Go.Proofs.YtgnalhnbdpigdaaDoor
open Go.ChangeShapes Go.WideShapes Go.ChangeAt Go.RowKit
set_option linter.unusedSimpArgs false
set_option linter.unusedVariables false

set_option maxRecDepth 100000 in
set_option maxHeartbeats 16000000 in
theorem counts_walk (a : Option Addr) (len cap : Nat) (zs : List Int) (w : World) (ht : Tab w) (h : IsRow .u8 w a len cap zs) :
    Calls Tryd.prog 4 #[.slice a len cap] w fun e w' => e = .returned (.bool true) ∧ Below w.heap.size w w' := by
  have hm : len ≤ maxLen := Nat.le_trans h.2.1 h.2.2.1
  have HL := Lib.hid (fun W => f6big_any a len cap W hm)
  have H := Lib.hid h
  have HT := Lib.hid ht
  clear h hm ht
  cases hl : bigB len
  case true =>
    rw [hl] at HL
    clear hl
    go_enter Tryd.func4, Tryd.ntmps4
    go_wp2_with fail
    refine (HL.out _).mono ?_
    rintro e w1 ⟨rfl, rfl⟩
    go_wp2
    go_ret
    exact ⟨rfl, (by repeat (first | exact Below.refl _ _ | assumption | refine Below.drew ?_ | refine below_drewN ?_ _ | refine Below.alloc ?_ (by first | omega | (simp; done) | (simp; omega)) _ | refine Below.setCell ?_ (by first | omega | (simp; done) | (simp; omega)) _))⟩
  case false =>
    rw [hl] at HL
    clear hl
    go_enter Tryd.func4, Tryd.ntmps4
    go_wp2_with fail
    refine (HL.out _).mono ?_
    rintro e w1 ⟨rfl, rfl⟩
    clear HL
    go_wp2_with fail
    refine (drawBricksOf_any _ _ _ _ _ H.out).mono ?_
    rintro e w2 ⟨l, d, h, j, x, y, z, rfl, k2⟩
    have z2 := k2.size
    have HB1 := Lib.hid (fun W => bricksOfE_any l d h j x y z W)
    have HB2 := Lib.hid (fun W => specBricksOf_any l d h j x y z W)
    have HBR := Lib.hid (brick_cases l d h j x y z)
    generalize bricksI l d h j x y z = bk at *
    obtain ⟨b1, b2⟩ := bk
    go_wp2_with fail
    refine (HB1.out _).mono ?_
    rintro e w3 ⟨rfl, hb3⟩
    have k3 : Below w.heap.size w w3 := below_call (by repeat (first | exact Below.refl _ _ | assumption | refine Below.drew ?_ | refine below_drewN ?_ _ | refine Below.alloc ?_ (by first | omega | (simp; done) | (simp; omega)) _ | refine Below.setCell ?_ (by first | omega | (simp; done) | (simp; omega)) _)) hb3
    have F3 := Lib.hid (((b4_new w2 31 (.int .i64 l) (.int .i64 d) (.int .i64 h) (.int .i64 j)).alloc (.cells #[.int .i64 x, .int .i64 y, .int .i64 z] 25)).below hb3)
    have P3 := Lib.hid ((b3_new (w2.alloc (.cells #[.int .i64 l, .int .i64 d, .int .i64 h, .int .i64 j] 31)) 25 (.int .i64 x) (.int .i64 y) (.int .i64 z)).below hb3)
    simp at P3
    obtain ⟨f0, f1, f2, f3⟩ := F3.out.cells
    obtain ⟨p0, p1, p2⟩ := P3.out.cells
    clear hb3 HB1 k2
    go_wp2_with fail
    clear f0 f1 f2 f3 p0 p1 p2
    refine (HB2.out _).mono ?_
    rintro e w4 ⟨rfl, s4⟩
    have k4 := below_call k3 s4
    have FP4 := Lib.hid (And.intro (F3.out.below s4) (P3.out.below s4))
    clear s4 HB2 F3 P3 k3
    go_wp2_with fail
    refine (drawBricksOfAll_any _ _ _ _ _ (H.out.below k4)).mono ?_
    rintro e w5 ⟨a5, n5, c5, ps5, l5, d5, h5, j5, rfl, hp5, s5⟩
    have k5 := below_call k4 s5
    have FP5 := Lib.hid (And.intro (FP4.out.1.below s5) (FP4.out.2.below s5))
    have HW5 := Lib.hid hp5
    have HA1 := Lib.hid (fun W hW => bricksOfAll_any l5 d5 h5 j5 a5 n5 c5 ps5 W hW)
    have HA2 := Lib.hid (fun W hW => specBricksOfAll_any l5 d5 h5 j5 a5 n5 c5 ps5 W hW)
    generalize allC l5 d5 h5 j5 ps5 = aa at *
    obtain ⟨t1, t2⟩ := aa
    have z5 := k5.size
    clear s5 hp5 FP4 k4
    go_wp2_with fail
    refine (HA1.out _ (HW5.out.below (by repeat (first | exact Below.refl _ _ | assumption | refine Below.drew ?_ | refine below_drewN ?_ _ | refine Below.alloc ?_ (by first | omega | (simp; done) | (simp; omega)) _ | refine Below.setCell ?_ (by first | omega | (simp; done) | (simp; omega)) _)))).mono ?_
    rintro e w6 ⟨rfl, hb6⟩
    have s6 : Below w5.heap.size w5 w6 := below_call (by repeat (first | exact Below.refl _ _ | assumption | refine Below.drew ?_ | refine below_drewN ?_ _ | refine Below.alloc ?_ (by first | omega | (simp; done) | (simp; omega)) _ | refine Below.setCell ?_ (by first | omega | (simp; done) | (simp; omega)) _)) hb6
    have G6 := Lib.hid ((b4_new w5 31 (.int .i64 l5) (.int .i64 d5) (.int .i64 h5) (.int .i64 j5)).below hb6)
    obtain ⟨f0, f1, f2, f3⟩ := G6.out.cells
    clear hb6 HA1 G6
    go_wp2_with fail
    clear f0 f1 f2 f3
    refine (HA2.out _ (HW5.out.below s6)).mono ?_
    rintro e w7 ⟨rfl, hb7⟩
    have s7 := below_call s6 hb7
    have k7 := below_call k5 s7
    have FP7 := Lib.hid (And.intro (FP5.out.1.below s7) (FP5.out.2.below s7))
    clear hb7 s6 s7 HA2 HW5 FP5 k5
    go_wp2_with fail
    refine (drawShareBricks_any _ _ _ _ _ (H.out.below k7)).mono ?_
    rintro e w8 ⟨a8, n8, c8, ps8, l8, d8, h8, j8, B8, rfl, hp8, s8⟩
    have k8 := below_call k7 s8
    have FP8 := Lib.hid (And.intro (FP7.out.1.below s8) (FP7.out.2.below s8))
    have HW8 := Lib.hid hp8
    have HS1 := Lib.hid (fun W hW => shareBricks_any l8 d8 h8 j8 a8 n8 c8 ps8 B8 W hW)
    have HS2 := Lib.hid (fun W hW => specShareBricks_any l8 d8 h8 j8 a8 n8 c8 ps8 B8 W hW)
    have HSH := Lib.hid (share_cases l8 d8 h8 j8 ps8 B8)
    generalize shI l8 d8 h8 j8 ps8 B8 = Z at *
    generalize shC l8 d8 h8 j8 ps8 B8 = C at *
    clear s8 hp8 FP7 k7
    go_wp2_with fail
    refine (HS1.out _ (HW8.out.below (by repeat (first | exact Below.refl _ _ | assumption | refine Below.drew ?_ | refine below_drewN ?_ _ | refine Below.alloc ?_ (by first | omega | (simp; done) | (simp; omega)) _ | refine Below.setCell ?_ (by first | omega | (simp; done) | (simp; omega)) _)))).mono ?_
    rintro e w9 ⟨a9, c9, rfl, hO9, hb9⟩
    have s9 : Below w8.heap.size w8 w9 := below_call (by repeat (first | exact Below.refl _ _ | assumption | refine Below.drew ?_ | refine below_drewN ?_ _ | refine Below.alloc ?_ (by first | omega | (simp; done) | (simp; omega)) _ | refine Below.setCell ?_ (by first | omega | (simp; done) | (simp; omega)) _)) hb9
    have G9 := Lib.hid ((b4_new w8 31 (.int .i64 l8) (.int .i64 d8) (.int .i64 h8) (.int .i64 j8)).below hb9)
    have HZ9 := Lib.hid hO9.row
    obtain ⟨f0, f1, f2, f3⟩ := G9.out.cells
    clear hb9 hO9 HS1 G9
    go_wp2_with fail
    clear f0 f1 f2 f3
    refine (HS2.out _ (HW8.out.below s9)).mono ?_
    rintro e w10 ⟨a10, c10, rfl, hO10, hb10⟩
    have s10 := below_call s9 hb10
    have k10 := below_call k8 s10
    have FP10 := Lib.hid (And.intro (FP8.out.1.below s10) (FP8.out.2.below s10))
    have HZ10 := Lib.hid (HZ9.out.below hb10)
    have HY10 := Lib.hid hO10.row
    clear hb10 s9 s10 hO10 HS2 HW8 FP8 k8 HZ9
    go_wp2_with fail
    refine (drawWithWaste_any _ _ _ _ _ (H.out.below k10)).mono ?_
    rintro e w11 ⟨x1, p1, rfl, s11⟩
    have k11 := below_call k10 s11
    have FP11 := Lib.hid (And.intro (FP10.out.1.below s11) (FP10.out.2.below s11))
    have HZ11 := Lib.hid (HZ10.out.below s11)
    have HY11 := Lib.hid (HY10.out.below s11)
    have HW1 := Lib.hid (fun W => withWaste_any x1 p1 W)
    have HW2 := Lib.hid (fun W => specWithWaste_any x1 p1 W)
    have HWS := Lib.hid (waste_cases x1 p1)
    generalize wasteI x1 p1 = ww at *
    obtain ⟨q1, q2⟩ := ww
    clear s11 k10 FP10 HZ10 HY10
    go_wp2_with fail
    refine (HW1.out _).mono ?_
    rintro e w12 ⟨rfl, rfl⟩
    go_wp2_with fail
    refine (HW2.out _).mono ?_
    rintro e w12 ⟨rfl, rfl⟩
    clear HW1 HW2
    go_wp2_with fail
    refine (drawBricksForMetre_any _ _ _ _ _ (H.out.below k11)).mono ?_
    rintro e w12 ⟨l12, d12, h12, j12, rfl, s12⟩
    have k12 := below_call k11 s12
    have FP12 := Lib.hid (And.intro (FP11.out.1.below s12) (FP11.out.2.below s12))
    have HZ12 := Lib.hid (HZ11.out.below s12)
    have HY12 := Lib.hid (HY11.out.below s12)
    have HM1 := Lib.hid (fun W => bricksForMetre_any l12 d12 h12 j12 W)
    have HM2 := Lib.hid (fun W => specBricksForMetre_any l12 d12 h12 j12 W)
    generalize metreI l12 d12 h12 j12 = mm at *
    obtain ⟨mn, md, mc⟩ := mm
    have z12 := k12.size
    clear s12 k11 FP11 HZ11 HY11
    go_wp2_with fail
    refine (HM1.out _).mono ?_
    rintro e w13 ⟨rfl, hb13⟩
    have s13 : Below w12.heap.size w12 w13 := below_call (by repeat (first | exact Below.refl _ _ | assumption | refine Below.drew ?_ | refine below_drewN ?_ _ | refine Below.alloc ?_ (by first | omega | (simp; done) | (simp; omega)) _ | refine Below.setCell ?_ (by first | omega | (simp; done) | (simp; omega)) _)) hb13
    have G13 := Lib.hid ((b4_new w12 31 (.int .i64 l12) (.int .i64 d12) (.int .i64 h12) (.int .i64 j12)).below hb13)
    obtain ⟨f0, f1, f2, f3⟩ := (G13.out.alloc (.cells #[.int .i64 mn, .int .i64 md] 49)).cells
    have hgl := G13.out.lt
    clear hb13 HM1 G13
    go_wp2_with fail
    clear f0 f1 f2 f3 hgl
    refine (HM2.out _).mono ?_
    rintro e w14 ⟨rfl, hb14⟩
    have s14' : Below w13.heap.size w13 w14 := below_call (by repeat (first | exact Below.refl _ _ | assumption | refine Below.drew ?_ | refine below_drewN ?_ _ | refine Below.alloc ?_ (by first | omega | (simp; done) | (simp; omega)) _ | refine Below.setCell ?_ (by first | omega | (simp; done) | (simp; omega)) _)) hb14
    have M14 := Lib.hid (blk_call (blk_new w13 (.cells #[.int .i64 mn, .int .i64 md] 49)) hb14)
    have s14 := below_call s13 s14'
    have k14 := below_call k12 s14
    have FP14 := Lib.hid (And.intro (FP12.out.1.below s14) (FP12.out.2.below s14))
    have HZ14 := Lib.hid (HZ12.out.below s14)
    have HY14 := Lib.hid (HY12.out.below s14)
    have z14 := k14.size
    clear hb14 s13 s14 s14' HM2 k12 FP12 HZ12 HY12
    go_wp2_with fail
    have k14' : Below w.heap.size w (w14.alloc (.cells #[.int .i64 mn, .int .i64 md] 49)) := (by repeat (first | exact Below.refl _ _ | assumption | refine Below.drew ?_ | refine below_drewN ?_ _ | refine Below.alloc ?_ (by first | omega | (simp; done) | (simp; omega)) _ | refine Below.setCell ?_ (by first | omega | (simp; done) | (simp; omega)) _))
    refine (drawMortarFor_any _ _ _ _ _ (H.out.below k14')).mono ?_
    rintro e w15 ⟨l15, d15, h15, j15, b15, rfl, hb15⟩
    have s15 : Below w14.heap.size w14 w15 := below_call (by repeat (first | exact Below.refl _ _ | assumption | refine Below.drew ?_ | refine below_drewN ?_ _ | refine Below.alloc ?_ (by first | omega | (simp; done) | (simp; omega)) _ | refine Below.setCell ?_ (by first | omega | (simp; done) | (simp; omega)) _)) hb15
    have N15 := Lib.hid (blk_call (blk_new w14 (.cells #[.int .i64 mn, .int .i64 md] 49)) hb15)
    have M15 := Lib.hid (blk_call M14.out s15)
    have k15 := below_call k14 s15
    have FP15 := Lib.hid (And.intro (FP14.out.1.below s15) (FP14.out.2.below s15))
    have HZ15 := Lib.hid (HZ14.out.below s15)
    have HY15 := Lib.hid (HY14.out.below s15)
    have HO1 := Lib.hid (fun W => mortarFor_any l15 d15 h15 j15 b15 W)
    have HO2 := Lib.hid (fun W => specMortarFor_any l15 d15 h15 j15 b15 W)
    generalize mortarI l15 d15 h15 j15 b15 = oo at *
    obtain ⟨on, od, oc⟩ := oo
    have z15 := k15.size
    clear hb15 s15 k14 k14' FP14 HZ14 HY14 M14
    go_wp2_with fail
    refine (HO1.out _).mono ?_
    rintro e w16 ⟨rfl, hb16⟩
    have s16 : Below w15.heap.size w15 w16 := below_call (by repeat (first | exact Below.refl _ _ | assumption | refine Below.drew ?_ | refine below_drewN ?_ _ | refine Below.alloc ?_ (by first | omega | (simp; done) | (simp; omega)) _ | refine Below.setCell ?_ (by first | omega | (simp; done) | (simp; omega)) _)) hb16
    have G16 := Lib.hid ((b4_new w15 31 (.int .i64 l15) (.int .i64 d15) (.int .i64 h15) (.int .i64 j15)).below hb16)
    obtain ⟨f0, f1, f2, f3⟩ := (G16.out.alloc (.cells #[.int .i64 on, .int .i64 od] 49)).cells
    have hgl := G16.out.lt
    clear hb16 HO1 G16
    go_wp2_with fail
    clear f0 f1 f2 f3 hgl
    refine (HO2.out _).mono ?_
    rintro e w17 ⟨rfl, hb17⟩
    have s17' : Below w16.heap.size w16 w17 := below_call (by repeat (first | exact Below.refl _ _ | assumption | refine Below.drew ?_ | refine below_drewN ?_ _ | refine Below.alloc ?_ (by first | omega | (simp; done) | (simp; omega)) _ | refine Below.setCell ?_ (by first | omega | (simp; done) | (simp; omega)) _)) hb17
    have O17 := Lib.hid (blk_call (blk_new w16 (.cells #[.int .i64 on, .int .i64 od] 49)) hb17)
    have s17 := below_call s16 s17'
    have k17 := below_call k15 s17
    have FP17 := Lib.hid (And.intro (FP15.out.1.below s17) (FP15.out.2.below s17))
    have HZ17 := Lib.hid (HZ15.out.below s17)
    have HY17 := Lib.hid (HY15.out.below s17)
    have M17 := Lib.hid (blk_call M15.out s17)
    have N17 := Lib.hid (blk_call N15.out s17)
    have z17 := k17.size
    clear hb17 s16 s17 s17' HO2 k15 FP15 HZ15 HY15 M15 N15
    go_wp2_with fail
    have k17' : Below w.heap.size w (w17.alloc (.cells #[.int .i64 on, .int .i64 od] 49)) := (by repeat (first | exact Below.refl _ _ | assumption | refine Below.drew ?_ | refine below_drewN ?_ _ | refine Below.alloc ?_ (by first | omega | (simp; done) | (simp; omega)) _ | refine Below.setCell ?_ (by first | omega | (simp; done) | (simp; omega)) _))
    refine (drawPieceText_any _ _ _ _ _ (H.out.below k17')).mono ?_
    rintro e w18 ⟨x18, y18, z18', rfl, hb18⟩
    have s18 : Below w17.heap.size w17 w18 := below_call (by repeat (first | exact Below.refl _ _ | assumption | refine Below.drew ?_ | refine below_drewN ?_ _ | refine Below.alloc ?_ (by first | omega | (simp; done) | (simp; omega)) _ | refine Below.setCell ?_ (by first | omega | (simp; done) | (simp; omega)) _)) hb18
    have Q18 := Lib.hid (blk_call (blk_new w17 (.cells #[.int .i64 on, .int .i64 od] 49)) hb18)
    have O18 := Lib.hid (blk_call O17.out s18)
    have M18 := Lib.hid (blk_call M17.out s18)
    have N18 := Lib.hid (blk_call N17.out s18)
    have k18 := below_call k17 s18
    have FP18 := Lib.hid (And.intro (FP17.out.1.below s18) (FP17.out.2.below s18))
    have HZ18 := Lib.hid (HZ17.out.below s18)
    have HY18 := Lib.hid (HY17.out.below s18)
    have z18 := k18.size
    clear hb18 s18 k17 k17' FP17 HZ17 HY17 M17 N17 O17
    go_wp2_with fail
    have k18' : Below w.heap.size w (w18.alloc (.cells #[.int .i64 x18, .int .i64 y18, .int .i64 z18'] 25)) := (by repeat (first | exact Below.refl _ _ | assumption | refine Below.drew ?_ | refine below_drewN ?_ _ | refine Below.alloc ?_ (by first | omega | (simp; done) | (simp; omega)) _ | refine Below.setCell ?_ (by first | omega | (simp; done) | (simp; omega)) _))
    refine (drawValidPieces_any _ _ _ _ _ (H.out.below k18')).mono ?_
    rintro e w19 ⟨a19, n19, c19, ps19, rfl, hp19, hb19⟩
    have s19 : Below w18.heap.size w18 w19 := below_call (by repeat (first | exact Below.refl _ _ | assumption | refine Below.drew ?_ | refine below_drewN ?_ _ | refine Below.alloc ?_ (by first | omega | (simp; done) | (simp; omega)) _ | refine Below.setCell ?_ (by first | omega | (simp; done) | (simp; omega)) _)) hb19
    have T19 := Lib.hid (B3.below (b3_new w18 25 (.int .i64 x18) (.int .i64 y18) (.int .i64 z18')) hb19)
    have Q19 := Lib.hid (blk_call Q18.out s19)
    have O19 := Lib.hid (blk_call O18.out s19)
    have M19 := Lib.hid (blk_call M18.out s19)
    have N19 := Lib.hid (blk_call N18.out s19)
    have k19 := below_call k18 s19
    have FP19 := Lib.hid (And.intro (FP18.out.1.below s19) (FP18.out.2.below s19))
    have HZ19 := Lib.hid (HZ18.out.below s19)
    have HY19 := Lib.hid (HY18.out.below s19)
    have HW19 := Lib.hid hp19
    clear hb19 s19 k18 k18' FP18 HZ18 HY18 M18 N18 O18 Q18 H hp19
    go_wp2_with fail
    have HF := Lib.hid (fun W (hW : Below w19.heap.size w19 W) => f6ints_same _ _ _ _ _ Z W (HZ19.out.below hW) (HY19.out.below hW))
    have HPT := Lib.hid (fun W (hW : Below w19.heap.size w19 W) => pieceText_any x18 y18 z18' W (HT.out.below (below_call k19 hW)))
    have HPS := Lib.hid (fun W => specPieceText_any x18 y18 z18' W)
    have HV1 := Lib.hid (fun W (hW : Below w19.heap.size w19 W) => validPieces_any _ _ _ ps19 W (HW19.out.below hW))
    have HV2 := Lib.hid (fun W (hW : Below w19.heap.size w19 W) => specValidPieces_any _ _ _ ps19 W (HW19.out.below hW))
    have hnn : ((ptS x18 y18 z18').toList != (ptS x18 y18 z18').toList) = false := by simp
    generalize ptS x18 y18 z18' = tx at *
    generalize vpB ps19 = vv at *
    have hC0 : ∀ W, Below w19.heap.size w19 W → W.cell? ⟨w13.heap.size, 0, none⟩ = some (.int .i64 mn) := fun W hW => cellOf (blk_call M19.out hW) 0
    have hC1 : ∀ W, Below w19.heap.size w19 W → W.cell? ⟨w13.heap.size, 1, none⟩ = some (.int .i64 md) := fun W hW => cellOf (blk_call M19.out hW) 1
    have hC2 : ∀ W, Below w19.heap.size w19 W → W.cell? ⟨w14.heap.size, 0, none⟩ = some (.int .i64 mn) := fun W hW => cellOf (blk_call N19.out hW) 0
    have hC3 : ∀ W, Below w19.heap.size w19 W → W.cell? ⟨w14.heap.size, 1, none⟩ = some (.int .i64 md) := fun W hW => cellOf (blk_call N19.out hW) 1
    have hC4 : ∀ W, Below w19.heap.size w19 W → W.cell? ⟨w16.heap.size, 0, none⟩ = some (.int .i64 on) := fun W hW => cellOf (blk_call O19.out hW) 0
    have hC5 : ∀ W, Below w19.heap.size w19 W → W.cell? ⟨w16.heap.size, 1, none⟩ = some (.int .i64 od) := fun W hW => cellOf (blk_call O19.out hW) 1
    have hC6 : ∀ W, Below w19.heap.size w19 W → W.cell? ⟨w17.heap.size, 0, none⟩ = some (.int .i64 on) := fun W hW => cellOf (blk_call Q19.out hW) 0
    have hC7 : ∀ W, Below w19.heap.size w19 W → W.cell? ⟨w17.heap.size, 1, none⟩ = some (.int .i64 od) := fun W hW => cellOf (blk_call Q19.out hW) 1
    have hC8 : ∀ W, Below w19.heap.size w19 W → W.cell? ⟨w18.heap.size, 0, none⟩ = some (.int .i64 x18) := fun W hW => (T19.out.below hW).cells.1
    have hC9 : ∀ W, Below w19.heap.size w19 W → W.cell? ⟨w18.heap.size, 1, none⟩ = some (.int .i64 y18) := fun W hW => (T19.out.below hW).cells.2.1
    have hC10 : ∀ W, Below w19.heap.size w19 W → W.cell? ⟨w18.heap.size, 2, none⟩ = some (.int .i64 z18') := fun W hW => (T19.out.below hW).cells.2.2
    have hS0 : Below w19.heap.size w19 w19.drew := (Below.refl _ _).drew
    clear M19 N19 O19 Q19 T19 HZ19 HW19 HT
    go_cut [221] (fun c wx => c = .bool false ∧ Below w19.heap.size w19 wx)
    case first =>
      as_aux_lemma =>
        simp only [List.append_eq, List.cons_append, List.nil_append]
        go_region_held3 (fun W => Below w19.heap.size w19 W)
          (first | (with_reducible assumption) | (with_reducible exact hS0))
          ((first
            | (go_at_call 29; refine (HF.out _ (by repeat (first | assumption | exact Below.refl _ _ | refine Below.drew ?_))).mono ?_; rintro e20 w20 ⟨rfl, s20'⟩; have s20 : Below w19.heap.size w19 w20 := below_call (by repeat (first | assumption | exact Below.refl _ _ | refine Below.drew ?_)) s20'; clear s20')
            | (go_at_call 7; refine (HPT.out _ (by repeat (first | assumption | exact Below.refl _ _ | refine Below.drew ?_))).mono ?_; rintro e21 w21 ⟨rfl, s21'⟩; have s21 : Below w19.heap.size w19 w21 := below_call (by repeat (first | assumption | exact Below.refl _ _ | refine Below.drew ?_)) s21'; clear s21')
            | (go_at_call 5; refine (HPS.out _).mono ?_; rintro e22 w22 ⟨rfl, s22'⟩; have s22 : Below w19.heap.size w19 w22 := below_call (by repeat (first | assumption | exact Below.refl _ _ | refine Below.drew ?_)) s22'; clear s22')
            | (go_at_call 30; refine (HV1.out _ (by repeat (first | assumption | exact Below.refl _ _ | refine Below.drew ?_))).mono ?_; rintro e23 w23 ⟨rfl, s23'⟩; have s23 : Below w19.heap.size w19 w23 := below_call (by repeat (first | assumption | exact Below.refl _ _ | refine Below.drew ?_)) s23'; clear s23')
            | (go_at_call 31; refine (HV2.out _ (by repeat (first | assumption | exact Below.refl _ _ | refine Below.drew ?_))).mono ?_; rintro e24 w24 ⟨rfl, s24'⟩; have s24 : Below w19.heap.size w19 w24 := below_call (by repeat (first | assumption | exact Below.refl _ _ | refine Below.drew ?_)) s24'; clear s24')))
        all_goals
          go_wp2_with fail
          go_meet
          exact ⟨rfl, by assumption⟩
    case rest =>
      obtain ⟨rfl, s24⟩ := hcut
      have kt := below_call k19 s24
      have FPt := Lib.hid (And.intro (FP19.out.1.below s24) (FP19.out.2.below s24))
      have HYt := Lib.hid (HY19.out.below s24)
      clear hS0 hC0 hC1 hC2 hC3 hC4 hC5 hC6 hC7 hC8 hC9 hC10 HF HPT HPS HV1 HV2 k19 FP19 HY19
      rcases HSH.out with ⟨e1, e2, e3, e4⟩ | ⟨e1, e2⟩
      · subst e1
        have HZP := Lib.hid e3
        have HZS := Lib.hid e4
        clear HSH e3 e4
        go_wp2_with fail
        go_loopw [41] (fun i wr => ∃ k : Nat, k ≤ Z.length ∧ i = .int .i64 (k : Int) ∧ Below wc.heap.size wc wr) (fun i _ => (Z.length - intOf i).toNat)
        case atStart => exact ⟨0, by omega, rfl, Below.refl _ _⟩
        case round =>
          obtain ⟨k, hk, rfl, hW⟩ := hrel
          by_cases hlt : k < Z.length
          · have hltI : (k : Int) < (Z.length : Int) := by omega
            obtain ⟨bz, oz, rfl, _, hcz⟩ := (HYt.out.below hW).cell hlt
            obtain ⟨v1, v2⟩ := HZP.out k hlt
            generalize Z.getD k 0 = v at *
            have v3 : decide (v < 0) = false := decide_eq_false (by omega)
            have v4 : ¬ v < 0 := by omega
            go_wp2_with fail
            go_wp2
            go_roundw
            case rel => exact ⟨k + 1, by omega, by go_num, by repeat (first | assumption | refine below_drewN ?_ _ | refine Below.drew ?_)⟩
            case measure => first | (simp [intOf]; done) | (simp [intOf]; omega)
          · have hltI : ¬ (k : Int) < (Z.length : Int) := by omega
            have HSQ := Lib.hid (f6sum_same a10 Z.length c10 Z wr (HYt.out.below hW) (by omega) HZP.out)
            rw [HZS.out] at HSQ
            have hB := below_call kt hW
            have FPt := Lib.hid (And.intro (FPt.out.1.below hW) (FPt.out.2.below hW))
            clear kt hW HYt
            go_wp2_with fail
            refine HSQ.out.mono ?_
            rintro e wq ⟨rfl, rfl⟩
            clear HSQ
            rcases HWS.out with ⟨m, he, h1'⟩ | he
            · obtain ⟨rfl, rfl⟩ : q1 = m ∧ q2 = 0 := by simpa using he
              have dw : decide (q1 < x1) = false := decide_eq_false (by omega)
              clear he HWS
              -- HBR told; hB : Below w w24-like world; FP at it
              rcases HBR.out with ⟨n, he, m1', m2', m3', m4', m5', m6', m7', m8', m9', m10', m11', m12', m13', m14', m15', m16', m17', m18', m19'⟩ | he
              · obtain ⟨rfl, rfl⟩ : b1 = n ∧ b2 = 0 := by simpa using he
                obtain ⟨f0, f1, f2, f3⟩ := FPt.out.1.cells
                obtain ⟨p0, p1, p2⟩ := FPt.out.2.cells
                obtain ⟨A, hA⟩ : ∃ A, (l + j) * (h + j) = A := ⟨_, rfl⟩
                rw [hA] at m1' m2' m5' m6' m17' m18' m19'
                have i0 : IntKind.i64.wrap ((l + j) * (h + j)) = A := by rw [hA]; exact IntWalk.i64_in _ (by omega)
                have d1 : decide (x * y * z ≤ b1 * A) = true := decide_eq_true m1'
                have d2 : decide ((b1 - 1) * A < x * y * z) = true := decide_eq_true m2'
                have u9 : (b1 - 1) * A ≤ 12000000000 := by omega
                have hBt := Lib.hid hB
                clear he hA HBR hB
                go_wp2
                go_ret
                exact ⟨rfl, hBt.out⟩
              · obtain ⟨rfl, rfl⟩ : b1 = 0 ∧ b2 = 1 := by simpa using he
                clear he HBR
                go_wp2
                go_ret
                exact ⟨rfl, hB⟩
            · obtain ⟨rfl, rfl⟩ : q1 = 0 ∧ q2 = 2 := by simpa using he
              clear he HWS
              -- HBR told; hB : Below w w24-like world; FP at it
              rcases HBR.out with ⟨n, he, m1', m2', m3', m4', m5', m6', m7', m8', m9', m10', m11', m12', m13', m14', m15', m16', m17', m18', m19'⟩ | he
              · obtain ⟨rfl, rfl⟩ : b1 = n ∧ b2 = 0 := by simpa using he
                obtain ⟨f0, f1, f2, f3⟩ := FPt.out.1.cells
                obtain ⟨p0, p1, p2⟩ := FPt.out.2.cells
                obtain ⟨A, hA⟩ : ∃ A, (l + j) * (h + j) = A := ⟨_, rfl⟩
                rw [hA] at m1' m2' m5' m6' m17' m18' m19'
                have i0 : IntKind.i64.wrap ((l + j) * (h + j)) = A := by rw [hA]; exact IntWalk.i64_in _ (by omega)
                have d1 : decide (x * y * z ≤ b1 * A) = true := decide_eq_true m1'
                have d2 : decide ((b1 - 1) * A < x * y * z) = true := decide_eq_true m2'
                have u9 : (b1 - 1) * A ≤ 12000000000 := by omega
                have hBt := Lib.hid hB
                clear he hA HBR hB
                go_wp2
                go_ret
                exact ⟨rfl, hBt.out⟩
              · obtain ⟨rfl, rfl⟩ : b1 = 0 ∧ b2 = 1 := by simpa using he
                clear he HBR
                go_wp2
                go_ret
                exact ⟨rfl, hB⟩
      · have hC : (C == 0) = false := by
          rcases e1 with rfl | rfl | rfl <;> rfl
        clear HSH e1 e2
        have hB := kt
        rcases HWS.out with ⟨m, he, h1'⟩ | he
        · obtain ⟨rfl, rfl⟩ : q1 = m ∧ q2 = 0 := by simpa using he
          have dw : decide (q1 < x1) = false := decide_eq_false (by omega)
          clear he HWS
          -- HBR told; hB : Below w w24-like world; FP at it
          rcases HBR.out with ⟨n, he, m1', m2', m3', m4', m5', m6', m7', m8', m9', m10', m11', m12', m13', m14', m15', m16', m17', m18', m19'⟩ | he
          · obtain ⟨rfl, rfl⟩ : b1 = n ∧ b2 = 0 := by simpa using he
            obtain ⟨f0, f1, f2, f3⟩ := FPt.out.1.cells
            obtain ⟨p0, p1, p2⟩ := FPt.out.2.cells
            obtain ⟨A, hA⟩ : ∃ A, (l + j) * (h + j) = A := ⟨_, rfl⟩
            rw [hA] at m1' m2' m5' m6' m17' m18' m19'
            have i0 : IntKind.i64.wrap ((l + j) * (h + j)) = A := by rw [hA]; exact IntWalk.i64_in _ (by omega)
            have d1 : decide (x * y * z ≤ b1 * A) = true := decide_eq_true m1'
            have d2 : decide ((b1 - 1) * A < x * y * z) = true := decide_eq_true m2'
            have u9 : (b1 - 1) * A ≤ 12000000000 := by omega
            have hBt := Lib.hid hB
            clear he hA HBR hB
            go_wp2
            go_ret
            exact ⟨rfl, hBt.out⟩
          · obtain ⟨rfl, rfl⟩ : b1 = 0 ∧ b2 = 1 := by simpa using he
            clear he HBR
            go_wp2
            go_ret
            exact ⟨rfl, hB⟩
        · obtain ⟨rfl, rfl⟩ : q1 = 0 ∧ q2 = 2 := by simpa using he
          clear he HWS
          -- HBR told; hB : Below w w24-like world; FP at it
          rcases HBR.out with ⟨n, he, m1', m2', m3', m4', m5', m6', m7', m8', m9', m10', m11', m12', m13', m14', m15', m16', m17', m18', m19'⟩ | he
          · obtain ⟨rfl, rfl⟩ : b1 = n ∧ b2 = 0 := by simpa using he
            obtain ⟨f0, f1, f2, f3⟩ := FPt.out.1.cells
            obtain ⟨p0, p1, p2⟩ := FPt.out.2.cells
            obtain ⟨A, hA⟩ : ∃ A, (l + j) * (h + j) = A := ⟨_, rfl⟩
            rw [hA] at m1' m2' m5' m6' m17' m18' m19'
            have i0 : IntKind.i64.wrap ((l + j) * (h + j)) = A := by rw [hA]; exact IntWalk.i64_in _ (by omega)
            have d1 : decide (x * y * z ≤ b1 * A) = true := decide_eq_true m1'
            have d2 : decide ((b1 - 1) * A < x * y * z) = true := decide_eq_true m2'
            have u9 : (b1 - 1) * A ≤ 12000000000 := by omega
            have hBt := Lib.hid hB
            clear he hA HBR hB
            go_wp2
            go_ret
            exact ⟨rfl, hBt.out⟩
          · obtain ⟨rfl, rfl⟩ : b1 = 0 ∧ b2 = 1 := by simpa using he
            clear he HBR
            go_wp2
            go_ret
            exact ⟨rfl, hB⟩
theorem tab_of_laid_FnPieceCounts {W : World} (h : laidMetH Tryd.prog Rows.fnPieceCountsRow.laid W) : Lib.TabIs Tryd.prog W "internal/strconv.uint64pow10" .u64 Lib.pow10Tab := by
  rw [MakeChecks.laidMetH_plain _ _ _ (by kernel_rfl)] at h
  exact Lib.tabIs_of_head (rest := []) (show Tryd.prog.globalNamed "internal/strconv.uint64pow10" = some 0 by kernel_rfl) (t := 98) (e := 84) (n := 20) (by kernel_rfl) Tryd.underlying98 Tryd.underlying84 (by kernel_rfl) (by kernel_rfl) (laidMet.tail (laidMet.tail h))
/-! ### The row's step: the arguments are opened, the walk is called, the arguments read as before. -/
set_option maxRecDepth 100000 in
set_option maxHeartbeats 1000000 in
set_option linter.unusedVariables false in
theorem lifted_FnPieceCounts (os : Os) (started : os.Started) (H : Type) (enc : TypeId × Value → H) :
    ReturnsInHanded {} Tryd.checked os 4 .any (fun w args => (Rows.fnPieceCountsSpec.pre enc Tryd.prog Tryd.f4 Rows.fnPieceCountsRow.domain false w args ∧ laidMetH Tryd.prog Rows.fnPieceCountsRow.laid w) ∧ sizedMet enc Tryd.prog Tryd.f4 (OpenSpec.ofChange Rows.fnPieceCountsSpec) false w args) (Rows.fnPieceCountsSpec.post enc Tryd.prog Tryd.f4 false true false false) := by
  refine returnsInHanded_of_change_and (C := Tryd.checked) (X := fun w _ => laidMetH Tryd.prog Rows.fnPieceCountsRow.laid w) (fun _ _ _ hh h => h.of_heap hh) ownNone started (by kernel_rfl) Tryd.func4
    (ChangeSpec.witness_shaped (enc := enc) (C := Tryd.checked) (os := os) (X := fun w _ => laidMetH Tryd.prog Rows.fnPieceCountsRow.laid w) false (World.laidAll Tryd.prog os Rows.fnPieceCountsRow.laid) #[.slice none 0 0] 8 (World.laidAll_os _ _ _)
      (World.shaped_of_ZipB (by kernel_rfl) (by kernel_rfl)) (by kernel_rfl) (by kernel_rfl) (by kernel_rfl)
      (by rw [MakeChecks.laidMetH_plain _ _ _ (by kernel_rfl)]; exact laidMet_laidAll _ (by kernel_rfl) (by kernel_rfl))) ?_
  intro W base args ds gs before hval0 hW hcnd _ hL _
  have hTab := tab_of_laid_FnPieceCounts hL
  have hval : ∀ (j : Nat) t v, Tryd.f4.params[j]? = some t → args[j]? = some v → Value.okWide Tryd.prog W .any base t v := hval0
  have hW' := hW
  obtain ⟨p, q, hA0, hV, rfl, hfz, hnd⟩ := hW
  have hA : DataW.TrodAll enc Tryd.prog W 0 (fun _ => true) true Tryd.f4.params.toList args.toList ds p := hA0
  rw [Tryd.params4] at hA hval
  obtain ⟨v0, vs0, d0, ds0, p0, q0, hargs, rfl, rfl, h0, r0⟩ := trodAll_cons hA
  obtain ⟨rfl, rfl, rfl⟩ := trodAll_nil r0
  obtain rfl : args = #[v0] := by cases args; simp_all
  obtain ⟨rfl, rfl⟩ := trodVars_none hV
  have k0 := h0
  have lt0 : ∀ x ∈ p0, x.block < W.heap.size := by obtain ⟨m, hm⟩ := k0; exact DataW.trod_lt m _ _ _ hm
  obtain ⟨a0, len0, cap0, rfl⟩ := okWide_slice Tryd.underlying28 (hval 0 28 v0 rfl rfl)
  obtain ⟨z0, w0⟩ : ∃ zs, IsRow .u8 W a0 len0 cap0 zs := by
    obtain ⟨fuel, hf⟩ := h0
    rcases open_ints Tryd.underlying28 Tryd.underlying5 (by kernel_rfl) hf with ⟨hcs, _⟩ | ⟨x, l, c, zs, hcs, _, hl, hm, hz, _, hcell, hwz⟩
    · simp [Value.cells] at hcs
      obtain ⟨rfl, rfl, rfl⟩ := hcs
      exact ⟨[], isRow_nil⟩
    · simp [Value.cells] at hcs
      obtain ⟨rfl, rfl, rfl⟩ := hcs
      exact ⟨zs.take len0, isRow_mk hl hm (by simpa using hz) hcell hwz⟩
  clear hA0 hval0
  refine (counts_walk a0 len0 cap0 z0 W hTab w0).mono fun e W' ⟨he, bel⟩ => ?_
  subst he
  exact ⟨_, rfl, _, _, _, [], _, [], hW', trodAll_mk1 (shut_bool Tryd.underlying4 _), (trodAll_cons_mk (Below.trod laidOut (by kernel_rfl) (of_decide_eq_true (by kernel_rfl)) k0 bel lt0) trodAll_mk0), rfl, bel.frame _, fun h => by cases h⟩

/-- The statement, proved. -/
theorem fnPieceCounts_holds : Rows.FnPieceCountsSaid :=
  OpenClaim.holds_of_wide 4 Tryd.f4 rfl rfl rfl rfl rfl rfl rfl ⟨rfl, rfl, rfl, rfl, rfl⟩ rfl rfl rfl rfl rfl (by kernel_rfl) Tryd.func4 (by kernel_rfl)
    (of_decide_eq_true (by kernel_rfl)) (by unfold Func.isWrapper; first | (rw [if_pos (by decide +kernel)]; kernel_rfl) | (rw [if_neg (by decide +kernel)]; exact ⟨rfl, rfl⟩))
    (fun os started H enc _ => lifted_FnPieceCounts os started H enc)
/-- The tied card, proved. -/
theorem fnPieceCounts_card_holds : Rows.FnPieceCountsCardSaid :=
  Claim7.holds_tied_plain_at .later [] [.data, .data, .data] true (true, "c9ddf004dab8e82d1d880456e90d4d7a08b5798c9e20bdc78f5f65987a0e161b") false fnPieceCounts_holds (fun _ h => by cases h) (by kernel_rfl) (fun _ h => by cases h) fnPieceCounts_row_tie rfl ⟨rfl, rfl⟩ (by kernel_rfl) rfl
    (fun f fn hf hfn => by
      obtain rfl : f = 4 := Option.some.inj ((show Tryd.prog.funcNamed "loop.example/g01042/laws.FnPieceCounts" = some 4 by kernel_rfl).symm.trans hf) |>.symm
      obtain rfl : fn = Tryd.f4 := (Option.some.inj (Tryd.func4.symm.trans hfn)).symm
      exact ⟨by kernel_rfl, fun j t ht => by
        rw [Tryd.params4] at ht
        have hm : t ∈ [28] := by simpa using Array.mem_of_getElem? ht
        have hall : ([28].all fun u => !Tryd.prog.wantsStandIn u) = true := by kernel_rfl
        exact (show Tryd.prog.wantsStandIn t = false by simpa using List.all_eq_true.1 hall t hm)⟩)
    (by kernel_rfl)
end Go.Proofs.YtgnalhnbdpigdaaDoor
