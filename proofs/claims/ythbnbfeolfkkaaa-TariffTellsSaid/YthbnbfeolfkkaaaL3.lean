/- The walk of awake: the examples of the chapter. -/
import Derived.Test.YthbnbfeolfkkaaaL2
import Derived.Test.YthbnbfeolfkkaaaW10
import Derived.Test.YthbnbfeolfkkaaaW20
import Derived.Deep.RegionHeld3
import Derived.Deep.DrawnRows
namespace Go.Proofs.Ythbnbfeolfkkaaa
open Go.RowKit Go.Maps
attribute [local go_sem ↓] Go.wp_at_zero Go.wp_at_succ

theorem ex1 : zoneRes exRates exZones ⟨#[49, 48, 48, 50, 51]⟩ ⟨#[49, 57, 57, 57, 57]⟩ = (1, 0) := by decide +kernel
theorem ex2 : zoneRes exRates exZones ⟨#[49, 48, 48, 50, 51]⟩ ⟨#[50, 48, 48, 48, 49]⟩ = (2, 0) := by decide +kernel
theorem ex3 : priceRes exRates exZones 1 2 21 = (200, 0) := by decide +kernel
theorem ex4 : priceRes exRates exZones 1 2 51 = (0, 3) := by decide +kernel
theorem ex5 : priceRes exRates exZones 2 2 51 = (0, 6) := by decide +kernel
theorem ex6 : fits exRates exZones exLevels = true := by decide +kernel
theorem ex7 : basesRes exRates exZones (onePiece ⟨#[50, 48, 48, 48, 49]⟩ 20 true) = ([150], 0) := by decide +kernel
theorem ex8 : postRes exRates exZones exLevels (onePiece ⟨#[50, 48, 48, 48, 49]⟩ 20 true) [1] = ([135], 0) := by decide +kernel
theorem ex9 : mailing (onePiece ⟨#[50, 48, 48, 48, 49]⟩ 20 true) = true := by decide +kernel
theorem ex10 : right exRates exZones = true := by decide +kernel
theorem exLens : ∀ l ∈ exLevels, l.labels.length ≤ 1000000000 := by decide

set_option maxRecDepth 100000 in
set_option maxHeartbeats 8000000 in
theorem awake_any (w : World) : Calls Try.prog 10 #[] w fun e w' => e = .returned (.bool true) ∧ Below w.heap.size w w' := by
  go_enter Try.func10, Try.ntmps10
  go_wp2_with fail
  refine (example_any _).mono ?_
  rintro e w1 ⟨rv, zv, rfl, hR, hZ, hb1⟩
  have hR1 := Lib.hid hR
  have hZ1 := Lib.hid hZ
  obtain ⟨A, c, rfl, _, _, hA⟩ := hR
  obtain ⟨A2, c2, rfl, _, _, hA2⟩ := hZ
  clear hA hA2
  have hbW := hb1.alloc hb1.size (.cells #[.slice A exRates.length c, .slice A2 exZones.length c2] 25)
  have hT1 := Lib.hid (Blk.new w1 25 #[.slice A exRates.length c, .slice A2 exZones.length c2])
  have hS1 : Below w1.heap.size w1 (w1.alloc (.cells #[.slice A exRates.length c, .slice A2 exZones.length c2] 25)) := (Below.refl _ _).alloc (Nat.le_refl _) _
  go_wp2_with fail
  refine (zone_any _ _ exRates exZones _ _ _ (hR1.out.stays (Stays.of hS1)) (hZ1.out.stays (Stays.of hS1)) (small_text (by decide)) (small_text (by decide))).mono ?_
  rintro e w2 ⟨rfl, hb2⟩
  rw [ex1]
  have hS2 : Below w1.heap.size w1 w2 := hS1.trans (hb2.mono (by simp))
  have hbW2 : Below w.heap.size w w2 := hbW.trans (hb2.mono (by have := hb1.size; simp; omega))
  have hT2 := Lib.hid (hT1.out.below hb2 (by simp))
  have hsz2 : w1.heap.size < w2.heap.size := hT2.out.lt
  have x0_2 := hT2.out.cell 0
  have x1_2 := hT2.out.cell 1
  simp at x0_2 x1_2
  clear hb2
  go_wp2_with fail
  refine (zone_any _ _ exRates exZones _ _ _ (hR1.out.stays (Stays.of hS2)) (hZ1.out.stays (Stays.of hS2)) (small_text (by decide)) (small_text (by decide))).mono ?_
  rintro e w3 ⟨rfl, hb3⟩
  rw [ex2]
  have hS3 : Below w1.heap.size w1 w3 := hS2.trans (hb3.mono (by omega))
  have hbW3 : Below w.heap.size w w3 := hbW2.trans (hb3.mono (by have := hb1.size; omega))
  have hT3 := Lib.hid (hT2.out.below hb3 (by omega))
  have hsz3 : w1.heap.size < w3.heap.size := hT3.out.lt
  have x0_3 := hT3.out.cell 0
  have x1_3 := hT3.out.cell 1
  simp at x0_3 x1_3
  clear hb3 x0_2 x1_2
  go_wp2_with fail
  refine (price_any _ _ exRates exZones _ _ _ _ (hR1.out.stays (Stays.of hS3)) (hZ1.out.stays (Stays.of hS3))).mono ?_
  rintro e w4 ⟨rfl, hb4⟩
  rw [ex3]
  have hS4 : Below w1.heap.size w1 w4 := hS3.trans (hb4.mono (by omega))
  have hbW4 : Below w.heap.size w w4 := hbW3.trans (hb4.mono (by have := hb1.size; omega))
  have hT4 := Lib.hid (hT3.out.below hb4 (by omega))
  have hsz4 : w1.heap.size < w4.heap.size := hT4.out.lt
  have x0_4 := hT4.out.cell 0
  have x1_4 := hT4.out.cell 1
  simp at x0_4 x1_4
  clear hb4 x0_3 x1_3
  go_wp2_with fail
  refine (price_any _ _ exRates exZones _ _ _ _ (hR1.out.stays (Stays.of hS4)) (hZ1.out.stays (Stays.of hS4))).mono ?_
  rintro e w5 ⟨rfl, hb5⟩
  rw [ex4]
  have hS5 : Below w1.heap.size w1 w5 := hS4.trans (hb5.mono (by omega))
  have hbW5 : Below w.heap.size w w5 := hbW4.trans (hb5.mono (by have := hb1.size; omega))
  have hT5 := Lib.hid (hT4.out.below hb5 (by omega))
  have hsz5 : w1.heap.size < w5.heap.size := hT5.out.lt
  have x0_5 := hT5.out.cell 0
  have x1_5 := hT5.out.cell 1
  simp at x0_5 x1_5
  clear hb5 x0_4 x1_4
  go_wp2_with fail
  refine (price_any _ _ exRates exZones _ _ _ _ (hR1.out.stays (Stays.of hS5)) (hZ1.out.stays (Stays.of hS5))).mono ?_
  rintro e w6 ⟨rfl, hb6⟩
  rw [ex5]
  have hS6 : Below w1.heap.size w1 w6 := hS5.trans (hb6.mono (by omega))
  have hbW6 : Below w.heap.size w w6 := hbW5.trans (hb6.mono (by have := hb1.size; omega))
  have hT6 := Lib.hid (hT5.out.below hb6 (by omega))
  have hsz6 : w1.heap.size < w6.heap.size := hT6.out.lt
  have x0_6 := hT6.out.cell 0
  have x1_6 := hT6.out.cell 1
  simp at x0_6 x1_6
  clear hb6 x0_5 x1_5
  go_wp2
  have hdr6 : Below w1.heap.size w1 w6.drew := hS6.drew
  go_region_held3 (fun w' => w'.cell? ⟨w1.heap.size, 0, none⟩ = some (.slice A exRates.length c) ∧ w'.cell? ⟨w1.heap.size, 1, none⟩ = some (.slice A2 exZones.length c2))
    (first | go_keep | (refine ⟨?_, ?_⟩ <;> first | (rw [hb8.cell (by simp <;> omega)]; go_keep) | (rw [hb7.cell (by simp <;> omega)]; go_keep)))
    (first | (go_at_call 31; refine (example23_any _).mono ?_; rintro e w7 ⟨lv, rfl, hL, hb7⟩; have hs7 := hb7.size; simp at hs7; have hL7 := Lib.hid hL; obtain ⟨A3, c3, rfl, _, _, hA3⟩ := hL; clear hA3; have hS7 : Below w1.heap.size w1 w7 := hdr6.trans (hb7.mono (by simp; omega))) | (go_at_call 20; refine (fits_tariff_any _ _ _ exRates exZones exLevels _ (hR1.out.stays (Stays.of hS7)) (hZ1.out.stays (Stays.of hS7)) hL7.out exLens).mono ?_; rintro e w8 ⟨rfl, hb8⟩; rw [ex6]; have hs8 := hb8.size))
  rename_i hHeld
  have hS8 : Below w1.heap.size w1 w8 := hS7.trans (hb8.mono (by omega))
  have hbW8 : Below w.heap.size w w8 := (hbW6.drew.trans (hb7.mono (by have := hb1.size; simp; omega))).trans (hb8.mono (by have := hb1.size; omega))
  have hT8 := Lib.hid (((show Blk w6.drew w1.heap.size 25 _ from hT6.out).below hb7 (by simp; omega)).below hb8 (by omega))
  clear hHeld hb7 hb8 x0_6 x1_6
  go_wp2_with fail
  refine (piece_any _ _ _ _ (small_text (by decide))).mono ?_
  rintro e w9 ⟨pv, rfl, hP, hb9⟩
  have hP9 := Lib.hid hP
  simp only [onePiece] at hP
  obtain ⟨A4, c4, rfl, _, _, hA4⟩ := hP
  clear hA4
  have hS9 : Below w1.heap.size w1 w9 := hS8.trans (hb9.mono (by omega))
  have hbW9 : Below w.heap.size w w9 := hbW8.trans (hb9.mono (by have := hb1.size; omega))
  have hT9 := Lib.hid (hT8.out.below hb9 (by omega))
  have hsz9 : w1.heap.size < w9.heap.size := hT9.out.lt
  simp only [onePiece]
  clear hb9
  generalize hps : ([⟨1, 0, ⟨#[50, 48, 48, 48, 49]⟩, 20, true⟩] : List Piece) = ps at *
  have hP9' := Lib.hid (show IsPieces w9 (.slice A4 ps.length c4) ps from by rw [← hps]; have := hP9.out; simp only [onePiece] at this; rw [← hps] at this; exact this)
  have hps' := Lib.hid hps
  have e7 := Lib.hid ex7
  have e8 := Lib.hid ex8
  have e9 := Lib.hid ex9
  clear hps
  have hWM : Below w9.heap.size w9 (w9.alloc (.cells #[.int .u8 1, .int .u8 1, .string ⟨#[49, 48, 48, 50, 51]⟩, .slice A4 ps.length c4] 36)) := (Below.refl _ _).alloc (Nat.le_refl _) _
  have hSM := hS9.trans (hWM.mono (by omega))
  have hbWM := hbW9.trans (hWM.mono hbW9.size)
  have hTM := Lib.hid (hT9.out.alloc (.cells #[.int .u8 1, .int .u8 1, .string ⟨#[49, 48, 48, 50, 51]⟩, .slice A4 ps.length c4] 36))
  have hMM := Lib.hid (Blk.new w9 36 #[.int .u8 1, .int .u8 1, .string ⟨#[49, 48, 48, 50, 51]⟩, .slice A4 ps.length c4])
  have x0_9 := hT9.out.cell 0
  have x1_9 := hT9.out.cell 1
  simp at x0_9 x1_9
  go_wp2_with fail
  refine (bases_any _ _ _ exRates exZones 1 1 ⟨#[49, 48, 48, 50, 51]⟩ ps _ (hR1.out.stays (Stays.of hSM)) (hZ1.out.stays (Stays.of hSM)) (small_text (by decide)) (hP9'.out.stays (Stays.of hWM))).mono ?_
  rintro e w10 ⟨bv, rfl, hB, hb10⟩
  have e7' := Lib.hid (show basesRes exRates exZones ⟨1, 1, ⟨#[49, 48, 48, 50, 51]⟩, ps⟩ = ([150], 0) from by rw [← hps'.out]; exact e7.out)
  have e8' := Lib.hid (show postRes exRates exZones exLevels ⟨1, 1, ⟨#[49, 48, 48, 50, 51]⟩, ps⟩ [1] = ([135], 0) from by rw [← hps'.out]; exact e8.out)
  have e9' := Lib.hid (show mailing ⟨1, 1, ⟨#[49, 48, 48, 50, 51]⟩, ps⟩ = true from by rw [← hps'.out]; exact e9.out)
  rw [e7'.out] at hB ⊢
  have hB10 := Lib.hid (IsInts.of_own (xs := [150]) hB)
  have hB' := Lib.hid hB
  obtain ⟨A5, c5, rfl, _, _, hA5⟩ := IsInts.of_own (xs := [150]) hB
  have hS10 : Below w1.heap.size w1 w10 := hSM.trans (hb10.mono (by simp; omega))
  have hN10 : Below w9.heap.size w9 w10 := hWM.trans (hb10.mono (by simp))
  have hbW10 : Below w.heap.size w w10 := hbWM.trans (hb10.mono (by have := hb1.size; simp; omega))
  have hT10 := Lib.hid (hTM.out.below hb10 (by simp; omega))
  have hM10 := Lib.hid (hMM.out.below hb10 (by simp))
  have hsz10 : w9.heap.size < w10.heap.size := hM10.out.lt
  have z0 := hT10.out.cell 0
  have z1 := hT10.out.cell 1
  have m0 := hM10.out.cell 0
  have m1 := hM10.out.cell 1
  have m2 := hM10.out.cell 2
  have m3 := hM10.out.cell 3
  simp at z0 z1 m0 m1 m2 m3
  clear hA5 hB hb10 x0_9 x1_9
  go_wp2
  have hplan : ∀ W : World, IsInts (W.alloc (.cells #[.int .i64 1] 3)) (.slice (some ⟨W.heap.size, 0, none⟩) 1 1) [1] := fun W => Sl.mk_ (by simp) (Nat.le_refl _) (small_max (by omega)) (lt_one (by simp))
  have hpl' := Lib.hid hplan
  have hR10 : Below w10.heap.size w10 w10 := Below.refl _ _
  clear hplan
  go_region_held3 (fun w' => w'.cell? ⟨w1.heap.size, 0, none⟩ = some (.slice A exRates.length c) ∧ w'.cell? ⟨w1.heap.size, 1, none⟩ = some (.slice A2 exZones.length c2) ∧ w'.cell? ⟨w9.heap.size, 0, none⟩ = some (.int .u8 1) ∧ w'.cell? ⟨w9.heap.size, 1, none⟩ = some (.int .u8 1) ∧ w'.cell? ⟨w9.heap.size, 2, none⟩ = some (.string ⟨#[49, 48, 48, 50, 51]⟩) ∧ w'.cell? ⟨w9.heap.size, 3, none⟩ = some (.slice A4 ps.length c4))
    (first | go_keep | (refine ⟨?_, ?_, ?_, ?_, ?_, ?_⟩ <;> first | (rw [hb12.cell (by simp <;> omega)]; go_keep) | (rw [hb11.cell (by simp <;> omega)]; go_keep) | go_keep))
    (first | (go_at_call 31; refine (example23_any _).mono ?_; rintro e w11 ⟨lv, rfl, hL, hb11⟩; have hs11 := hb11.size; simp at hs11; have hL11 := Lib.hid hL; obtain ⟨A3, c3, rfl, _, _, hA3⟩ := hL; clear hA3; have hN11 : Below w9.heap.size w9 w11 := (by first | exact hN10.drew.trans (hb11.mono (by simp; omega)) | exact (hN10.alloc (by omega) _).drew.trans (hb11.mono (by simp; omega))); have hK11 : Below w10.heap.size w10 w11 := (by first | exact hR10.drew.trans (hb11.mono (by simp)) | exact (hR10.alloc (Nat.le_refl _) _).drew.trans (hb11.mono (by simp)))) | (go_at_call 17; refine (postage_any _ _ _ _ _ exRates exZones exLevels 1 1 ⟨#[49, 48, 48, 50, 51]⟩ ps [1] _ (by first | exact hR1.out.stays (Stays.of (hS9.trans (hN11.mono (by omega)))) | exact hR1.out.stays (Stays.of ((hS9.trans (hN11.mono (by omega))).alloc (by omega) _))) (by first | exact hZ1.out.stays (Stays.of (hS9.trans (hN11.mono (by omega)))) | exact hZ1.out.stays (Stays.of ((hS9.trans (hN11.mono (by omega))).alloc (by omega) _))) (by first | exact hL11.out | exact hL11.out.stays (Stays.of ((Below.refl _ _).alloc (Nat.le_refl _) _))) exLens (small_text (by decide)) (by first | exact hP9'.out.stays (Stays.of hN11) | exact hP9'.out.stays (Stays.of (hN11.alloc (by omega) _))) (by first | exact hpl'.out _ | exact IsInts.stays (w := (w10.alloc (.cells #[.int .i64 1] 3)).drew) (hpl'.out w10) (Stays.of hb11))).mono ?_; rintro e w12 ⟨qv, rfl, hQ, hb12⟩; rw [e8'.out] at hQ ⊢; have hs12 := hb12.size; (try simp at hs12)))
  all_goals
    rename_i hHeld
    have hK : Below w10.heap.size w10 w12 := by first | exact hK11.trans (hb12.mono (by omega)) | exact (hK11.alloc hK11.size _).trans (hb12.mono (by simp; omega))
    have hQ12 := Lib.hid (IsInts.of_own (xs := [135]) hQ)
    obtain ⟨A6, c6, rfl, _, _, hA6⟩ := IsInts.of_own (xs := [135]) hQ
    have hB12 := Lib.hid (hB10.out.stays (Stays.of hK))
    have hS12 : Below w1.heap.size w1 w12 := hS10.trans (hK.mono (by omega))
    have hN12 : Below w9.heap.size w9 w12 := hN10.trans (hK.mono (by omega))
    have hbW12 : Below w.heap.size w w12 := hbW10.trans (hK.mono (by have := hb1.size; omega))
    have hT12 := Lib.hid (hT10.out.below hK (by omega))
    have hM12 := Lib.hid (hM10.out.below hK hsz10)
    have hsz12 : w9.heap.size < w12.heap.size := hM12.out.lt
    clear hHeld hQ hA6 hb11 hb12 hs11 hs12 z0 z1 m0 m1 m2 m3
    have e00 : IntKind.i64.wrap (0 + 0) = 0 := by decide
    have hone : ∀ (W : World) (n : Int), IsInts (W.alloc (.cells #[.int .i64 n] 3)) (.slice (some ⟨W.heap.size, 0, none⟩) 1 1) [n] := fun W n => Sl.mk_ (by simp) (Nat.le_refl _) (small_max (by omega)) (lt_one (by simp))
    have hone' := Lib.hid hone
    clear hone
    have hal : ∀ (W : World) (o : Obj), Stays W (W.alloc o) := fun W o => Stays.of ((Below.refl _ _).alloc (Nat.le_refl _) _)
    have hal' := Lib.hid hal
    clear hal
    go_wp2_with fail
    refine (sameInts_any _ _ [150] [150] _ (hB12.out.stays (hal'.out _ _)) (hone'.out _ _)).mono ?_
    rintro e w13 ⟨rfl, hb13⟩
    rw [show decide (([150] : List Int) = [150]) = true from rfl]
    have hK13 : Below w12.heap.size w12 w13 := ((Below.refl w12.heap.size w12).alloc (Nat.le_refl _) _).trans (hb13.mono (by simp))
    have hM13 := Lib.hid (hM12.out.below hK13 hsz12)
    have hT13 := Lib.hid (hT12.out.below hK13 (by omega))
    have hsz13 : w9.heap.size < w13.heap.size := hM13.out.lt
    clear hb13
    go_wp2_with fail
    refine (sameInts_any _ _ [135] [135] _ ((hQ12.out.stays (Stays.of hK13)).stays (hal'.out _ _)) (hone'.out _ _)).mono ?_
    rintro e w14 ⟨rfl, hb14⟩
    rw [show decide (([135] : List Int) = [135]) = true from rfl]
    have hK14 : Below w12.heap.size w12 w14 := (hK13.alloc hK13.size _).trans (hb14.mono (by have := hK13.size; simp; omega))
    have hM14 := Lib.hid (hM12.out.below hK14 hsz12)
    have hT14 := Lib.hid (hT12.out.below hK14 (by omega))
    have hsz14 : w9.heap.size < w14.heap.size := hM14.out.lt
    have m0 := hM14.out.cell 0
    have m1 := hM14.out.cell 1
    have m2 := hM14.out.cell 2
    have m3 := hM14.out.cell 3
    simp at m0 m1 m2 m3
    clear hb14
    go_wp2_with fail
    refine (mailing_any _ _ _ _ ps _ (small_text (by decide)) (hP9'.out.stays (Stays.of (hN12.trans (hK14.mono (by omega)))))).mono ?_
    rintro e w15 ⟨rfl, hb15⟩
    rw [e9'.out]
    have hK15 : Below w12.heap.size w12 w15 := hK14.trans (hb15.mono hK14.size)
    have hT15 := Lib.hid (hT12.out.below hK15 (by omega))
    have hsz15 : w1.heap.size < w15.heap.size := hT15.out.lt
    have z0 := hT15.out.cell 0
    have z1 := hT15.out.cell 1
    simp at z0 z1
    clear hb15 m0 m1 m2 m3
    have hS15 : Below w1.heap.size w1 w15 := hS12.trans (hK15.mono (by omega))
    go_wp2_with fail
    refine (right_any _ _ exRates exZones _ (hR1.out.stays (Stays.of hS15)) (hZ1.out.stays (Stays.of hS15))).mono ?_
    rintro e w16 ⟨rfl, hb16⟩
    rw [ex10]
    have hbW15 : Below w.heap.size w w15 := hbW12.trans (hK15.mono (by have := hb1.size; omega))
    go_wp2
    go_ret
    exact ⟨rfl, hbW15.trans (hb16.mono hbW15.size)⟩
end Go.Proofs.Ythbnbfeolfkkaaa
