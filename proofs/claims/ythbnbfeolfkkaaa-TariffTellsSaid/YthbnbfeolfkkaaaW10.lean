/- The walks of tariff.Zone and tariff.Price. -/
import Derived.Test.YthbnbfeolfkkaaaW5
import Derived.Test.YthbnbfeolfkkaaaW7
import Derived.Test.YthbnbfeolfkkaaaW8
namespace Go.Proofs.Ythbnbfeolfkkaaa
open Go.RowKit
set_option maxHeartbeats 2000000 in
theorem zone_any (rv zv : Value) (rs : List Rate) (zs : List Zone) (f t : ByteArray) (w : World) (h : IsRates w rv rs) (hz : IsZones w zv zs) (hf : f.size ≤ maxLen) (ht : t.size ≤ maxLen) :
    Calls Try.prog 21 #[.agg #[rv, zv], .string f, .string t] w fun e w' => e = .returned (.tuple #[.int .i64 (zoneRes rs zs f t).1, .int .i64 (zoneRes rs zs f t).2]) ∧ Below w.heap.size w w' := by
  have hh := Lib.hid h
  have hzz := Lib.hid hz
  obtain ⟨A, c, rfl, hn, hc, hA⟩ := h
  obtain ⟨A2, c2, rfl, hn2, hc2, hA2⟩ := hz
  clear hA hA2
  have hW := (Below.refl w.heap.size w).alloc (Nat.le_refl _) (.cells #[.slice A rs.length c, .slice A2 zs.length c2] 25)
  go_enter Try.func21, Try.ntmps21
  go_wp2_with fail
  refine (right_any _ _ rs zs _ (hh.out.stays (Stays.of hW)) (hzz.out.stays (Stays.of hW))).mono ?_
  rintro e w1 ⟨rfl, hb1⟩
  have hbw1 := hW.trans (hb1.mono (by simp))
  have x1 : w1.cell? ⟨w.heap.size, 1, none⟩ = some (.slice A2 zs.length c2) := by rw [hb1.cell (by simp)]; simp
  have hsz1 : w.heap.size < w1.heap.size := by have := hb1.size; simp at this; omega
  clear hb1 hW
  by_cases h1 : right rs zs = true
  · go_wp2_with fail
    refine (code_any _ _ hf).mono ?_
    rintro e w2 ⟨rfl, hb2⟩
    have hbw2 := hbw1.trans (hb2.mono hbw1.size)
    have y1 : w2.cell? ⟨w.heap.size, 1, none⟩ = some (.slice A2 zs.length c2) := by rw [hb2.cell hsz1]; exact x1
    have hsz2 : w.heap.size < w2.heap.size := Nat.lt_of_lt_of_le hsz1 hb2.size
    clear hb2 x1
    by_cases h2 : isCode f = true
    · go_wp2_with fail
      refine (code_any _ _ ht).mono ?_
      rintro e w3 ⟨rfl, hb3⟩
      have hbw3 := hbw2.trans (hb3.mono hbw2.size)
      have z1 : w3.cell? ⟨w.heap.size, 1, none⟩ = some (.slice A2 zs.length c2) := by rw [hb3.cell hsz2]; exact y1
      clear hb3 y1
      by_cases h3 : isCode t = true
      · have hfin := Lib.hid (show zoneRes rs zs f t = (zoneOf zs f t, 0) from by rw [zoneRes, if_neg (by simp [h1, h2, h3])])
        go_wp2_with fail
        refine (zoneOf_any f t _ zs _ (hzz.out.stays (Stays.of hbw3)) hf ht).mono ?_
        rintro e w4 ⟨rfl, hb4⟩
        go_wp2
        go_ret2
        exact ⟨ret_two (by rw [hfin.out]) (by rw [hfin.out]), hbw3.trans (hb4.mono hbw3.size)⟩
      · have h3' : isCode t = false := by simpa using h3
        have hfin := Lib.hid (show zoneRes rs zs f t = (0, 2) from by rw [zoneRes, if_pos (.inr (.inr h3'))])
        go_wp2
        go_ret2
        exact ⟨ret_two (by rw [hfin.out]) (by rw [hfin.out]), hbw3⟩
    · have h2' : isCode f = false := by simpa using h2
      have hfin := Lib.hid (show zoneRes rs zs f t = (0, 2) from by rw [zoneRes, if_pos (.inr (.inl h2'))])
      go_wp2
      go_ret2
      exact ⟨ret_two (by rw [hfin.out]) (by rw [hfin.out]), hbw2⟩
  · have h1' : right rs zs = false := by simpa using h1
    have hfin := Lib.hid (show zoneRes rs zs f t = (0, 2) from by rw [zoneRes, if_pos (.inl h1')])
    go_wp2
    go_ret2
    exact ⟨ret_two (by rw [hfin.out]) (by rw [hfin.out]), hbw1⟩

set_option maxHeartbeats 2000000 in
theorem price_any (rv zv : Value) (rs : List Rate) (zs : List Zone) (cls zone grams : Int) (w : World) (h : IsRates w rv rs) (hz : IsZones w zv zs) :
    Calls Try.prog 22 #[.agg #[rv, zv], .int .u8 cls, .int .i64 zone, .int .i64 grams] w fun e w' => e = .returned (.tuple #[.int .i64 (priceRes rs zs cls zone grams).1, .int .i64 (priceRes rs zs cls zone grams).2]) ∧ Below w.heap.size w w' := by
  have hh := Lib.hid h
  have hzz := Lib.hid hz
  obtain ⟨A, c, rfl, hn, hc, hA⟩ := h
  obtain ⟨A2, c2, rfl, hn2, hc2, hA2⟩ := hz
  clear hA hA2
  have hW := (Below.refl w.heap.size w).alloc (Nat.le_refl _) (.cells #[.slice A rs.length c, .slice A2 zs.length c2] 25)
  go_enter Try.func22, Try.ntmps22
  go_wp2_with fail
  refine (right_any _ _ rs zs _ (hh.out.stays (Stays.of hW)) (hzz.out.stays (Stays.of hW))).mono ?_
  rintro e w1 ⟨rfl, hb1⟩
  have hbw1 := hW.trans (hb1.mono (by simp))
  have x0 : w1.cell? ⟨w.heap.size, 0, none⟩ = some (.slice A rs.length c) := by rw [hb1.cell (by simp)]; simp
  have x1 : w1.cell? ⟨w.heap.size, 1, none⟩ = some (.slice A2 zs.length c2) := by rw [hb1.cell (by simp)]; simp
  have hsz1 : w.heap.size < w1.heap.size := by have := hb1.size; simp at this; omega
  clear hb1 hW
  by_cases h1 : right rs zs = true
  · by_cases h2 : zone < 1
    · have hfin := Lib.hid (show priceRes rs zs cls zone grams = (0, 2) from by rw [priceRes, if_pos (.inr (.inl h2))])
      go_wp2
      go_ret2
      exact ⟨ret_two (by rw [hfin.out]) (by rw [hfin.out]), hbw1⟩
    have h2' : decide (zone < 1) = false := by simpa using h2
    go_wp2_with fail
    refine (countZones_any _ _ rs _ (hh.out.stays (Stays.of hbw1))).mono ?_
    rintro e w2 ⟨rfl, hb2⟩
    have hbw2 := hbw1.trans (hb2.mono hbw1.size)
    have y0 : w2.cell? ⟨w.heap.size, 0, none⟩ = some (.slice A rs.length c) := by rw [hb2.cell hsz1]; exact x0
    have y1 : w2.cell? ⟨w.heap.size, 1, none⟩ = some (.slice A2 zs.length c2) := by rw [hb2.cell hsz1]; exact x1
    have hsz2 : w.heap.size < w2.heap.size := Nat.lt_of_lt_of_le hsz1 hb2.size
    clear hb2 x0 x1
    have hcz := (right_parts h1).2.2.1
    have hce := Lib.hid (fun r (hr : rateOf cls rs = some r) => right_cents h1 hr)
    by_cases h3 : (countZones rs : Int) < zone
    · have hfin := Lib.hid (show priceRes rs zs cls zone grams = (0, 2) from by rw [priceRes, if_pos (.inr (.inr (.inl h3)))])
      generalize countZones rs = z at h3 hcz
      clear hcz
      go_wp2
      go_ret2
      exact ⟨ret_two (by rw [hfin.out]) (by rw [hfin.out]), hbw2⟩
    have h3' : decide ((countZones rs : Int) < zone) = false := by simpa using h3
    by_cases h4 : grams < 1
    · have hfin := Lib.hid (show priceRes rs zs cls zone grams = (0, 2) from by rw [priceRes, if_pos (.inr (.inr (.inr h4)))])
      clear hcz
      go_wp2
      go_ret2
      exact ⟨ret_two (by rw [hfin.out]) (by rw [hfin.out]), hbw2⟩
    have h4' : decide (grams < 1) = false := by simpa using h4
    have hfin := Lib.hid (show priceRes rs zs cls zone grams = priceBy rs cls zone grams from by rw [priceRes, if_neg (by unfold priceBad; simp [h1]; omega)])
    have hzm : zone ≤ 1000000 := by omega
    have hz1 : 1 ≤ zone := by omega
    have h3'' := Lib.hid h3
    clear h2 h3 h4 hcz
    cases hr : rateOf cls rs with
    | none =>
      have hfin2 := Lib.hid (show priceRes rs zs cls zone grams = (0, 6) from by rw [hfin.out, priceBy, hr])
      have hr' := Lib.hid hr
      clear hr
      go_wp2_with fail
      refine (rateOf_no cls _ _ rs _ (hh.out.stays (Stays.of hbw2)) hr'.out).mono ?_
      rintro e w3 ⟨rfl, hb3⟩
      have hbw3 := hbw2.trans (hb3.mono hbw2.size)
      go_wp2
      go_ret2
      exact ⟨ret_two (by rw [hfin2.out]) (by rw [hfin2.out]), hbw3.alloc hbw3.size _⟩
    | some r =>
      have hfin2 := Lib.hid (show priceRes rs zs cls zone grams = priceOf r.steps zone grams from by rw [hfin.out, priceBy, hr])
      have hce' := Lib.hid (hce.out r hr)
      have hr' := Lib.hid hr
      clear hr
      go_wp2_with fail
      refine (rateOf_yes cls _ _ rs r _ (hh.out.stays (Stays.of hbw2)) hr'.out).mono ?_
      rintro e w3 ⟨⟨sv, rfl, hsv⟩, hb3⟩
      have hbw3 := hbw2.trans (hb3.mono hbw2.size)
      have hsv3 := Lib.hid (hsv.stays (Stays.of hb3))
      obtain ⟨A3, c3, rfl, _, _, hA3⟩ := hsv
      clear hA3 hb3
      go_wp2_with fail
      refine (priceOf_any _ _ zone grams _ r.steps _ (hsv3.out.stays (Stays.of ((Below.refl _ _).alloc (Nat.le_refl _) _))) hz1 (fun s hs => by rw [hce'.out s hs]; have := h3''.out; omega) hzm).mono ?_
      rintro e w4 ⟨rfl, hb4⟩
      go_wp2
      go_ret2
      exact ⟨ret_two (by rw [hfin2.out]) (by rw [hfin2.out]), (hbw3.alloc hbw3.size _).trans (hb4.mono (by have := hbw3.size; simp; omega))⟩
  · have h1' : right rs zs = false := by simpa using h1
    have hfin := Lib.hid (show priceRes rs zs cls zone grams = (0, 2) from by rw [priceRes, if_pos (.inl h1')])
    go_wp2
    go_ret2
    exact ⟨ret_two (by rw [hfin.out]) (by rw [hfin.out]), hbw1⟩
end Go.Proofs.Ythbnbfeolfkkaaa
