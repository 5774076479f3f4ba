/- The walks of the reference's Zone and Price, and of tariffTells. -/
import Derived.Test.YthbnbfeolfkkaaaL27
import Derived.Test.YthbnbfeolfkkaaaL31
import Derived.Test.YthbnbfeolfkkaaaL32
import Derived.Test.YthbnbfeolfkkaaaW10
namespace Go.Proofs.Ythbnbfeolfkkaaa
open Go.RowKit

set_option maxHeartbeats 2000000 in
theorem refZoneF_any (rv zv : Value) (rs : List Rate) (zs : List Zone) (f t : ByteArray) (w : World) (h : IsRates w rv rs) (hz : IsZones w zv zs) (hf : f.size ≤ maxLen) (ht : t.size ≤ maxLen) :
    Calls Try.prog 35 #[.agg #[rv, zv], .string f, .string t] w fun e w' => e = .returned (.tuple #[.int .i64 (zoneRes rs zs f t).1, .int .i64 (zoneRes rs zs f t).2]) ∧ Below w.heap.size w w' := by
  have hh := Lib.hid h
  have hzz := Lib.hid hz
  obtain ⟨A, c, rfl, hn, hc, hA⟩ := h
  obtain ⟨A2, c2, rfl, hn2, hc2, hA2⟩ := hz
  clear hA hA2
  have hW := (Below.refl w.heap.size w).alloc (Nat.le_refl _) (.cells #[.slice A rs.length c, .slice A2 zs.length c2] 25)
  go_enter Try.func35, Try.ntmps35
  go_wp2_with fail
  refine (refRight_any _ _ rs zs _ (hh.out.stays (Stays.of hW)) (hzz.out.stays (Stays.of hW))).mono ?_
  rintro e w1 ⟨rfl, hb1⟩
  have hbw1 := hW.trans (hb1.mono (by simp))
  have x0 : w1.cell? ⟨w.heap.size, 0, none⟩ = some (.slice A rs.length c) := by rw [hb1.cell (by simp)]; simp
  have x1 : w1.cell? ⟨w.heap.size, 1, none⟩ = some (.slice A2 zs.length c2) := by rw [hb1.cell (by simp)]; simp
  clear hb1 hW
  by_cases h1 : right rs zs = true
  · have hpos := Lib.hid (right_zone h1)
    go_wp2_with fail
    refine (refCode_any _ _ hf).mono ?_
    rintro e w2 ⟨rfl, rfl⟩
    by_cases h2 : isCode f = true
    · go_wp2_with fail
      refine (refCode_any _ _ ht).mono ?_
      rintro e w3 ⟨rfl, rfl⟩
      by_cases h3 : isCode t = true
      · have hfin := Lib.hid (show zoneRes rs zs f t = (zoneOf zs f t, 0) from by rw [zoneRes, if_neg (by simp [h1, h2, h3])])
        go_wp2_with fail
        refine (refZone_any f t _ _ rs zs _ (hh.out.stays (Stays.of hbw1)) (hzz.out.stays (Stays.of hbw1)) hpos.out hf ht).mono ?_
        rintro e w4 ⟨rfl, hb4⟩
        go_wp2
        go_ret2
        exact ⟨ret_two (by rw [hfin.out]) (by rw [hfin.out]), hbw1.trans (hb4.mono hbw1.size)⟩
      · have h3' : isCode t = false := by simpa using h3
        have hfin := Lib.hid (show zoneRes rs zs f t = (0, 2) from by rw [zoneRes, if_pos (.inr (.inr h3'))])
        go_wp2
        go_ret2
        exact ⟨ret_two (by rw [hfin.out]) (by rw [hfin.out]), hbw1⟩
    · have h2' : isCode f = false := by simpa using h2
      have hfin := Lib.hid (show zoneRes rs zs f t = (0, 2) from by rw [zoneRes, if_pos (.inr (.inl h2'))])
      go_wp2
      go_ret2
      exact ⟨ret_two (by rw [hfin.out]) (by rw [hfin.out]), hbw1⟩
  · have h1' : right rs zs = false := by simpa using h1
    have hfin := Lib.hid (show zoneRes rs zs f t = (0, 2) from by rw [zoneRes, if_pos (.inl h1')])
    go_wp2
    go_ret2
    exact ⟨ret_two (by rw [hfin.out]) (by rw [hfin.out]), hbw1⟩

set_option maxHeartbeats 2000000 in
theorem refPriceF_any (rv zv : Value) (rs : List Rate) (zs : List Zone) (cls zone grams : Int) (w : World) (h : IsRates w rv rs) (hz : IsZones w zv zs) :
    Calls Try.prog 37 #[.agg #[rv, zv], .int .u8 cls, .int .i64 zone, .int .i64 grams] w fun e w' => e = .returned (.tuple #[.int .i64 (priceRes rs zs cls zone grams).1, .int .i64 (priceRes rs zs cls zone grams).2]) ∧ Below w.heap.size w w' := by
  have hh := Lib.hid h
  have hzz := Lib.hid hz
  obtain ⟨A, c, rfl, hn, hc, hA⟩ := h
  obtain ⟨A2, c2, rfl, hn2, hc2, hA2⟩ := hz
  clear hA hA2
  have hW := (Below.refl w.heap.size w).alloc (Nat.le_refl _) (.cells #[.slice A rs.length c, .slice A2 zs.length c2] 25)
  go_enter Try.func37, Try.ntmps37
  go_wp2_with fail
  refine (refRight_any _ _ rs zs _ (hh.out.stays (Stays.of hW)) (hzz.out.stays (Stays.of hW))).mono ?_
  rintro e w1 ⟨rfl, hb1⟩
  have hbw1 := hW.trans (hb1.mono (by simp))
  have x0 : w1.cell? ⟨w.heap.size, 0, none⟩ = some (.slice A rs.length c) := by rw [hb1.cell (by simp)]; simp
  have x1 : w1.cell? ⟨w.heap.size, 1, none⟩ = some (.slice A2 zs.length c2) := by rw [hb1.cell (by simp)]; simp
  have hsz1 : w.heap.size < w1.heap.size := by have := hb1.size; simp at this; omega
  clear hb1 hW
  by_cases h1 : right rs zs = true
  case neg =>
    have h1' : right rs zs = false := by simpa using h1
    have hfin := Lib.hid (show priceRes rs zs cls zone grams = (0, 2) from by rw [priceRes, if_pos (.inl h1')])
    go_wp2
    go_ret2
    exact ⟨ret_two (by rw [hfin.out]) (by rw [hfin.out]), hbw1⟩
  case pos =>
  go_wp2_with fail
  refine (refZones_any _ _ rs _ (hh.out.stays (Stays.of hbw1))).mono ?_
  rintro e w2 ⟨rfl, hb2⟩
  have hbw2 := hbw1.trans (hb2.mono hbw1.size)
  have y0 : w2.cell? ⟨w.heap.size, 0, none⟩ = some (.slice A rs.length c) := by rw [hb2.cell hsz1]; exact x0
  have y1 : w2.cell? ⟨w.heap.size, 1, none⟩ = some (.slice A2 zs.length c2) := by rw [hb2.cell hsz1]; exact x1
  clear hb2 x0 x1
  have hce := Lib.hid (fun r (hr : rateOf cls rs = some r) => right_cents h1 hr)
  have hcz := (right_parts h1).2.2.1
  by_cases h2 : 1 ≤ zone ∧ zone ≤ (countZones rs : Int)
  case neg =>
    have hfin := Lib.hid (show priceRes rs zs cls zone grams = (0, 2) from by rw [priceRes, if_pos (by unfold priceBad; omega)])
    have hq := Lib.hid h2
    clear h2 hcz hce
    generalize countZones rs = z at hq
    go_wp2_with fail
    refine (within_no_any hq.out _).mono ?_
    rintro e w3 ⟨rfl, rfl⟩
    go_wp2
    go_ret2
    exact ⟨ret_two (by rw [hfin.out]) (by rw [hfin.out]), hbw2⟩
  case pos =>
  have hq := Lib.hid h2
  have hzm := Lib.hid (show zone ≤ 1000000 from by omega)
  by_cases h4 : grams < 1
  case pos =>
    have hfin := Lib.hid (show priceRes rs zs cls zone grams = (0, 2) from by rw [priceRes, if_pos (by unfold priceBad; omega)])
    clear h2 hcz hce
    generalize countZones rs = z at hq
    go_wp2_with fail
    refine (within_yes_any hq.out.1 hq.out.2 _).mono ?_
    rintro e w3 ⟨rfl, rfl⟩
    go_wp2
    go_ret2
    exact ⟨ret_two (by rw [hfin.out]) (by rw [hfin.out]), hbw2⟩
  case neg =>
  have h4' : decide (grams < 1) = false := by simpa using h4
  have hfin := Lib.hid (show priceRes rs zs cls zone grams = priceBy rs cls zone grams from by rw [priceRes, if_neg (by unfold priceBad; simp [h1]; omega)])
  have hce2 := Lib.hid (show ∀ r, rateOf cls rs = some r → ∀ s ∈ r.steps, zone ≤ (s.cents.length : Int) from fun r hr s hs => by rw [hce.out r hr s hs]; exact h2.2)
  clear h2 hcz hce h4
  generalize countZones rs = z at hq
  go_wp2_with fail
  refine (within_yes_any hq.out.1 hq.out.2 _).mono ?_
  rintro e w3 ⟨rfl, rfl⟩
  go_wp2_with fail
  refine (refPrice_any _ _ rs zs cls zone grams _ (hh.out.stays (Stays.of hbw2)) (hzz.out.stays (Stays.of hbw2)) hq.out.1 hzm.out hce2.out).mono ?_
  rintro e w4 ⟨ra, RA, rn, rc, rb, rfl, hb4⟩
  rw [← hfin.out]
  have hbw4 := hbw2.trans (hb4.mono hbw2.size)
  clear y0 y1
  go_wp2
  go_ret2
  exact ⟨rfl, hbw4.alloc hbw4.size _⟩
end Go.Proofs.Ythbnbfeolfkkaaa
