/- The walks of tariffTells and TariffTells. -/
import Derived.Test.YthbnbfeolfkkaaaL33
import Derived.Test.YthbnbfeolfkkaaaL3
namespace Go.Proofs.Ythbnbfeolfkkaaa
open Go.RowKit

/-- what tariffTells holds: the tariff that came in, the one that is lent, each in a block of its own -/
structure TT (W : World) (g6 g13 : Nat) (rv zv lr lz : Value) (rs : List Rate) (zs : List Zone) : Prop where
  k6 : Blk W g6 25 #[rv, zv]
  k13 : Blk W g13 25 #[lr, lz]
  hR : IsRates W rv rs
  hZ : IsZones W zv zs
  hLR : LtRates (fun _ => True) W lr rs
  hLZ : LtZones (fun _ => True) W lz zs
theorem TT.call {W W' : World} {g6 g13 : Nat} {rv zv lr lz : Value} {rs : List Rate} {zs : List Zone} (h : TT W g6 g13 rv zv lr lz rs zs) (hb : Below W.heap.size W W') : TT W' g6 g13 rv zv lr lz rs zs :=
  ⟨h.k6.below hb h.k6.lt, h.k13.below hb h.k13.lt, h.hR.stays (Stays.of hb), h.hZ.stays (Stays.of hb), h.hLR.stays hb, h.hLZ.stays hb⟩
theorem TT.has {W : World} {g6 g13 : Nat} {rv zv lr lz : Value} {rs : List Rate} {zs : List Zone} (h : TT W g6 g13 rv zv lr lz rs zs) :
    g6 < W.heap.size ∧ g13 < W.heap.size ∧ W.cell? ⟨g6, 0, none⟩ = some rv ∧ W.cell? ⟨g6, 1, none⟩ = some zv ∧ W.cell? ⟨g13, 0, none⟩ = some lr ∧ W.cell? ⟨g13, 1, none⟩ = some lz :=
  ⟨h.k6.lt, h.k13.lt, h.k6.cell 0, h.k6.cell 1, h.k13.cell 0, h.k13.cell 1⟩
set_option maxHeartbeats 4000000 in
theorem tariffTells_any (rv zv : Value) (rs : List Rate) (zs : List Zone) (f t : ByteArray) (cls zone grams : Int) (w : World) (h : InRates w rv rs) (hz : IsZones w zv zs) (hn : NilOk zv) (hf : f.size ≤ maxLen) (ht : t.size ≤ maxLen) :
    Calls Try.prog 11 #[.agg #[rv, zv], .string f, .string t, .int .u8 cls, .int .i64 zone, .int .i64 grams] w (SaysTrue w) := by
  have hin := Lib.hid h
  have hzz := Lib.hid hz
  have hnn := Lib.hid hn
  have hrates := Lib.hid h.rates
  obtain ⟨A, c, rfl, _, _, hA⟩ := h
  obtain ⟨B, d, rfl, _, _, hB⟩ := hz
  clear hA hB hn
  have hW : Below w.heap.size w (w.alloc (.cells #[.slice A rs.length c, .slice B zs.length d] 25)) := (Below.refl _ _).alloc (Nat.le_refl _) _
  have hk0 := Lib.hid (Blk.new w 25 #[.slice A rs.length c, .slice B zs.length d])
  go_enter Try.func11, Try.ntmps11
  go_wp2_with fail
  refine (few_any _ _ rs zs _ (hrates.out.stays (Stays.of hW)) (hzz.out.stays (Stays.of hW))).mono ?_
  rintro e w1 ⟨b, rfl, hfew, hb1⟩
  have hbw1 := hW.trans (hb1.mono hW.size)
  have hk1 := Lib.hid (hk0.out.below hb1 hk0.out.lt)
  have x0 := hk1.out.cell 0
  have x1 := hk1.out.cell 1
  simp at x0 x1
  have hl1 := hk1.out.lt
  clear hb1 hW hk0
  cases b with
  | false =>
    go_wp2
    go_ret
    exact ⟨rfl, hbw1⟩
  | true =>
    have hfw := Lib.hid (hfew rfl)
    clear hfew
    go_wp2_with fail
    refine (lentTariff_any _ _ rs zs _ (hin.out.stays (Stays.of hbw1)) (hzz.out.stays (Stays.of hbw1)) hnn.out (by have := hfw.out.1; omega) (fun r hr => by have := hfw.out.2.2 r hr; omega) (by have := hfw.out.2.1; omega)).mono ?_
    rintro e w2 ⟨lr, lz, rfl, hLR, hLZ, hb2⟩
    have hbw2 := hbw1.trans (hb2.mono hbw1.size)
    have hk2 := hk1.out.below hb2 hl1
    have hup : Below w2.heap.size w2 (w2.alloc (.cells #[lr, lz] 25)) := (Below.refl _ _).alloc (Nat.le_refl _) _
    have hT := Lib.hid (TT.mk (hk2.alloc (.cells #[lr, lz] 25)) (Blk.new w2 25 #[lr, lz]) (hrates.out.stays (Stays.of (hbw2.trans (hup.mono hbw2.size)))) (hzz.out.stays (Stays.of (hbw2.trans (hup.mono hbw2.size)))) (hLR.stays hup) (hLZ.stays hup))
    obtain ⟨b7, c7, hv7, hx7⟩ := hLR
    obtain ⟨b8, c8, hv8, hx8⟩ := hLZ
    subst hv7 hv8
    clear hx7 hx8 hk2 hk1 x0 x1 hrates hin
    have hbX := hbw2.alloc hbw2.size (.cells #[.slice (some ⟨b7, 0, none⟩) rs.length c7, .slice (some ⟨b8, 0, none⟩) zs.length c8] 25)
    go_upto_region 4 with fail
    clear hb2 hup
    generalize w2.alloc (.cells #[.slice (some ⟨b7, 0, none⟩) rs.length c7, .slice (some ⟨b8, 0, none⟩) zs.length c8] 25) = W at *
    generalize w2.heap.size = g13 at *
    obtain ⟨l6, l13, y0, y1, y2, y3⟩ := hT.out.has
    go_wp2_with fail
    refine (zone_any _ _ rs zs f t _ hT.out.hLR.rates hT.out.hLZ.zones hf ht).mono ?_
    rintro e w3 ⟨rfl, hb3⟩
    have hT3 := Lib.hid (hT.out.call hb3)
    have hbw3 := hbX.trans (hb3.mono hbX.size)
    clear hb3 y0 y1 y2 y3 hT
    obtain ⟨l6, l13, y0, y1, y2, y3⟩ := hT3.out.has
    go_wp2_with fail
    refine (refZoneF_any _ _ rs zs f t _ hT3.out.hR hT3.out.hZ hf ht).mono ?_
    rintro e w4 ⟨rfl, hb4⟩
    have hT4 := Lib.hid (hT3.out.call hb4)
    have hbw4 := hbw3.trans (hb4.mono hbw3.size)
    clear hb4 y0 y1 y2 y3 hT3
    obtain ⟨l6, l13, y0, y1, y2, y3⟩ := hT4.out.has
    generalize (zoneRes rs zs f t).1 = za
    generalize (zoneRes rs zs f t).2 = ze
    have n1 : (za != za) = false := by simp
    have n2 : (ze != ze) = false := by simp
    have n3 : (right rs zs != right rs zs) = false := by simp
    have hc1 := Lib.hid (fun u : Ups w4 => right_any _ _ rs zs u.wld (hT4.out.hLR.stays u.up).rates (hT4.out.hLZ.stays u.up).zones)
    have hc2 := Lib.hid (fun u : Ups w4 => refRight_any _ _ rs zs u.wld (hT4.out.hR.stays u.stays) (hT4.out.hZ.stays u.stays))
    have u0 := Ups.cellAt y0 l6
    have u1 := Ups.cellAt y1 l6
    have u2 := Ups.cellAt y2 l13
    have u3 := Ups.cellAt y3 l13
    generalize right rs zs = rr at *
    go_wp2
    refine wp_region_ups (by kernel_rfl) (by kernel_rfl) ?_
    repeat (go_big_quiet_step (first | (go_at_call 18; refine calls_ups (hc1.out _)) | (go_at_call 36; refine calls_ups (hc2.out _))))
    refine wpQuiet_nil ?_
    rintro _ ⟨u, rfl⟩
    have hT5 := Lib.hid (hT4.out.call u.up)
    have hbw5 := hbw4.trans (u.up.mono hbw4.size)
    clear hT4 hc1 hc2 u0 u1 u2 u3 y0 y1 y2 y3 n1 n2 n3
    generalize u.wld = w5 at *
    obtain ⟨l6, l13, y0, y1, y2, y3⟩ := hT5.out.has
    go_wp2_with fail
    refine (price_any _ _ rs zs cls zone grams _ hT5.out.hLR.rates hT5.out.hLZ.zones).mono ?_
    rintro e w6 ⟨rfl, hb6⟩
    have hT6 := Lib.hid (hT5.out.call hb6)
    have hbw6 := hbw5.trans (hb6.mono hbw5.size)
    clear hb6 y0 y1 y2 y3 hT5
    obtain ⟨l6, l13, y0, y1, y2, y3⟩ := hT6.out.has
    go_wp2_with fail
    refine (refPriceF_any _ _ rs zs cls zone grams _ hT6.out.hR hT6.out.hZ).mono ?_
    rintro e w7 ⟨rfl, hb7⟩
    have hT7 := Lib.hid (hT6.out.call hb7)
    have hbw7 := hbw6.trans (hb7.mono hbw6.size)
    clear hb7 y0 y1 y2 y3 hT6
    obtain ⟨l6, l13, y0, y1, y2, y3⟩ := hT7.out.has
    generalize (priceRes rs zs cls zone grams).1 = pa
    generalize (priceRes rs zs cls zone grams).2 = pe
    go_wp2_with fail
    refine (keptTariff_any (fun _ => True) (fun _ => True) _ _ _ _ rs zs _ hT7.out.hLR hT7.out.hR hT7.out.hLZ hT7.out.hZ).mono ?_
    rintro e w8 ⟨rfl, hb8⟩
    go_wp2
    go_ret
    exact ⟨rfl, hbw7.trans (hb8.mono hbw7.size)⟩
set_option maxHeartbeats 1000000 in
theorem tells_any (rv zv : Value) (rs : List Rate) (zs : List Zone) (f t : ByteArray) (cls zone grams : Int) (w : World) (h : InRates w rv rs) (hz : IsZones w zv zs) (hn : NilOk zv) (hf : f.size ≤ maxLen) (ht : t.size ≤ maxLen) :
    Calls Try.prog 3 #[.agg #[rv, zv], .string f, .string t, .int .u8 cls, .int .i64 zone, .int .i64 grams] w (SaysTrue w) := by
  have hin := Lib.hid h
  have hzz := Lib.hid hz
  have hnn := Lib.hid hn
  obtain ⟨A, c, rfl, _, _, hA⟩ := h
  obtain ⟨B, d, rfl, _, _, hB⟩ := hz
  clear hA hB hn
  have hW : Below w.heap.size w (w.alloc (.cells #[.slice A rs.length c, .slice B zs.length d] 25)) := (Below.refl _ _).alloc (Nat.le_refl _) _
  have hk0 := Lib.hid (Blk.new w 25 #[.slice A rs.length c, .slice B zs.length d])
  go_enter Try.func3, Try.ntmps3
  go_wp2_with fail
  refine (awake_any _).mono ?_
  rintro e w1 ⟨rfl, hb1⟩
  have hbw1 := hW.trans (hb1.mono hW.size)
  have hk1 := Lib.hid (hk0.out.below hb1 hk0.out.lt)
  have x0 := hk1.out.cell 0
  have x1 := hk1.out.cell 1
  simp at x0 x1
  have hl1 := hk1.out.lt
  clear hb1 hW hk0
  go_wp2_with fail
  refine (tariffTells_any _ _ rs zs f t cls zone grams _ (hin.out.stays (Stays.of hbw1)) (hzz.out.stays (Stays.of hbw1)) hnn.out hf ht).mono ?_
  rintro e w2 ⟨rfl, hb2⟩
  go_wp2
  go_ret
  exact ⟨rfl, hbw1.trans (hb2.mono hbw1.size)⟩
end Go.Proofs.Ythbnbfeolfkkaaa
