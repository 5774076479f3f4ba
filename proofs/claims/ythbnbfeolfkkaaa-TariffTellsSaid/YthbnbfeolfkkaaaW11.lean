/- The walk of tariff.Bases. -/
import Derived.Test.YthbnbfeolfkkaaaW9
import Derived.Test.YthbnbfeolfkkaaaW10
import Derived.Test.YthbnbfeolfkkaaaLaws
import Derived.Deep.RegionHeld3
import Derived.Deep.DrawnRows
import Derived.Maps.AppendAt
import Derived.Deep.Onto
namespace Go.Proofs.Ythbnbfeolfkkaaa
open Go.RowKit
attribute [local go_sem ↓] Go.wp_at_zero Go.wp_at_succ

/-- a list of integers in memory of the call's own, and an error -/
def IntsRes (w : World) (r : List Int × Int) (e : Ending) (w' : World) : Prop :=
  ∃ v, e = .returned (.tuple #[v, .int .i64 r.2]) ∧ w'.ownsRow w.heap.size 3 1 v r.1.length (r.1.map (Value.int .i64)) ∧ Below w.heap.size w w'
theorem int_info : (Try.prog.info? 3).map (fun i => (i.zero, i.size, i.bytes)) = some (some (.int .i64 0), 1, 8) := by kernel_rfl
theorem IntsRes.none_ {w w' : World} {r : List Int × Int} {e : Ending} (he : e = .returned (.tuple #[.slice none 0 0, .int .i64 r.2])) (hr : r.1 = []) (hb : Below w.heap.size w w') : IntsRes w r e w' :=
  ⟨_, he, by rw [hr]; exact ⟨rfl, .inl ⟨rfl, rfl⟩⟩, hb⟩

set_option maxHeartbeats 4000000 in
theorem bases_any (rv zv pv : Value) (rs : List Rate) (zs : List Zone) (cls country : Int) (origin : ByteArray) (ps : List Piece) (w : World) (h : IsRates w rv rs) (hz : IsZones w zv zs) (ho : origin.size ≤ maxLen) (hp : IsPieces w pv ps) :
    Calls Try.prog 16 #[.agg #[rv, zv], .agg #[.int .u8 cls, .int .u8 country, .string origin, pv]] w (IntsRes w (basesRes rs zs ⟨cls, country, origin, ps⟩)) := by
  have hh := Lib.hid h
  have hzz := Lib.hid hz
  have hpp := Lib.hid hp
  obtain ⟨A, c, rfl, hn, hc, hA⟩ := h
  obtain ⟨A2, c2, rfl, hn2, hc2, hA2⟩ := hz
  obtain ⟨A3, c3, rfl, hn3, hc3, hA3⟩ := hp
  have hA3' := Lib.hid hA3
  clear hA hA2 hA3
  have hW := ((Below.refl w.heap.size w).alloc (Nat.le_refl _) (.cells #[.slice A rs.length c, .slice A2 zs.length c2] 25)).alloc (by simp) (.cells #[.int .u8 cls, .int .u8 country, .string origin, .slice A3 ps.length c3] 36)
  go_enter Try.func16, Try.ntmps16
  go_wp2_with fail
  refine (right_any _ _ rs zs _ (hh.out.stays (Stays.of hW)) (hzz.out.stays (Stays.of hW))).mono ?_
  rintro e w1 ⟨rfl, hb1⟩
  have hbw1 := hW.trans (hb1.mono (by simp; omega))
  have hsz1 : w.heap.size + 1 < w1.heap.size := by have := hb1.size; simp at this; omega
  have hx : ∀ j, w1.cell? ⟨w.heap.size, j, none⟩ = #[.slice A rs.length c, .slice A2 zs.length c2][j]? := fun j => by rw [hb1.cell (by simp; omega)]; simp [go_sem]
  have hy : ∀ j, w1.cell? ⟨w.heap.size + 1, j, none⟩ = #[.int .u8 cls, .int .u8 country, .string origin, .slice A3 ps.length c3][j]? := fun j => by rw [hb1.cell (by simp)]; simp [go_sem]
  clear hb1 hW
  by_cases h1 : right rs zs = true
  · have y0 := hy 0
    have y1 := hy 1
    have y2 := hy 2
    have y3 := hy 3
    simp at y0 y1 y2 y3
    go_wp2_with fail
    refine (mailing_any _ _ _ _ ps _ ho (hpp.out.stays (Stays.of hbw1))).mono ?_
    rintro e w2 ⟨rfl, hb2⟩
    have hbw2 := hbw1.trans (hb2.mono hbw1.size)
    have hsz2 : w.heap.size + 1 < w2.heap.size := Nat.lt_of_lt_of_le hsz1 hb2.size
    have x0' : w2.cell? ⟨w.heap.size, 0, none⟩ = some (.slice A rs.length c) := by rw [hb2.cell (by simp; omega), hx]; rfl
    have x1' : w2.cell? ⟨w.heap.size, 1, none⟩ = some (.slice A2 zs.length c2) := by rw [hb2.cell (by simp; omega), hx]; rfl
    have y0' : w2.cell? ⟨w.heap.size + 1, 0, none⟩ = some (.int .u8 cls) := by rw [hb2.cell hsz1, y0]
    have y2' : w2.cell? ⟨w.heap.size + 1, 2, none⟩ = some (.string origin) := by rw [hb2.cell hsz1, y2]
    have y3' : w2.cell? ⟨w.heap.size + 1, 3, none⟩ = some (.slice A3 ps.length c3) := by rw [hb2.cell hsz1, y3]
    clear hb2 hx hy y0 y1 y2 y3
    by_cases h2 : mailing ⟨cls, country, origin, ps⟩ = true
    · have hfin := Lib.hid (show basesRes rs zs ⟨cls, country, origin, ps⟩ = basesBy rs zs ⟨cls, country, origin, ps⟩ from by rw [basesRes, if_neg (by simp [h1, h2])])
      cases hr : rateOf cls rs with
      | none =>
        have hfin2 := Lib.hid (show basesRes rs zs ⟨cls, country, origin, ps⟩ = ([], 6) from by rw [hfin.out, basesBy, hr])
        have hr' := Lib.hid hr
        clear hr
        go_wp2_with fail
        refine (rateOf_no cls _ _ rs _ (hh.out.stays (Stays.of hbw2)) hr'.out).mono ?_
        rintro e w3 ⟨rfl, hb3⟩
        have hbw3 := hbw2.trans (hb3.mono hbw2.size)
        go_wp2
        go_ret2
        exact IntsRes.none_ (by rw [hfin2.out]; rfl) (by rw [hfin2.out]) (hbw3.alloc hbw3.size _)
      | some r =>
        have hfin2 := Lib.hid (show basesRes rs zs ⟨cls, country, origin, ps⟩ = basesAcc r.steps zs origin [] ps from by rw [hfin.out, basesBy, hr])
        have hr' := Lib.hid hr
        clear hr
        go_wp2_with fail
        refine (rateOf_yes cls _ _ rs r _ (hh.out.stays (Stays.of hbw2)) hr'.out).mono ?_
        rintro e w3 ⟨⟨sv, rfl, hsv⟩, hb3⟩
        have hbw3 := hbw2.trans (hb3.mono hbw2.size)
        have hsv3 := Lib.hid (hsv.stays (Stays.of hb3))
        obtain ⟨A4, c4, rfl, _, _, hA4⟩ := hsv
        clear hA4
        obtain ⟨rc, rss, rb⟩ := r
        simp only at hsv3 hfin2 ⊢
        have hps : ps.length ≤ 2000 := by
          unfold mailing at h2
          split at h2
          · cases h2
          · split at h2
            · cases h2
            · rename_i hh2; simp only at hh2; omega
        have hcent := Lib.hid (right_cents h1 hr'.out)
        have hzin := Lib.hid (fun t => zoneOf_in (right_parts h1).2.2.2.2 origin t)
        have hcz := Lib.hid (right_parts h1).2.2.1
        have x1 : w3.cell? ⟨w.heap.size, 1, none⟩ = some (.slice A2 zs.length c2) := by rw [hb3.cell (by simp; omega), x1']
        have y2 : w3.cell? ⟨w.heap.size + 1, 2, none⟩ = some (.string origin) := by rw [hb3.cell hsz2, y2']
        have y3 : w3.cell? ⟨w.heap.size + 1, 3, none⟩ = some (.slice A3 ps.length c3) := by rw [hb3.cell hsz2, y3']
        have hsz3 : w.heap.size + 1 < w3.heap.size := Nat.lt_of_lt_of_le hsz2 hb3.size
        clear hb3 x0' x1' y0' y2' y3' hbw1 hbw2 hsz1 hsz2 hr' hfin hh hpp h1 h2
        obtain ⟨i0, hi0, hz0, hz1, hz2⟩ := info_parts int_info
        have hWM : Below w3.heap.size w3 (w3.alloc (.cells #[.int .u8 rc, .slice A4 rss.length c4, .int .i64 rb] 57)) := (Below.refl _ _).alloc (Nat.le_refl _) _
        obtain ⟨wM, hmk, hownM, hgrM⟩ := run_make_own (P := Try.prog) (w3.alloc (.cells #[.int .u8 rc, .slice A4 rss.length c4, .int .i64 rb] 57)) (w3.heap.size + 1) 38 3 i0 _ 1 Try.underlying38 hi0 hz0 hz1 .i64 .i64 ps.length (by rw [hz2]; omega) (by unfold maxLen; omega) (by simp)
        have hbM : Below (w3.heap.size + 1) (w3.alloc (.cells #[.int .u8 rc, .slice A4 rss.length c4, .int .i64 rb] 57)) wM := (Below.refl _ _).grown hgrM (by simp) (by simp)
        have m0 : wM.cell? ⟨w3.heap.size, 0, none⟩ = some (.int .u8 rc) := by rw [hbM.cell (by simp)]; simp
        have m1 : wM.cell? ⟨w3.heap.size, 1, none⟩ = some (.slice A4 rss.length c4) := by rw [hbM.cell (by simp)]; simp
        have m2 : wM.cell? ⟨w3.heap.size, 2, none⟩ = some (.int .i64 rb) := by rw [hbM.cell (by simp)]; simp
        have m3 : wM.cell? ⟨w.heap.size, 1, none⟩ = some (.slice A2 zs.length c2) := by rw [hbM.cell (by simp; omega), World.cell?_alloc_lt _ _ _ (by simp; omega), x1]
        have m4 : wM.cell? ⟨w.heap.size + 1, 2, none⟩ = some (.string origin) := by rw [hbM.cell (by simp; omega), World.cell?_alloc_lt _ _ _ (by simp; omega), y2]
        have m5 : wM.cell? ⟨w.heap.size + 1, 3, none⟩ = some (.slice A3 ps.length c3) := by rw [hbM.cell (by simp; omega), World.cell?_alloc_lt _ _ _ (by simp; omega), y3]
        have hszM : w3.heap.size < wM.heap.size := by have := hbM.size; simp at this; omega
        have hbwM : Below w.heap.size w wM := (hbw3.trans (hWM.mono hbw3.size)).trans (hbM.mono (by omega))
        have h3M : Below w3.heap.size w3 wM := hWM.trans (hbM.mono (by omega))
        have hbM' := Lib.hid hbM
        have hownM' := Lib.hid hownM
        clear hownM hgrM hbM
        go_wp2
        go_loopw [8, 37] (fun v iv wr => ∃ (k : Nat) (acc : List Int), k ≤ ps.length ∧ iv = .int .i64 k ∧ acc.length = k ∧ Below (w3.heap.size + 1) wM wr ∧ wr.ownsRow (w3.heap.size + 1) 3 1 v k (acc.map (Value.int .i64)) ∧ Hid (basesAcc rss zs origin [] ps = basesAcc rss zs origin acc (ps.drop k)))
          (fun _ iv _ => ps.length - (intOf iv).toNat)
        case atStart => exact ⟨0, [], by omega, rfl, rfl, Below.refl _ _, by simpa using hownM'.out, rfl⟩
        case round =>
          obtain ⟨k, acc, hk, rfl, hacc, hbr, hown, hrl⟩ := hrel
          have hacc' := Lib.hid hacc
          have hbwr : Below w.heap.size w wr := hbwM.trans (hbr.mono (by omega))
          have hszr : w3.heap.size < wr.heap.size := Nat.lt_of_lt_of_le hszM hbr.size
          clear hacc hmk x1 y2 y3
          by_cases hlt : k < ps.length
          · obtain ⟨b, off, rfl, hb, hi⟩ := hA3'.out (by omega)
            have hst := (hi k hlt).stays (Stays.of hbwr) hb
            have hdr := Lib.hid (drop_getD ps Piece.zero k hlt)
            have hbb : b < wr.heap.size := Nat.lt_of_lt_of_le hb hbwr.size
            have hi' := Lib.hid hi
            clear hi hA3'
            generalize ps.getD k Piece.zero = q at hst hdr
            obtain ⟨id, pt, cd, gr, ba⟩ := q
            obtain ⟨g0, g1, g2, g3, g4, hcs⟩ := hst
            simp only at g0 g1 g2 g3 g4 hcs
            have v0 : wr.cell? ⟨w3.heap.size, 0, none⟩ = some (.int .u8 rc) := by rw [hbr.cell (by simp), m0]
            have v1 : wr.cell? ⟨w3.heap.size, 1, none⟩ = some (.slice A4 rss.length c4) := by rw [hbr.cell (by simp), m1]
            have v2 : wr.cell? ⟨w3.heap.size, 2, none⟩ = some (.int .i64 rb) := by rw [hbr.cell (by simp), m2]
            have v3 : wr.cell? ⟨w.heap.size, 1, none⟩ = some (.slice A2 zs.length c2) := by rw [hbr.cell (by simp; omega), m3]
            have v4 : wr.cell? ⟨w.heap.size + 1, 2, none⟩ = some (.string origin) := by rw [hbr.cell (by simp; omega), m4]
            have hsvr := Lib.hid (show IsSteps wr (.slice A4 rss.length c4) rss from hsv3.out.stays (Stays.of (h3M.trans (hbr.mono (by omega)))))
            clear m0 m1 m2 m3 m4 m5
            have hs0 : w.heap.size < wr.heap.size := by omega
            have hs1 : w.heap.size + 1 < wr.heap.size := by omega
            have hWX := hbwr.alloc hbwr.size (.cells #[.int .i64 id, .int .i64 pt, .string cd, .int .i64 gr, .bool ba] 48)
            have hWY : Below wr.heap.size wr (wr.alloc (.cells #[.int .i64 id, .int .i64 pt, .string cd, .int .i64 gr, .bool ba] 48)) := (Below.refl _ _).alloc (Nat.le_refl _) _
            have hzc := hzin.out cd
            have hown' := Lib.hid hown
            clear hown
            go_wp2
            go_region_held3 (fun w' => w'.cell? ⟨w3.heap.size, 0, none⟩ = some (.int .u8 rc) ∧ w'.cell? ⟨w3.heap.size, 1, none⟩ = some (.slice A4 rss.length c4) ∧ w'.cell? ⟨w3.heap.size, 2, none⟩ = some (.int .i64 rb) ∧ w'.cell? ⟨w.heap.size, 1, none⟩ = some (.slice A2 zs.length c2) ∧ w'.cell? ⟨w.heap.size + 1, 2, none⟩ = some (.string origin) ∧ w'.cell? ⟨wr.heap.size, 2, none⟩ = some (.string cd) ∧ w'.cell? ⟨wr.heap.size, 3, none⟩ = some (.int .i64 gr)) (first | go_keep | (refine ⟨?_, ?_, ?_, ?_, ?_, ?_, ?_⟩ <;> first | (rw [hb6.cell (by simp <;> omega)]; go_keep) | (rw [hb5.cell (by simp <;> omega)]; go_keep)))
              (first | (go_at_call 43; refine (zoneOf_any origin cd _ zs _ (hzz.out.stays (Stays.of hWX.drew)) ho hcs).mono ?_; rintro e w5 ⟨rfl, hb5⟩; have hs5 := hb5.size; simp at hs5) | (go_at_call 42; refine (priceOf_any _ _ _ _ _ rss _ ((hsvr.out.stays (Stays.of hWY.drew)).stays (Stays.of hb5)) hzc.1 (fun s hs => by rw [hcent.out s hs]; exact hzc.2) (by have := hzc.2; have := hcz.out; omega)).mono ?_; rintro e w6 ⟨rfl, hb6⟩))
            have hb16 : Below (w3.heap.size + 1) wM w6 := ((hbr.alloc (by omega) _).drew.trans (hb5.mono (by simp; omega))).trans (hb6.mono (by omega))
            have hbw6 : Below w.heap.size w w6 := (hWX.drew.trans (hb5.mono (by simp; omega))).trans (hb6.mono (by omega))
            have hs6 : wr.heap.size + 1 ≤ w6.heap.size := Nat.le_trans hs5 hb6.size
            have hown5 := (hown'.out.alloc (.cells #[.int .i64 id, .int .i64 pt, .string cd, .int .i64 gr, .bool ba] 48)).drew
            have hown6 : w6.ownsRow (w3.heap.size + 1) 3 1 u8 k (acc.map (Value.int .i64)) := (hown5.kept (row := none) ⟨hb5.os, hb5.tape, hb5.output, hb5.size, fun i hi _ => hb5.block i hi⟩ (by cases u8.ownBlock <;> simp)).kept (row := none) ⟨hb6.os, hb6.tape, hb6.output, hb6.size, fun i hi _ => hb6.block i hi⟩ (by cases u8.ownBlock <;> simp)
            rename_i hHeld
            clear hHeld hown5 hb5 hb6 hown' v0 v1 v2 v3 v4 g0 g1 g2 g3 g4
            by_cases hpe : (priceOf rss (zoneOf zs origin cd) gr).2 ≠ 0
            · have hfin3 := Lib.hid (show basesRes rs zs ⟨cls, country, origin, ps⟩ = ([], (priceOf rss (zoneOf zs origin cd) gr).2) from by rw [hfin2.out, hrl.out, hdr.out, basesAcc_no hpe])
              have hpe' : ((priceOf rss (zoneOf zs origin cd) gr).2 != 0) = true := by simpa using hpe
              clear hpe
              go_wp2
              go_ret2
              exact IntsRes.none_ (by rw [hfin3.out]; rfl) (by rw [hfin3.out]) hbw6
            · have hfin3 := Lib.hid (show basesAcc rss zs origin [] ps = basesAcc rss zs origin (acc ++ [(priceOf rss (zoneOf zs origin cd) gr).1]) (ps.drop (k + 1)) from by rw [hrl.out, hdr.out, basesAcc_yes hpe])
              have hpe' : ((priceOf rss (zoneOf zs origin cd) gr).2 != 0) = false := by simpa using hpe
              generalize (priceOf rss (zoneOf zs origin cd) gr).1 = x at hfin3 ⊢
              clear hpe
              go_wp2_with (at_builtin; refine wpList_append_own_at _ rfl (.tmp 58) (.tmp 60) 38 rfl (w3.heap.size + 1) 3 i0 (.int .i64 0) 1 8 Try.underlying38 hi0 hz0 hz1 hz2 rfl (by omega) _ k (acc.map (Value.int .i64)) rfl (hown6.alloc _) ⟨w6.heap.size, 0, none⟩ 1 1 [.int .i64 x] rfl rfl (cell_one_new _ _ _) (by simp [Value.oneCell']) (by unfold maxLen; omega) (by omega) (by simp; omega) ?_; intro v' wN hownN hgrN hnilN hatN)
              have hbN : Below (w3.heap.size + 1) wM wN := (hb16.alloc (by omega) _).grown hgrN (by simp; omega) (fun g hg => (hown6.lt g hg).1)
              have hownN' := Lib.hid hownN
              have hl2 : (acc ++ [x]).length = k + 1 := by rw [List.length_append, hacc'.out]; rfl
              have hl2' := Lib.hid hl2
              clear hownN hgrN hnilN hatN hl2
              go_roundw
              case rel => exact ⟨k + 1, acc ++ [x], by omega, by go_num, hl2'.out, hbN, by simpa using hownN'.out, hfin3⟩
              case measure => simp [intOf]; omega
          · have hfin3 := Lib.hid (show basesRes rs zs ⟨cls, country, origin, ps⟩ = (acc, 0) from by rw [hfin2.out, hrl.out, List.drop_of_length_le (by omega)]; rfl)
            have hown' := Lib.hid hown
            clear hown
            go_wp2
            go_ret2
            refine ⟨_, by rw [hfin3.out]; rfl, ?_, hbwr⟩
            rw [hfin3.out]
            show wr.ownsRow w.heap.size 3 1 _ acc.length (acc.map (Value.int .i64))
            rw [hacc'.out]
            exact hown'.out.mono (by omega)
    · have h2' : mailing ⟨cls, country, origin, ps⟩ = false := by simpa using h2
      have hfin := Lib.hid (show basesRes rs zs ⟨cls, country, origin, ps⟩ = ([], 2) from by rw [basesRes, if_pos (.inr h2')])
      go_wp2
      go_ret2
      exact IntsRes.none_ (by rw [hfin.out]; rfl) (by rw [hfin.out]) hbw2
  · have h1' : right rs zs = false := by simpa using h1
    have hfin := Lib.hid (show basesRes rs zs ⟨cls, country, origin, ps⟩ = ([], 2) from by rw [basesRes, if_pos (.inl h1')])
    clear hx hy
    go_wp2
    go_ret2
    exact IntsRes.none_ (by rw [hfin.out]; rfl) (by rw [hfin.out]) hbw1
end Go.Proofs.Ythbnbfeolfkkaaa
