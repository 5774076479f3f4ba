/- The walk of tariff.Postage. -/
import Derived.Test.YthbnbfeolfkkaaaPost
import Derived.Test.YthbnbfeolfkkaaaW11
import Derived.StillTailTactics
import Derived.RegionTactic
import Derived.BigRegion
import Derived.Deep.AppendLies
import Derived.Laws.OwnMore
namespace Go.Proofs.Ythbnbfeolfkkaaa
open Go.RowKit Go.Maps

theorem planOk_no {n : Nat} {x : Int} {t : List Int} (h : x < 0 ∨ (n : Int) ≤ x) : planOk n (x :: t) = false := by rw [planOk, if_pos h]
theorem planOk_yes {n : Nat} {x : Int} {t : List Int} (h : ¬ (x < 0 ∨ (n : Int) ≤ x)) : planOk n (x :: t) = planOk n t := by rw [planOk, if_neg h]
theorem postGo_nil (bar : Int) (ls : List Level) (k : Nat) (acc : List Int) (xs : List Int) : postGo bar ls k acc [] xs = acc := by cases xs <;> rfl
theorem set_map (l : List Int) (k : Nat) (x : Int) : (l.set k x).map (Value.int .i64) = (l.map (Value.int .i64)).set k (.int .i64 x) := by rw [List.map_set]

set_option maxRecDepth 100000 in
set_option maxHeartbeats 8000000 in
theorem postage_any (rv zv lv pv qv : Value) (rs : List Rate) (zs : List Zone) (ls : List Level) (cls country : Int) (origin : ByteArray) (ps : List Piece) (plan : List Int) (w : World) (h : IsRates w rv rs) (hz : IsZones w zv zs) (hl : IsLevels w lv ls) (hlen : ∀ l ∈ ls, l.labels.length ≤ 1000000000)
    (ho : origin.size ≤ maxLen) (hp : IsPieces w pv ps) (hq : IsInts w qv plan) :
    Calls Try.prog 17 #[.agg #[rv, zv], lv, .agg #[.int .u8 cls, .int .u8 country, .string origin, pv], qv] w (IntsRes w (postRes rs zs ls ⟨cls, country, origin, ps⟩ plan)) := by
  have hh := Lib.hid h
  have hzz := Lib.hid hz
  have hll := Lib.hid hl
  have hpp := Lib.hid hp
  have hqq := Lib.hid hq
  obtain ⟨A, c, rfl, hn, hc, hA⟩ := h
  obtain ⟨A2, c2, rfl, hn2, hc2, hA2⟩ := hz
  obtain ⟨A3, c3, rfl, hn3, hc3, hA3⟩ := hl
  obtain ⟨A4, c4, rfl, hn4, hc4, hA4⟩ := hp
  obtain ⟨A5, c5, rfl, hn5, hc5, hA5⟩ := hq
  have hc3' : c3 ≤ 9223372036854775807 := hc3
  have hc4' : c4 ≤ 9223372036854775807 := hc4
  have hc5' : c5 ≤ 9223372036854775807 := hc5
  have hA3' := Lib.hid hA3
  have hA4' := Lib.hid hA4
  have hA5' := Lib.hid hA5
  have hlen' := Lib.hid hlen
  clear hA hA2 hA3 hA4 hA5 hlen
  have hW := ((Below.refl w.heap.size w).alloc (Nat.le_refl _) (.cells #[.slice A rs.length c, .slice A2 zs.length c2] 25)).alloc (by simp) (.cells #[.int .u8 cls, .int .u8 country, .string origin, .slice A4 ps.length c4] 36)
  have hB1 := Lib.hid ((Blk.new w 25 #[.slice A rs.length c, .slice A2 zs.length c2]).alloc (.cells #[.int .u8 cls, .int .u8 country, .string origin, .slice A4 ps.length c4] 36))
  have hB2 := Lib.hid (Blk.new_at (w.alloc (.cells #[.slice A rs.length c, .slice A2 zs.length c2] 25)) 36 #[.int .u8 cls, .int .u8 country, .string origin, .slice A4 ps.length c4] (w.heap.size + 1) (by simp))
  go_enter Try.func17, Try.ntmps17
  go_wp2_with fail
  refine (fits_tariff_any _ _ _ rs zs ls _ (hh.out.stays (Stays.of hW)) (hzz.out.stays (Stays.of hW)) (hll.out.stays (Stays.of hW)) hlen'.out).mono ?_
  rintro e w1 ⟨rfl, hb1⟩
  have hbw1 := hW.trans (hb1.mono (by simp; omega))
  have hC1 := Lib.hid (hB1.out.below hb1 (by simp; omega))
  have hC2 := Lib.hid (hB2.out.below hb1 (by simp))
  have hsz1 : w.heap.size + 1 < w1.heap.size := hC2.out.lt
  clear hb1 hW hB1 hB2
  cases h1 : fits rs zs ls with
  | false =>
    have hfin := Lib.hid (show postRes rs zs ls ⟨cls, country, origin, ps⟩ plan = ([], 2) from by rw [postRes, if_pos (.inl h1)])
    go_wp2
    go_ret2
    exact IntsRes.none_ (by rw [hfin.out]; rfl) (by rw [hfin.out]) hbw1
  | true =>
    have y0 := hC2.out.cell 0
    have y1 := hC2.out.cell 1
    have y2 := hC2.out.cell 2
    have y3 := hC2.out.cell 3
    simp at y0 y1 y2 y3
    go_wp2_with fail
    refine (mailing_any _ _ _ _ ps _ ho (hpp.out.stays (Stays.of hbw1))).mono ?_
    rintro e w2 ⟨rfl, hb2⟩
    have hbw2 := hbw1.trans (hb2.mono hbw1.size)
    have hD1 := Lib.hid (hC1.out.below hb2 (by omega))
    have hD2 := Lib.hid (hC2.out.below hb2 hsz1)
    have hsz2 : w.heap.size + 1 < w2.heap.size := hD2.out.lt
    clear hb2 hC1 hC2 y0 y1 y2 y3
    have x0 := hD1.out.cell 0
    have x1 := hD1.out.cell 1
    have y0 := hD2.out.cell 0
    have y1 := hD2.out.cell 1
    have y2 := hD2.out.cell 2
    have y3 := hD2.out.cell 3
    simp at x0 x1 y0 y1 y2 y3
    cases h2 : mailing ⟨cls, country, origin, ps⟩ with
    | false =>
      have hfin := Lib.hid (show postRes rs zs ls ⟨cls, country, origin, ps⟩ plan = ([], 2) from by rw [postRes, if_pos (.inr (.inl h2))])
      go_wp2
      go_ret2
      exact IntsRes.none_ (by rw [hfin.out]; rfl) (by rw [hfin.out]) hbw2
    | true =>
      by_cases h3 : plan.length = ps.length
      · have h3' : ((plan.length : Int) != (ps.length : Int)) = false := by simp [h3]
        have hfin := Lib.hid (show postRes rs zs ls ⟨cls, country, origin, ps⟩ plan = if planOk ls.length plan = false then ([], 2) else postBy rs zs ls ⟨cls, country, origin, ps⟩ plan from by rw [postRes, if_neg (by simp [h1, h2, h3])])
        have h3'' := Lib.hid h3
        clear h3
        go_wp2
        go_loop [37] (fun iv => ∃ k : Nat, k ≤ plan.length ∧ iv = .int .i64 k ∧ Hid (planOk ls.length plan = planOk ls.length (plan.drop k))) (fun iv => plan.length - (intOf iv).toNat)
        case atStart => exact ⟨0, by omega, rfl, rfl⟩
        case round =>
          obtain ⟨k, hk, rfl, hrl⟩ := hrel
          by_cases hlt : k < plan.length
          · obtain ⟨b, off, rfl, hb, hi⟩ := hA5'.out (by omega)
            have hce : w2.cell? ⟨b, off + k, none⟩ = some (.int .i64 (plan.getD k 0)) := (hbw2.cell hb).trans (hi k hlt)
            have hdr := Lib.hid (drop_getD plan 0 k hlt)
            have hbr : b < w2.heap.size := Nat.lt_of_lt_of_le hb hbw2.size
            have hi' := Lib.hid hi
            clear hi hA5'
            generalize plan.getD k 0 = x at hce hdr
            by_cases c1 : x < 0
            · have hfin2 := Lib.hid (show postRes rs zs ls ⟨cls, country, origin, ps⟩ plan = ([], 2) from by rw [hfin.out, hrl.out, hdr.out, planOk_no (.inl c1)]; rfl)
              go_wp2
              go_ret2
              exact IntsRes.none_ (by rw [hfin2.out]; rfl) (by rw [hfin2.out]) hbw2
            have c1' : decide (x < 0) = false := by simpa using c1
            by_cases c2 : (ls.length : Int) ≤ x
            · have hfin2 := Lib.hid (show postRes rs zs ls ⟨cls, country, origin, ps⟩ plan = ([], 2) from by rw [hfin.out, hrl.out, hdr.out, planOk_no (.inr c2)]; rfl)
              go_wp2
              go_ret2
              exact IntsRes.none_ (by rw [hfin2.out]; rfl) (by rw [hfin2.out]) hbw2
            have c2' : decide ((ls.length : Int) ≤ x) = false := by simpa using c2
            have hfin2 := Lib.hid (show planOk ls.length plan = planOk ls.length (plan.drop (k + 1)) from by rw [hrl.out, hdr.out, planOk_yes (by omega)])
            go_wp2
            go_round
            case rel => exact ⟨k + 1, by omega, by go_num, hfin2⟩
            case measure => simp [intOf]; omega
          · have hpl := Lib.hid (show planOk ls.length plan = true from by rw [hrl.out, List.drop_of_length_le (by omega)]; rfl)
            have hfin2 := Lib.hid (show postRes rs zs ls ⟨cls, country, origin, ps⟩ plan = postBy rs zs ls ⟨cls, country, origin, ps⟩ plan from by rw [hfin.out, if_neg (by simp [hpl.out])])
            clear hfin
            go_wp2_with fail
            refine (bases_any _ _ _ rs zs _ _ _ ps _ (hh.out.stays (Stays.of hbw2)) (hzz.out.stays (Stays.of hbw2)) ho (hpp.out.stays (Stays.of hbw2))).mono ?_
            rintro e w3 ⟨v, rfl, hown, hb3⟩
            have hbw3 := hbw2.trans (hb3.mono hbw2.size)
            have hE1 := Lib.hid (hD1.out.below hb3 (by omega))
            have hE2 := Lib.hid (hD2.out.below hb3 hsz2)
            have hsz3 : w.heap.size + 1 < w3.heap.size := hE2.out.lt
            have hsz23 := hb3.size
            clear hb3 hD1 hD2 x0 x1 y0 y1 y2 y3
            have x0 := hE1.out.cell 0
            have x1 := hE1.out.cell 1
            have y0 := hE2.out.cell 0
            have y3 := hE2.out.cell 3
            simp at x0 x1 y0 y3
            have hown' := Lib.hid hown
            clear hown
            by_cases h4 : (basesRes rs zs ⟨cls, country, origin, ps⟩).2 ≠ 0
            · have hfin3 := Lib.hid (show postRes rs zs ls ⟨cls, country, origin, ps⟩ plan = ([], (basesRes rs zs ⟨cls, country, origin, ps⟩).2) from by rw [hfin2.out, postBy, if_pos h4])
              have h4' : ((basesRes rs zs ⟨cls, country, origin, ps⟩).2 != 0) = true := by simpa using h4
              clear h4
              go_wp2
              go_ret2
              exact IntsRes.none_ (by rw [hfin3.out]; rfl) (by rw [hfin3.out]) hbw3
            · obtain ⟨⟨rc, rss, rb⟩, hr, hb0, hb1, hbl, hbb⟩ := basesRes_ok (Classical.not_not.1 h4)
              have hfin3 := Lib.hid (show postRes rs zs ls ⟨cls, country, origin, ps⟩ plan = (postGo rb ls 0 (basesRes rs zs ⟨cls, country, origin, ps⟩).1 ps plan, 0) from by rw [hfin2.out, postBy, if_neg h4]; simp only at hr; rw [hr]; rfl)
              have h4' : ((basesRes rs zs ⟨cls, country, origin, ps⟩).2 != 0) = false := by simpa using h4
              simp only at hr hb0 hb1 hbl
              have hr' := Lib.hid hr
              have hbl' := Lib.hid hbl
              have hbb' := Lib.hid hbb
              clear h4 hr hbl hbb hfin2
              go_wp2_with fail
              refine (rateOf_yes cls _ _ rs _ _ (hh.out.stays (Stays.of hbw3)) hr'.out).mono ?_
              rintro e w4 ⟨⟨sv, rfl, hsv⟩, hb4⟩
              have hbw4 := hbw3.trans (hb4.mono hbw3.size)
              have hF2 := Lib.hid (hE2.out.below hb4 hsz3)
              have hown4 := Lib.hid (hown'.out.kept (row := none) ⟨hb4.os, hb4.tape, hb4.output, hb4.size, fun i hi _ => hb4.block i hi⟩ (by cases v.ownBlock <;> simp))
              have hsz4 : w.heap.size + 1 < w4.heap.size := hF2.out.lt
              have hsz34 := hb4.size
              obtain ⟨A6, c6, rfl, _, _, hA6⟩ := hsv
              clear hA6 hb4 hE1 hE2 hown' x0 x1 y0 y3
              simp only
              have y3 := hF2.out.cell 3
              simp at y3
              have hps : ps.length ≤ 2000 := by
                unfold mailing at h2
                split at h2
                · cases h2
                · split at h2
                  · cases h2
                  · rename_i hh2; simp only at hh2; omega
              have hsc : schemeRight ls = true := by
                unfold fits at h1
                split at h1
                · cases h1
                · rename_i hx
                  cases hq : schemeRight ls
                  · exact absurd (.inr hq) hx
                  · rfl
              have hct := Lib.hid (schemeRight_cents hsc).1
              have hpa := Lib.hid (planOk_all hpl.out)
              generalize hbs : (basesRes rs zs ⟨cls, country, origin, ps⟩).1 = bs at hown4 hfin3 hbl' hbb'
              have hW4 : Below w.heap.size w (w4.alloc (.cells #[.int .u8 rc, .slice A6 rss.length c6, .int .i64 rb] 57)) := hbw4.alloc hbw4.size _
              have hown5 := Lib.hid (hown4.out.alloc (.cells #[.int .u8 rc, .slice A6 rss.length c6, .int .i64 rb] 57))
              have hbs' := Lib.hid hbs
              clear hbs h1 h2 hsc
              go_wp2
              go_loopw [69] (fun iv wr => ∃ (k : Nat) (acc : List Int), k ≤ ps.length ∧ iv = .int .i64 k ∧ Hid (acc.length = ps.length) ∧ Hid (∀ i, k ≤ i → 0 ≤ acc.getD i 0 ∧ acc.getD i 0 ≤ 1000000) ∧ Below w.heap.size w wr ∧ w4.heap.size < wr.heap.size ∧ wr.cell? ⟨w4.heap.size, 2, none⟩ = some (.int .i64 rb) ∧ wr.ownsRow w2.heap.size 3 1 v ps.length (acc.map (Value.int .i64)) ∧ Hid (postGo rb ls 0 bs ps plan = postGo rb ls k acc (ps.drop k) (plan.drop k)))
                (fun iv _ => ps.length - (intOf iv).toNat)
              case atStart =>
                refine ⟨0, bs, by omega, rfl, hbl'.out, fun i _ => ?_, hW4, by simp, by simp, by have := hown5.out; rw [hbl'.out] at this; exact this, rfl⟩
                rcases Nat.lt_or_ge i bs.length with hj | hj
                · rw [List.getD_eq_getElem?_getD, List.getElem?_eq_getElem hj]
                  exact hbb'.out _ (List.getElem_mem hj)
                · rw [List.getD_eq_getElem?_getD, List.getElem?_eq_none hj]
                  simp
              case round =>
                obtain ⟨k, acc, hk, rfl, hal, hab, hbw, hw4, hx2, hown, hrl⟩ := hrel
                clear y3
                by_cases hlt : k < ps.length
                · obtain ⟨g, cap, hv, hg2, hgl⟩ := hown.form (by omega)
                  subst hv
                  have hg4 : g < w4.heap.size := (hown4.out.lt g rfl).2
                  have hgne : g ≠ w4.heap.size := by omega
                  have r0 := hown.cellAt k (by omega)
                  have rf0 := hown.frozenAt k
                  have hab0 := hab.out k (Nat.le_refl _)
                  rw [show (acc.map (Value.int .i64))[k]? = some (.int .i64 (acc.getD k 0)) from by
                    have hka : k < acc.length := by rw [hal.out]; exact hlt
                    rw [List.getElem?_map, List.getElem?_eq_getElem hka, List.getD_eq_getElem?_getD, List.getElem?_eq_getElem hka]; rfl] at r0
                  have hpl2 : k < plan.length := by rw [h3''.out]; exact hlt
                  obtain ⟨b, off, rfl, hb, hi⟩ := hA4'.out (by omega)
                  obtain ⟨b5, off5, rfl, hb5, hi5⟩ := hA5'.out (by omega)
                  have hst := (hi k hlt).stays (Stays.of hbw) hb
                  have hce : wr.cell? ⟨b5, off5 + k, none⟩ = some (.int .i64 (plan.getD k 0)) := (hbw.cell hb5).trans (hi5 k hpl2)
                  have hdr := Lib.hid (drop_getD ps Piece.zero k hlt)
                  have hdr5 := Lib.hid (drop_getD plan 0 k hpl2)
                  have hbr : b < wr.heap.size := Nat.lt_of_lt_of_le hb hbw.size
                  have hbr5 : b5 < wr.heap.size := Nat.lt_of_lt_of_le hb5 hbw.size
                  obtain ⟨hx0, hx1⟩ := hpa.out (plan.getD k 0) (by rw [List.getD_eq_getElem?_getD, List.getElem?_eq_getElem hpl2]; exact List.getElem_mem hpl2)
                  have hi' := Lib.hid hi
                  have hi5' := Lib.hid hi5
                  clear hi hi5 hA4' hA5'
                  generalize ps.getD k Piece.zero = q at hst hdr
                  obtain ⟨id, pt, cd, gr, ba⟩ := q
                  obtain ⟨g0, g1, g2, g3, g4, hcs⟩ := hst
                  simp only at g0 g1 g2 g3 g4 hcs
                  generalize plan.getD k 0 = x at hce hdr5 hx0 hx1
                  obtain ⟨xn, rfl⟩ := Int.eq_ofNat_of_zero_le hx0
                  have hxl : xn < ls.length := by omega
                  obtain ⟨b3, off3, rfl, hb3, hi3⟩ := hA3'.out (by omega)
                  have hlv := (hi3 xn hxl).stays (Stays.of hbw) hb3
                  have hcx := hct.out (ls.getD xn Level.zero) (by rw [List.getD_eq_getElem?_getD, List.getElem?_eq_getElem hxl]; exact List.getElem_mem hxl)
                  have hbr3 : b3 < wr.heap.size := Nat.lt_of_lt_of_le hb3 hbw.size
                  have hi3' := Lib.hid hi3
                  clear hi3 hA3' hx0 hx1
                  obtain ⟨_, _, _, _, l4, _⟩ := hlv
                  have hone := Lib.hid (show postGo rb ls 0 bs ps plan = postGo rb ls (k + 1) (acc.set k (postOne rb ls ⟨id, pt, cd, gr, ba⟩ (acc.getD k 0) xn)) (ps.drop (k + 1)) (plan.drop (k + 1)) from by rw [hrl.out, hdr.out, hdr5.out]; rfl)
                  unfold postOne at hone
                  simp only [Int.toNat_natCast] at hone
                  generalize (ls.getD xn Level.zero).cents = lc at l4 hcx hone
                  generalize hy : acc.getD k 0 = y at r0 hab0 hone
                  have hown' := Lib.hid hown
                  clear hown hy
                  have hgb : b ≠ g := by omega
                  have hgb3 : b3 ≠ g := by omega
                  have hgb5 : b5 ≠ g := by omega
                  have hgl' : g < wr.heap.size := hgl
                  cases ba with
                  | false =>
                    have i5 : (0 : Int) ≤ (k : Int) := by omega
                    have i6 : (k : Int) < (ps.length : Int) := by omega
                    have i7 : (k : Int) < (plan.length : Int) := by omega
                    have i8 : (0 : Int) ≤ (xn : Int) := by omega
                    have i9 : (xn : Int) < (ls.length : Int) := by omega
                    go_wp2
                    have hbwX := hbw.alloc hbw.size (.cells #[.int .i64 id, .int .i64 pt, .string cd, .int .i64 gr, .bool false] 48)
                    have hownX := Lib.hid (hown'.out.alloc (.cells #[.int .i64 id, .int .i64 pt, .string cd, .int .i64 gr, .bool false] 48))
                    have hszX : w4.heap.size < (wr.alloc (.cells #[.int .i64 id, .int .i64 pt, .string cd, .int .i64 gr, .bool false] 48)).heap.size := by simp; omega
                    have s0 : (wr.alloc (.cells #[.int .i64 id, .int .i64 pt, .string cd, .int .i64 gr, .bool false] 48)).cell? ⟨g, k, none⟩ = some (.int .i64 y) := by rw [World.cell?_alloc_lt _ _ _ hgl']; exact r0
                    have sf0 : (wr.alloc (.cells #[.int .i64 id, .int .i64 pt, .string cd, .int .i64 gr, .bool false] 48)).frozen? ⟨g, k, none⟩ = false := hownX.out.frozenAt k
                    have s1 : (wr.alloc (.cells #[.int .i64 id, .int .i64 pt, .string cd, .int .i64 gr, .bool false] 48)).cell? ⟨w4.heap.size, 2, none⟩ = some (.int .i64 rb) := by rw [World.cell?_alloc_lt _ _ _ hw4]; exact hx2
                    have s2 : (wr.alloc (.cells #[.int .i64 id, .int .i64 pt, .string cd, .int .i64 gr, .bool false] 48)).cell? ⟨b5, off5 + k, none⟩ = some (.int .i64 (xn : Int)) := by rw [World.cell?_alloc_lt _ _ _ hbr5]; exact hce
                    have s3 : (wr.alloc (.cells #[.int .i64 id, .int .i64 pt, .string cd, .int .i64 gr, .bool false] 48)).cell? ⟨b3, off3 + xn * 5 + 4, none⟩ = some (.int .i64 lc) := by rw [World.cell?_alloc_lt _ _ _ hbr3]; exact l4
                    generalize (wr.alloc (.cells #[.int .i64 id, .int .i64 pt, .string cd, .int .i64 gr, .bool false] 48)) = wX at hbwX hownX hszX s0 sf0 s1 s2 s3 ⊢
                    clear r0 rf0 hx2 hce l4 g0 g1 g2 g3 g4 hown'
                    go_region
                    have hbwE : Below w.heap.size w (wX.setCell ⟨g, k, none⟩ (.int .i64 (y - lc))).drew := (hbwX.setCell (by simp; omega) _).drew
                    have hownE := Lib.hid (hownX.out.stored k (.int .i64 (y - lc)))
                    have s1E : (wX.setCell ⟨g, k, none⟩ (.int .i64 (y - lc))).drew.cell? ⟨w4.heap.size, 2, none⟩ = some (.int .i64 rb) := (World.cell?_setCell_other _ _ _ _ (by simp <;> omega)).trans s1
                    have hlenE := Lib.hid (show (acc.set k (y - lc)).length = ps.length from by rw [List.length_set]; exact hal.out)
                    have habE := Lib.hid (show ∀ i, k + 1 ≤ i → 0 ≤ (acc.set k (y - lc)).getD i 0 ∧ (acc.set k (y - lc)).getD i 0 ≤ 1000000 from fun i hi => by
                      have := hab.out i (by omega)
                      rw [List.getD_eq_getElem?_getD, List.getElem?_set_ne (by omega), ← List.getD_eq_getElem?_getD]; exact this)
                    clear s0 sf0 s1 s2 s3
                    go_wp2
                    go_roundw
                    case rel => exact ⟨k + 1, acc.set k (y - lc), by omega, by go_num, hlenE, habE, hbwE, by simpa using hszX, s1E, by rw [set_map]; exact hownE.out.1, hone⟩
                    case measure => simp [intOf]; omega
                  | true =>
                    have i5 : (0 : Int) ≤ (k : Int) := by omega
                    have i6 : (k : Int) < (ps.length : Int) := by omega
                    have i7 : (k : Int) < (plan.length : Int) := by omega
                    have i8 : (0 : Int) ≤ (xn : Int) := by omega
                    have i9 : (xn : Int) < (ls.length : Int) := by omega
                    go_wp2
                    have hbwX := hbw.alloc hbw.size (.cells #[.int .i64 id, .int .i64 pt, .string cd, .int .i64 gr, .bool true] 48)
                    have hownX := Lib.hid (hown'.out.alloc (.cells #[.int .i64 id, .int .i64 pt, .string cd, .int .i64 gr, .bool true] 48))
                    have hszX : w4.heap.size < (wr.alloc (.cells #[.int .i64 id, .int .i64 pt, .string cd, .int .i64 gr, .bool true] 48)).heap.size := by simp; omega
                    have s0 : (wr.alloc (.cells #[.int .i64 id, .int .i64 pt, .string cd, .int .i64 gr, .bool true] 48)).cell? ⟨g, k, none⟩ = some (.int .i64 y) := by rw [World.cell?_alloc_lt _ _ _ hgl']; exact r0
                    have sf0 : (wr.alloc (.cells #[.int .i64 id, .int .i64 pt, .string cd, .int .i64 gr, .bool true] 48)).frozen? ⟨g, k, none⟩ = false := hownX.out.frozenAt k
                    have s1 : (wr.alloc (.cells #[.int .i64 id, .int .i64 pt, .string cd, .int .i64 gr, .bool true] 48)).cell? ⟨w4.heap.size, 2, none⟩ = some (.int .i64 rb) := by rw [World.cell?_alloc_lt _ _ _ hw4]; exact hx2
                    have s2 : (wr.alloc (.cells #[.int .i64 id, .int .i64 pt, .string cd, .int .i64 gr, .bool true] 48)).cell? ⟨b5, off5 + k, none⟩ = some (.int .i64 (xn : Int)) := by rw [World.cell?_alloc_lt _ _ _ hbr5]; exact hce
                    have s3 : (wr.alloc (.cells #[.int .i64 id, .int .i64 pt, .string cd, .int .i64 gr, .bool true] 48)).cell? ⟨b3, off3 + xn * 5 + 4, none⟩ = some (.int .i64 lc) := by rw [World.cell?_alloc_lt _ _ _ hbr3]; exact l4
                    generalize (wr.alloc (.cells #[.int .i64 id, .int .i64 pt, .string cd, .int .i64 gr, .bool true] 48)) = wX at hbwX hownX hszX s0 sf0 s1 s2 s3 ⊢
                    clear r0 rf0 hx2 hce l4 g0 g1 g2 g3 g4 hown'
                    go_region
                    go_wp2
                    have hbwY : Below w.heap.size w (wX.setCell ⟨g, k, none⟩ (.int .i64 (y - rb))).drew := (hbwX.setCell (by simp; omega) _).drew
                    have hownY := Lib.hid ((hownX.out.stored k (.int .i64 (y - rb))).1.drew)
                    have hszY : w4.heap.size < (wX.setCell ⟨g, k, none⟩ (.int .i64 (y - rb))).drew.heap.size := by simpa using hszX
                    have t0 : (wX.setCell ⟨g, k, none⟩ (.int .i64 (y - rb))).drew.cell? ⟨g, k, none⟩ = some (.int .i64 (y - rb)) := by
                      have hka : k < acc.length := by rw [hal.out]; exact hlt
                      rw [hownY.out.cellAt k (by omega), List.getElem?_set_self (by simpa using hka)]
                    have tf0 : (wX.setCell ⟨g, k, none⟩ (.int .i64 (y - rb))).drew.frozen? ⟨g, k, none⟩ = false := hownY.out.frozenAt k
                    have t1 : (wX.setCell ⟨g, k, none⟩ (.int .i64 (y - rb))).drew.cell? ⟨w4.heap.size, 2, none⟩ = some (.int .i64 rb) := (World.cell?_setCell_other _ _ _ _ (by simp <;> omega)).trans s1
                    have t2 : (wX.setCell ⟨g, k, none⟩ (.int .i64 (y - rb))).drew.cell? ⟨b5, off5 + k, none⟩ = some (.int .i64 (xn : Int)) := (World.cell?_setCell_other _ _ _ _ (by simp <;> omega)).trans s2
                    have t3 : (wX.setCell ⟨g, k, none⟩ (.int .i64 (y - rb))).drew.cell? ⟨b3, off3 + xn * 5 + 4, none⟩ = some (.int .i64 lc) := (World.cell?_setCell_other _ _ _ _ (by simp <;> omega)).trans s3
                    generalize (wX.setCell ⟨g, k, none⟩ (.int .i64 (y - rb))).drew = wY at hbwY hownY hszY t0 tf0 t1 t2 t3 ⊢
                    clear s0 sf0 s1 s2 s3 hbwX hownX hszX
                    go_region
                    have hbwE : Below w.heap.size w (wY.setCell ⟨g, k, none⟩ (.int .i64 (y - rb - lc))).drew := (hbwY.setCell (by simp; omega) _).drew
                    have hownE := Lib.hid (hownY.out.stored k (.int .i64 (y - rb - lc)))
                    have s1E : (wY.setCell ⟨g, k, none⟩ (.int .i64 (y - rb - lc))).drew.cell? ⟨w4.heap.size, 2, none⟩ = some (.int .i64 rb) := (World.cell?_setCell_other _ _ _ _ (by simp <;> omega)).trans t1
                    have hlenE := Lib.hid (show (acc.set k (y - rb - lc)).length = ps.length from by rw [List.length_set]; exact hal.out)
                    have habE := Lib.hid (show ∀ i, k + 1 ≤ i → 0 ≤ (acc.set k (y - rb - lc)).getD i 0 ∧ (acc.set k (y - rb - lc)).getD i 0 ≤ 1000000 from fun i hi => by
                      have := hab.out i (by omega)
                      rw [List.getD_eq_getElem?_getD, List.getElem?_set_ne (by omega), ← List.getD_eq_getElem?_getD]; exact this)
                    clear t0 tf0 t1 t2 t3
                    go_wp2
                    go_roundw
                    case rel => exact ⟨k + 1, acc.set k (y - rb - lc), by omega, by go_num, hlenE, habE, hbwE, by simpa using hszY, s1E, by rw [set_map]; have := hownE.out.1; rw [List.set_set] at this; exact this, hone⟩
                    case measure => simp [intOf]; omega
                · have hfin4 := Lib.hid (show postRes rs zs ls ⟨cls, country, origin, ps⟩ plan = (acc, 0) from by
                    rw [hfin3.out, hrl.out, List.drop_of_length_le (by omega), postGo_nil])
                  have hown' := Lib.hid hown
                  clear hown
                  go_wp2
                  go_ret2
                  refine ⟨_, by rw [hfin4.out]; rfl, ?_, hbw⟩
                  rw [hfin4.out]
                  show wr.ownsRow w.heap.size 3 1 _ acc.length (acc.map (Value.int .i64))
                  rw [hal.out]
                  exact hown'.out.mono (by omega)
      · have h3' : ((plan.length : Int) != (ps.length : Int)) = true := by simp; omega
        have hfin := Lib.hid (show postRes rs zs ls ⟨cls, country, origin, ps⟩ plan = ([], 2) from by rw [postRes, if_pos (.inr (.inr h3))])
        clear h3
        go_wp2
        go_ret2
        exact IntsRes.none_ (by rw [hfin.out]; rfl) (by rw [hfin.out]) hbw2
end Go.Proofs.Ythbnbfeolfkkaaa
