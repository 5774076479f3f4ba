/- The walks of LentRate, LentRates, LentTariff. -/
import Derived.Test.YthbnbfeolfkkaaaL26
namespace Go.Proofs.Ythbnbfeolfkkaaa
open Go.RowKit Go.Maps
attribute [local go_sem ↓] Go.wp_at_zero Go.wp_at_succ

theorem LtSteps.form_ {P : Nat → Prop} {w : World} {v : Value} {xs : List Step} (h : LtSteps P w v xs) : ∃ A c, v = .slice A xs.length c := by
  obtain ⟨b, c, e, _⟩ := h
  exact ⟨_, _, e⟩
theorem LtRates.form_ {P : Nat → Prop} {w : World} {v : Value} {xs : List Rate} (h : LtRates P w v xs) : ∃ A c, v = .slice A xs.length c := by
  obtain ⟨b, c, e, _⟩ := h
  exact ⟨_, _, e⟩
theorem LtZones.form_ {P : Nat → Prop} {w : World} {v : Value} {xs : List Zone} (h : LtZones P w v xs) : ∃ A c, v = .slice A xs.length c := by
  obtain ⟨b, c, e, _⟩ := h
  exact ⟨_, _, e⟩
def RateLent (w : World) (r : Rate) (e : Ending) (w' : World) : Prop := ∃ v, e = .returned (.agg #[.int .u8 r.cls, v, .int .i64 r.bar]) ∧ LtSteps (fun b => w.heap.size ≤ b) w' v r.steps ∧ Below w.heap.size w w'
set_option maxHeartbeats 1000000 in
theorem lentRate_any (cl : Int) (v : Value) (ss : List Step) (br : Int) (w : World) (h : InSteps w v ss) (hl : ss.length ≤ 1000000) : Calls Try.prog 73 #[.agg #[.int .u8 cl, v, .int .i64 br]] w (RateLent w ⟨cl, ss, br⟩) := by
  have hh := Lib.hid h
  obtain ⟨A, c, rfl, _, _, hA⟩ := h
  clear hA
  have hW : Below w.heap.size w ((w.alloc (.cells #[.int .u8 cl, .slice A ss.length c, .int .i64 br] 57)).alloc (.cells #[.int .u8 0, .slice none 0 0, .int .i64 0] 57)) := ((Below.refl _ _).alloc (Nat.le_refl _) _).alloc (by simp) _
  have k0 : Blk ((w.alloc (.cells #[.int .u8 cl, .slice A ss.length c, .int .i64 br] 57)).alloc (.cells #[.int .u8 0, .slice none 0 0, .int .i64 0] 57)) w.heap.size 57 #[.int .u8 cl, .slice A ss.length c, .int .i64 br] := (Blk.new _ _ _).alloc _
  have k1 : Blk ((w.alloc (.cells #[.int .u8 cl, .slice A ss.length c, .int .i64 br] 57)).alloc (.cells #[.int .u8 0, .slice none 0 0, .int .i64 0] 57)) (w.heap.size + 1) 57 #[.int .u8 0, .slice none 0 0, .int .i64 0] := Blk.new_at _ _ _ _ (by simp)
  go_enter Try.func73, Try.ntmps73
  go_wp2_with fail
  refine (lentSteps_any _ ss _ (hh.out.stays (Stays.of hW)) hl).mono ?_
  rintro e w1 ⟨v', rfl, hown, hb1⟩
  generalize (w.alloc (.cells #[.int .u8 cl, .slice A ss.length c, .int .i64 br] 57)).alloc (.cells #[.int .u8 0, .slice none 0 0, .int .i64 0] 57) = W at *
  have hs1 : w.heap.size + 1 < W.heap.size := k1.lt
  have j0 := k0.below hb1 (by omega)
  have j1 := k1.below hb1 (by omega)
  have x0 := j0.cell 0
  have x1 := j0.cell 1
  have x2 := j1.cell 0
  have x3 := j1.cell 1
  have x4 := j0.cell 2
  have x5 := j1.cell 2
  have f4 := j1.frozen 2
  have f1 := j0.frozen 1
  have f2 := j1.frozen 0
  have f3 := j1.frozen 1
  simp at x0 x1 x2 x3 x4 x5
  have hown' := Lib.hid hown
  obtain ⟨A', c', rfl⟩ := hown.form_
  have hj1 := Lib.hid j1
  have hbW := hW.trans (hb1.mono hW.size)
  clear hown j0 j1 k0 k1 hb1 hW
  go_wp2
  refine bodyPost_ret (results_cell_row Try.results73 _ _ _ _ _ (0, 0) _ rfl (((((hj1.out.far (by simp) _).set_ 0 _).set_ 1 _).set_ 2 _) : Blk ((((w1.setCell ⟨w.heap.size, 1, none⟩ (.slice A' ss.length c')).setCell ⟨w.heap.size + 1, 0, none⟩ (.int .u8 cl)).setCell ⟨w.heap.size + 1, 1, none⟩ (.slice A' ss.length c')).setCell ⟨w.heap.size + 1, 2, none⟩ (.int .i64 br)) (w.heap.size + 1) 57 #[.int .u8 cl, .slice A' ss.length c', .int .i64 br]) Try.underlying57 rfl size57) rfl ⟨_, rfl, ?_, ?_⟩
  · exact hown'.out.keep ((((Keeps.set_ _ _ _ (by simp; omega)).trans (Keeps.set_ _ _ _ (by simp; omega))).trans (Keeps.set_ _ _ _ (by simp; omega))).trans (Keeps.set_ _ _ _ (by simp; omega))) fun b _ hp => by omega
  · exact (((hbW.setCell (by simp) _).setCell (by simp) _).setCell (by simp) _).setCell (by simp) _
def RatesLent (w : World) (ss : List Rate) (e : Ending) (w' : World) : Prop := ∃ v, e = .returned v ∧ LtRates (fun b => w.heap.size ≤ b) w' v ss ∧ Below w.heap.size w w'
set_option maxHeartbeats 2000000 in
theorem lentRates_any (v : Value) (ss : List Rate) (w : World) (h : InRates w v ss) (hl : ss.length ≤ 1000000) (hs : ∀ r ∈ ss, r.steps.length ≤ 1000000) : Calls Try.prog 53 #[v] w (RatesLent w ss) := by
  obtain ⟨A, c, rfl, _, _, hA⟩ := h
  obtain ⟨i0, hi0, hz0, hz1, hz2⟩ := info_parts rate_info
  obtain ⟨wM, hmk, hownM, hgrM⟩ := run_make_own (P := Try.prog) w w.heap.size 22 57 i0 _ 3 Try.underlying22 hi0 hz0 hz1 .i64 .i64 (ss.length + 12) (by rw [hz2]; omega) (by unfold maxLen; omega) (Nat.le_refl _)
  rw [show ((ss.length + 12 : Nat) : Int) = (ss.length : Int) + 12 from by omega] at hmk
  have hbM : Below w.heap.size w wM := (Below.refl _ _).grown hgrM (Nat.le_refl _) (fun _ e => by cases e)
  have hl3 : (ss.length : Int) ≤ 1000000 := by omega
  have hH : Hid (∀ i (hi : i < ss.length), ∃ b off, A = some ⟨b, off, none⟩ ∧ b < w.heap.size ∧ InRate w b (off + i * 3) ss[i]) := Lib.hid fun i hi => by
    obtain ⟨b, off, e, hb, hR⟩ := hA (by omega)
    have this : InRate w b (off + i * 3) (ss.getD i Rate.zero) := hR i hi
    rw [getD_of ss Rate.zero i hi] at this
    exact ⟨b, off, e, hb, this⟩
  have own0 : Hid (OwnL 57 3 rateLtCells rateLtIn w.heap.size wM (.slice (some ⟨w.heap.size, 0, none⟩) 0 (ss.length + 12)) (([] : List (Rate × Value)).map Sum.inl)) := Lib.hid ⟨by simpa using hownM, fun _ hp => by cases hp⟩
  have hS := Lib.hid hs
  clear hA hownM hgrM hs
  go_enter Try.func53, Try.ntmps53
  go_wp2
  clear hmk
  go_loopw [3, 4] (fun ov iv wr => ∃ (i g cap : Nat) (sps : List (Rate × Value)), i ≤ ss.length ∧ iv = .int .i64 i ∧ ov = .slice (some ⟨g, 0, none⟩) i cap ∧ Below w.heap.size w wr ∧ Hid (OwnL 57 3 rateLtCells rateLtIn w.heap.size wr ov (sps.map Sum.inl)) ∧ Hid (sps.map (·.1) = ss.take i))
    (fun _ iv _ => ss.length - (intOf iv).toNat)
  case atStart => exact ⟨0, _, _, [], by omega, rfl, rfl, hbM, own0, rfl⟩
  case round =>
    obtain ⟨i, g, cap, sps, hi, rfl, rfl, hbr, hown', hmap⟩ := hrel
    rename World => wr
    have hsl2 : Hid (sps.length = i) := Lib.hid (by have := congrArg List.length hmap.out; simp at this; omega)
    by_cases hlt : i < ss.length
    · obtain ⟨b, off, rfl, hb, hI0⟩ := hH.out i hlt
      obtain ⟨s0, ⟨cv, s1, hI⟩, s2, hb0, hb1x⟩ := hI0.stays (Stays.of hbr) hb
      have hcc := hS.out ss[i] (List.getElem_mem hlt)
      have htake : ss.take (i + 1) = ss.take i ++ [ss[i]] := List.take_succ_eq_append_getElem hlt
      have hT := Lib.hid htake
      clear htake hI0
      generalize ss[i] = s at *
      obtain ⟨cl, cs, br⟩ := s
      simp only at hcc
      have hI2 := Lib.hid hI
      obtain ⟨A2, c2, rfl, _, _, hA2⟩ := hI
      clear hA2
      have hlt' : decide ((i : Int) < (ss.length : Int)) = true := by simp; omega
      have n0 : (0 : Int) ≤ (i : Int) := by omega
      have hgl := (hown'.out.1.lt g rfl).2
      simp only at s0 s1 s2 hb0 hb1x
      go_wp2_with fail
      refine (lentRate_any _ _ cs _ _ hI2.out hcc).mono ?_
      rintro e w1 ⟨v1, rfl, hown1, hb1⟩
      have ho1 := Lib.hid hown1
      obtain ⟨A5, c5, rfl⟩ := hown1.form_
      simp only at ho1 ⊢
      clear hown1
      have hw1 : Below wr.heap.size wr ((w1.alloc (.cells #[.int .u8 cl, (.slice A5 cs.length c5), .int .i64 br] 57)).alloc (.cells #[.int .u8 cl, (.slice A5 cs.length c5), .int .i64 br] 57)) := (hb1.alloc hb1.size _).alloc (by have := hb1.size; simp; omega) _
      have hin : rateLtIn (fun b => w.heap.size ≤ b ∧ some b ≠ (Value.slice (some ⟨g, 0, none⟩) i cap).ownBlock) ((w1.alloc (.cells #[.int .u8 cl, (.slice A5 cs.length c5), .int .i64 br] 57)).alloc (.cells #[.int .u8 cl, (.slice A5 cs.length c5), .int .i64 br] 57)) (.inl (⟨cl, cs, br⟩, (.slice A5 cs.length c5))) := by
        refine ⟨LtSteps.keep ho1.out (Keeps.of_below (((Below.refl _ _).alloc (Nat.le_refl _) _).alloc (by simp) _) _) fun b hb hp => ⟨by have := hbr.size; omega, fun e => by simp [Value.ownBlock] at e; omega⟩, hb0, hb1x⟩
      have hoA := Lib.hid (hown'.out.keep rateLtIn_inner (Keeps.of_below hw1 _))
      have sd1 : i + 1 ≤ maxLen := by unfold maxLen; omega
      have sd4 : (i + 1) * 40 ≤ 140737488355328 := by omega
      have hoA1 : Hid (((w1.alloc (.cells #[.int .u8 cl, (.slice A5 cs.length c5), .int .i64 br] 57)).alloc (.cells #[.int .u8 cl, (.slice A5 cs.length c5), .int .i64 br] 57)).ownsRow w.heap.size 57 3 (.slice (some ⟨g, 0, none⟩) i cap) i ((sps.map Sum.inl).flatMap rateLtCells)) := Lib.hid (by have := hoA.out.1; rw [List.length_map, hsl2.out] at this; exact this)
      have hs1 := hb1.size
      have hs0 := hbr.size
      go_wp2_with (at_builtin; refine wpList_append_lies _ rfl (.tmp 22) (.tmp 24) 22 rfl w.heap.size 57 i0 (.agg #[.int .u8 0, .slice none 0 0, .int .i64 0]) 3 40 Try.underlying22 hi0 hz0 hz1 hz2 rfl (by decide) (.slice (some ⟨g, 0, none⟩) i cap) i _ rfl (by exact hoA1.out) ⟨w1.heap.size + 1, 0, none⟩ 1 1 [.int .u8 cl, (.slice A5 cs.length c5), .int .i64 br] rfl rfl (by exact World.news_of_block (cs := #[.int .u8 cl, (.slice A5 cs.length c5), .int .i64 br]) (Blk.new_at _ _ _ _ (by simp))) (one3 rfl rfl rfl) Nat.one_pos sd1 sd4 (by simp; omega) (w1.heap.size + 1 + 1) (by simp) ?_; intro g2 cap2 w2 hown2 hgr2 hat2 hlt2)
      have hR := slot_append rateLtIn_inner (a := Sum.inl (⟨cl, cs, br⟩, .slice A5 cs.length c5)) hbr hown'.out hw1 (Nat.le_refl _) hbr.size hin hown2 (by simp [hsl2.out]) hgr2 (hat2.imp_right (fun e => by simp [e]))
      have hR2 : Hid (OwnL 57 3 rateLtCells rateLtIn w.heap.size w2 (.slice (some ⟨g2, 0, none⟩) (i + 1) cap2) ((sps ++ [((⟨cl, cs, br⟩ : Rate), Value.slice A5 cs.length c5)]).map Sum.inl)) := Lib.hid (by rw [List.map_append]; exact hR.2)
      have hR1 := hR.1
      have hmap2 : Hid ((sps ++ [((⟨cl, cs, br⟩ : Rate), Value.slice A5 cs.length c5)]).map (·.1) = ss.take (i + 1)) := by
        rw [hT.out, ← hmap.out]
        simp [Hid]
      clear hR hown2 hgr2 hat2 hlt2 hoA hoA1
      go_roundw
      case rel => exact ⟨i + 1, g2, cap2, _, by omega, by go_num, rfl, hR1, hR2, hmap2⟩
      case measure => simp [intOf]; omega
    · obtain rfl : i = ss.length := by omega
      have hlt' : decide ((ss.length : Int) < (ss.length : Int)) = false := by simp
      have hm' : Hid (sps.map (·.1) = ss) := Lib.hid (by rw [hmap.out]; exact List.take_of_length_le (by omega))
      clear hmap hH own0 hbM
      go_wp2_with fail
      go_loopw [3, 6] (fun ov iv wr => ∃ (j g cap : Nat), j ≤ 12 ∧ iv = .int .i64 j ∧ ov = .slice (some ⟨g, 0, none⟩) (ss.length + j) cap ∧ Below w.heap.size w wr ∧ Hid (OwnL 57 3 rateLtCells rateLtIn w.heap.size wr ov (sps.map Sum.inl ++ (marks j).map Sum.inr)))
        (fun _ iv _ => 12 - (intOf iv).toNat)
      case atStart => exact ⟨0, g, cap, by omega, rfl, rfl, hbr, by simpa [marks] using hown'⟩
      case round =>
        obtain ⟨j, g, cap, hj, rfl, rfl, hbr, hown⟩ := hrel
        rename World => wr
        by_cases hlt : j < 12
        · have n0 : (0 : Int) ≤ (j : Int) := by omega
          have n1 : (j : Int) < 12 := by omega
          have sd1 : ss.length + j + 1 ≤ maxLen := by unfold maxLen; omega
          have sd4 : (ss.length + j + 1) * 40 ≤ 140737488355328 := by omega
          have hs0 := hbr.size
          go_wp2_with fail
          refine (markRate_any j _ hlt).mono ?_
          rintro e w2 ⟨rfl, hb2⟩
          have hw2 : Below wr.heap.size wr (w2.alloc (.cells #[.int .u8 0, .slice none 0 0, .int .i64 (mk j)] 57)) := hb2.alloc hb2.size _
          have hoA1 : Hid ((w2.alloc (.cells #[.int .u8 0, .slice none 0 0, .int .i64 (mk j)] 57)).ownsRow w.heap.size 57 3 (.slice (some ⟨g, 0, none⟩) (ss.length + j) cap) (ss.length + j) ((sps.map Sum.inl ++ (marks j).map Sum.inr).flatMap rateLtCells)) := Lib.hid (by have := (hown.out.keep rateLtIn_inner (Keeps.of_below hw2 _)).1; rw [List.length_append, List.length_map, List.length_map, marks_len, hsl2.out] at this; exact this)
          have hsz2 := hb2.size
          go_wp2_with (at_builtin; refine wpList_append_lies _ rfl (.tmp 30) (.tmp 33) 22 rfl w.heap.size 57 i0 (.agg #[.int .u8 0, .slice none 0 0, .int .i64 0]) 3 40 Try.underlying22 hi0 hz0 hz1 hz2 rfl (by decide) (.slice (some ⟨g, 0, none⟩) (ss.length + j) cap) (ss.length + j) _ rfl (by exact hoA1.out) ⟨w2.heap.size, 0, none⟩ 1 1 [.int .u8 0, .slice none 0 0, .int .i64 (mk j)] rfl rfl (by exact World.news_of_block (cs := #[.int .u8 0, .slice none 0 0, .int .i64 (mk j)]) (heap_alloc_new _ _)) (one3 rfl rfl rfl) Nat.one_pos sd1 sd4 (by simp; omega) (w2.heap.size + 1) (by simp) ?_; intro g2 cap2 w3 hown2 hgr2 hat2 hlt2)
          have hR := slot_append rateLtIn_inner (a := Sum.inr j) hbr hown.out hw2 (Nat.le_refl _) hbr.size (by trivial) hown2 (by simp [hsl2.out, marks_len]) hgr2 (hat2.imp_right (fun e => by simp [e]))
          have hR2 : Hid (OwnL 57 3 rateLtCells rateLtIn w.heap.size w3 (.slice (some ⟨g2, 0, none⟩) (ss.length + (j + 1)) cap2) (sps.map Sum.inl ++ (marks (j + 1)).map Sum.inr)) := Lib.hid (by rw [marks_succ, List.map_append, ← List.append_assoc, ← Nat.add_assoc]; exact hR.2)
          have hR1 := hR.1
          rw [Nat.add_assoc]
          clear hR hown2 hgr2 hat2 hlt2 hoA1
          go_roundw
          case rel => exact ⟨j + 1, g2, cap2, by omega, by go_num, rfl, hR1, hR2⟩
          case measure => simp [intOf]; omega
        · obtain rfl : j = 12 := by omega
          obtain ⟨g', cap', e, hg1, hg2, hg3, hg4⟩ := ownsRow_some hown.out.1 (fun e => by cases e)
          rw [List.length_append, List.length_map, List.length_map, marks_len, hsl2.out] at hg3
          injection e with e1 _ e3
          injection e1 with e1
          injection e1 with e1
          subst e1 e3
          have i1 : (ss.length : Int) ≤ (cap : Int) := by omega
          have i2 : (cap : Int) ≤ 9223372036854775807 := by unfold maxLen at hg4; omega
          go_wp2
          go_ret
          have hfin := lent_rates hown.out
          rw [hm'.out, hsl2.out] at hfin
          exact ⟨_, rfl, hfin, hbr⟩
/-- a tariff that is lent -/
def TariffLent (w : World) (rs : List Rate) (zs : List Zone) (e : Ending) (w' : World) : Prop :=
  ∃ rv zv, e = .returned (.agg #[rv, zv]) ∧ LtRates (fun _ => True) w' rv rs ∧ LtZones (fun _ => True) w' zv zs ∧ Below w.heap.size w w'
set_option maxHeartbeats 2000000 in
theorem lentTariff_any (rv zv : Value) (rs : List Rate) (zs : List Zone) (w : World) (h : InRates w rv rs) (hz : IsZones w zv zs) (hn : NilOk zv) (hl : rs.length ≤ 1000000) (hc : ∀ r ∈ rs, r.steps.length ≤ 1000000) (hlz : zs.length ≤ 1000000) :
    Calls Try.prog 34 #[.agg #[rv, zv]] w (TariffLent w rs zs) := by
  have hh := Lib.hid h
  have hhz := Lib.hid hz
  have hcc := Lib.hid hc
  obtain ⟨A, c, rfl, _, _, hA⟩ := h
  obtain ⟨B, d, rfl, _, _, hB⟩ := hz
  have hnn := Lib.hid hn
  clear hA hB hc hn
  have hW : Below w.heap.size w ((w.alloc (.cells #[.slice A rs.length c, .slice B zs.length d] 25)).alloc (.cells #[.slice none 0 0, .slice none 0 0] 25)) := ((Below.refl _ _).alloc (Nat.le_refl _) _).alloc (by simp) _
  have k0 : Blk ((w.alloc (.cells #[.slice A rs.length c, .slice B zs.length d] 25)).alloc (.cells #[.slice none 0 0, .slice none 0 0] 25)) w.heap.size 25 #[.slice A rs.length c, .slice B zs.length d] := (Blk.new _ _ _).alloc _
  have k1 : Blk ((w.alloc (.cells #[.slice A rs.length c, .slice B zs.length d] 25)).alloc (.cells #[.slice none 0 0, .slice none 0 0] 25)) (w.heap.size + 1) 25 #[.slice none 0 0, .slice none 0 0] := Blk.new_at _ _ _ _ (by simp)
  go_enter Try.func34, Try.ntmps34
  go_wp2_with fail
  refine (lentRates_any _ rs _ (hh.out.stays (Stays.of hW)) hl hcc.out).mono ?_
  rintro e w1 ⟨v', rfl, hown, hb1⟩
  generalize (w.alloc (.cells #[.slice A rs.length c, .slice B zs.length d] 25)).alloc (.cells #[.slice none 0 0, .slice none 0 0] 25) = W at *
  have hs1 : w.heap.size + 1 < W.heap.size := k1.lt
  have j0 := k0.below hb1 (by omega)
  have j1 := k1.below hb1 (by omega)
  have x0 := j0.cell 0
  have x1 := j0.cell 1
  have f0 := j0.frozen 0
  simp at x0 x1
  have hown' := Lib.hid hown
  obtain ⟨A', c', rfl⟩ := hown.form_
  clear hown k0 k1
  have hj0 := Lib.hid (j0.set_ 0 (.slice A' rs.length c'))
  have hj1 := Lib.hid (j1.far (p := ⟨w.heap.size, 0, none⟩) (by simp) (.slice A' rs.length c'))
  clear j0 j1
  have hbW := hW.trans (hb1.mono hW.size)
  have hbS := hbW.setCell (p := ⟨w.heap.size, 0, none⟩) (by simp) (.slice A' rs.length c')
  have hsz := hb1.size
  go_wp2_with fail
  refine (lentZones_any _ zs _ (hhz.out.stays (Stays.of hbS)) hnn.out hlz).mono ?_
  rintro e w2 ⟨v2, rfl, hown2, hb2⟩
  obtain ⟨A2, c2, hv2⟩ := hown2.form_
  subst hv2
  have ho1 := Lib.hid (hown'.out.keep (Q := fun b => W.heap.size ≤ b) (Keeps.set_ _ ⟨w.heap.size, 0, none⟩ (.slice A' rs.length c') (by simp; omega)) fun _ _ h => h)
  have hsz2 : (w1.setCell ⟨w.heap.size, 0, none⟩ (.slice A' rs.length c')).heap.size = w1.heap.size := by simp [World.setCell]
  generalize w1.setCell ⟨w.heap.size, 0, none⟩ (.slice A' rs.length c') = w3 at *
  have hs3 : W.heap.size ≤ w3.heap.size := by omega
  have hs3' := Lib.hid hsz2
  clear hsz2
  have i0 := hj0.out.below hb2 (by omega)
  have i1 := hj1.out.below hb2 (by omega)
  have y0 := i0.cell 0
  have y1 := i0.cell 1
  have y2 := i1.cell 0
  have y3 := i1.cell 1
  have g1 := i0.frozen 1
  have g2 := i1.frozen 0
  have g3 := i1.frozen 1
  simp at y0 y1 y2 y3
  have hi0 := Lib.hid i0
  have hi1 := Lib.hid i1
  have ho2 := Lib.hid hown2
  have hsz4 := hb2.size
  have hbX := hbS.trans (hb2.mono (by omega))
  clear i0 i1 hown2 hj0 hj1
  go_wp2
  refine bodyPost_ret (results_cell_row Try.results34 _ _ _ _ _ (0, 0) _ rfl ((((hi1.out.far (by simp) _).set_ 0 _).set_ 1 _) : Blk (((w2.setCell ⟨w.heap.size, 1, none⟩ (.slice A2 zs.length c2)).setCell ⟨w.heap.size + 1, 0, none⟩ (.slice A' rs.length c')).setCell ⟨w.heap.size + 1, 1, none⟩ (.slice A2 zs.length c2)) (w.heap.size + 1) 25 #[.slice A' rs.length c', .slice A2 zs.length c2]) Try.underlying25 rfl size25) rfl ?_
  have hkk : Keeps (fun b => W.heap.size ≤ b) w2 (((w2.setCell ⟨w.heap.size, 1, none⟩ (.slice A2 zs.length c2)).setCell ⟨w.heap.size + 1, 0, none⟩ (.slice A' rs.length c')).setCell ⟨w.heap.size + 1, 1, none⟩ (.slice A2 zs.length c2)) := ((Keeps.set_ _ _ _ (by simp; omega)).trans (Keeps.set_ _ _ _ (by simp; omega))).trans (Keeps.set_ _ _ _ (by simp; omega))
  refine ⟨_, _, rfl, ?_, ?_, ?_⟩
  · exact (ho1.out.keep (Keeps.of_below hb2 _) (Q := fun b => W.heap.size ≤ b) fun _ _ h => h).keep hkk fun _ _ _ => trivial
  · exact ho2.out.keep (Q := fun _ => True) ⟨hkk.size, fun b hb hp => hkk.block b hb (by omega)⟩ fun _ _ _ => trivial
  · exact ((hbX.setCell (by simp) _).setCell (by simp) _).setCell (by simp) _
end Go.Proofs.Ythbnbfeolfkkaaa
