/- The walks of LentStep, LentSteps. -/
import Derived.Test.YthbnbfeolfkkaaaL25
namespace Go.Proofs.Ythbnbfeolfkkaaa
open Go.RowKit Go.Maps
attribute [local go_sem ↓] Go.wp_at_zero Go.wp_at_succ

/-- a step that came in -/
def InStep (w : World) (b o : Nat) (s : Step) : Prop := w.cell? ⟨b, o, none⟩ = some (.int .i64 s.grams) ∧ ∃ cv, w.cell? ⟨b, o + 1, none⟩ = some cv ∧ IsInts w cv s.cents ∧ NilOk cv ∧ s.cents.length * 8 ≤ 140737488351232
def InSteps (w : World) (v : Value) (ss : List Step) : Prop := Sl w v ss.length fun b off i => InStep w b (off + i * 2) (ss.getD i Step.zero)
def InRate (w : World) (b o : Nat) (r : Rate) : Prop :=
  w.cell? ⟨b, o, none⟩ = some (.int .u8 r.cls) ∧ (∃ sv, w.cell? ⟨b, o + 1, none⟩ = some sv ∧ InSteps w sv r.steps) ∧ w.cell? ⟨b, o + 2, none⟩ = some (.int .i64 r.bar) ∧ 0 ≤ r.cls ∧ r.cls ≤ 255
def InRates (w : World) (v : Value) (rs : List Rate) : Prop := Sl w v rs.length fun b off i => InRate w b (off + i * 3) (rs.getD i Rate.zero)
theorem InStep.stays {w w' : World} {b o : Nat} {s : Step} (h : InStep w b o s) (hs : Stays w w') (hb : b < w.heap.size) : InStep w' b o s := by
  obtain ⟨h1, cv, h2, h3, h4⟩ := h
  exact ⟨(hs.2 _ hb).trans h1, cv, (hs.2 _ hb).trans h2, h3.stays hs, h4⟩
theorem InSteps.stays {w w' : World} {v : Value} {ss : List Step} (h : InSteps w v ss) (hs : Stays w w') : InSteps w' v ss := Sl.stays h hs fun _ _ _ hb _ hc => hc.stays hs hb
theorem InRate.stays {w w' : World} {b o : Nat} {r : Rate} (h : InRate w b o r) (hs : Stays w w') (hb : b < w.heap.size) : InRate w' b o r := by
  obtain ⟨h1, ⟨sv, h2, h3⟩, h4, h5⟩ := h
  exact ⟨(hs.2 _ hb).trans h1, ⟨sv, (hs.2 _ hb).trans h2, h3.stays hs⟩, (hs.2 _ hb).trans h4, h5⟩
theorem InRates.stays {w w' : World} {v : Value} {rs : List Rate} (h : InRates w v rs) (hs : Stays w w') : InRates w' v rs := Sl.stays h hs fun _ _ _ hb _ hc => hc.stays hs hb
theorem InSteps.steps {w : World} {v : Value} {ss : List Step} (h : InSteps w v ss) : IsSteps w v ss := Sl.stays h (Stays.refl w) fun _ _ _ _ _ ⟨h1, cv, h2, h3, _⟩ => ⟨h1, cv, h2, h3⟩
theorem InRates.rates {w : World} {v : Value} {rs : List Rate} (h : InRates w v rs) : IsRates w v rs := Sl.stays h (Stays.refl w) fun _ _ _ _ _ ⟨h1, ⟨sv, h2, h3⟩, h4⟩ => ⟨h1, ⟨sv, h2, h3.steps⟩, h4⟩
def StepLent (w : World) (s : Step) (e : Ending) (w' : World) : Prop := ∃ v, e = .returned (.agg #[.int .i64 s.grams, v]) ∧ LtInts (fun b => w.heap.size ≤ b) w' v s.cents ∧ Below w.heap.size w w'
theorem LtInts.form_ {P : Nat → Prop} {w : World} {v : Value} {xs : List Int} (h : LtInts P w v xs) : ∃ A c, v = .slice A xs.length c := by
  obtain ⟨b, c, e, _⟩ := h
  exact ⟨_, _, e⟩
set_option maxHeartbeats 1000000 in
theorem lentStep_any (g : Int) (v : Value) (xs : List Int) (w : World) (h : IsInts w v xs) (hn : NilOk v) (hl : xs.length * 8 ≤ 140737488351232) : Calls Try.prog 98 #[.agg #[.int .i64 g, v]] w (StepLent w ⟨g, xs⟩) := by
  have hh := Lib.hid h
  have hn' := Lib.hid hn
  have hl' := Lib.hid hl
  obtain ⟨A, c, rfl, _, _, hA⟩ := h
  clear hA hn hl
  have hW : Below w.heap.size w ((w.alloc (.cells #[.int .i64 g, .slice A xs.length c] 61)).alloc (.cells #[.int .i64 0, .slice none 0 0] 61)) := ((Below.refl _ _).alloc (Nat.le_refl _) _).alloc (by simp) _
  have k0 : Blk ((w.alloc (.cells #[.int .i64 g, .slice A xs.length c] 61)).alloc (.cells #[.int .i64 0, .slice none 0 0] 61)) w.heap.size 61 #[.int .i64 g, .slice A xs.length c] := (Blk.new _ _ _).alloc _
  have k1 : Blk ((w.alloc (.cells #[.int .i64 g, .slice A xs.length c] 61)).alloc (.cells #[.int .i64 0, .slice none 0 0] 61)) (w.heap.size + 1) 61 #[.int .i64 0, .slice none 0 0] := Blk.new_at _ _ _ _ (by simp)
  go_enter Try.func98, Try.ntmps98
  go_wp2_with fail
  refine (lentInts_any _ xs _ (hh.out.stays (Stays.of hW)) hn'.out hl'.out).mono ?_
  rintro e w1 ⟨v', rfl, hown, hb1⟩
  generalize (w.alloc (.cells #[.int .i64 g, .slice A xs.length c] 61)).alloc (.cells #[.int .i64 0, .slice none 0 0] 61) = W at *
  have hs1 : w.heap.size + 1 < W.heap.size := k1.lt
  have j0 := k0.below hb1 (by omega)
  have j1 := k1.below hb1 (by omega)
  have x0 := j0.cell 0
  have x1 := j0.cell 1
  have x2 := j1.cell 0
  have x3 := j1.cell 1
  have f1 := j0.frozen 1
  have f2 := j1.frozen 0
  have f3 := j1.frozen 1
  simp at x0 x1 x2 x3
  have hown' := Lib.hid hown
  obtain ⟨A', c', rfl⟩ := hown.form_
  have hj1 := Lib.hid j1
  have hbW := hW.trans (hb1.mono hW.size)
  clear hown j0 j1 k0 k1 hb1 hW
  go_wp2
  refine bodyPost_ret (results_cell_row Try.results98 _ _ _ _ _ (0, 0) _ rfl ((((hj1.out.far (by simp) _).set_ 0 _).set_ 1 _) : Blk (((w1.setCell ⟨w.heap.size, 1, none⟩ (.slice A' xs.length c')).setCell ⟨w.heap.size + 1, 0, none⟩ (.int .i64 g)).setCell ⟨w.heap.size + 1, 1, none⟩ (.slice A' xs.length c')) (w.heap.size + 1) 61 #[.int .i64 g, .slice A' xs.length c']) Try.underlying61 rfl size61) rfl ⟨_, rfl, ?_, ?_⟩
  · exact hown'.out.keep (((Keeps.set_ _ _ _ (by simp; omega)).trans (Keeps.set_ _ _ _ (by simp; omega))).trans (Keeps.set_ _ _ _ (by simp; omega))) fun b _ hp => by omega
  · exact ((hbW.setCell (by simp) _).setCell (by simp) _).setCell (by simp) _
def StepsLent (w : World) (ss : List Step) (e : Ending) (w' : World) : Prop := ∃ v, e = .returned v ∧ LtSteps (fun b => w.heap.size ≤ b) w' v ss ∧ Below w.heap.size w w'
set_option maxHeartbeats 2000000 in
theorem lentSteps_any (v : Value) (ss : List Step) (w : World) (h : InSteps w v ss) (hl : ss.length ≤ 1000000) : Calls Try.prog 88 #[v] w (StepsLent w ss) := by
  obtain ⟨A, c, rfl, _, _, hA⟩ := h
  obtain ⟨i0, hi0, hz0, hz1, hz2⟩ := info_parts step_info
  obtain ⟨wM, hmk, hownM, hgrM⟩ := run_make_own (P := Try.prog) w w.heap.size 55 61 i0 _ 2 Try.underlying55 hi0 hz0 hz1 .i64 .i64 (ss.length + 12) (by rw [hz2]; omega) (by unfold maxLen; omega) (Nat.le_refl _)
  rw [show ((ss.length + 12 : Nat) : Int) = (ss.length : Int) + 12 from by omega] at hmk
  have hbM : Below w.heap.size w wM := (Below.refl _ _).grown hgrM (Nat.le_refl _) (fun _ e => by cases e)
  have hl3 : (ss.length : Int) ≤ 1000000 := by omega
  have hH : Hid (∀ i (hi : i < ss.length), ∃ b off, A = some ⟨b, off, none⟩ ∧ b < w.heap.size ∧ InStep w b (off + i * 2) ss[i]) := Lib.hid fun i hi => by
    obtain ⟨b, off, e, hb, hR⟩ := hA (by omega)
    have this : InStep w b (off + i * 2) (ss.getD i Step.zero) := hR i hi
    rw [getD_of ss Step.zero i hi] at this
    exact ⟨b, off, e, hb, this⟩
  have own0 : Hid (OwnL 61 2 stepLtCells stepLtIn w.heap.size wM (.slice (some ⟨w.heap.size, 0, none⟩) 0 (ss.length + 12)) (([] : List (Step × Value)).map Sum.inl)) := Lib.hid ⟨by simpa using hownM, fun _ hp => by cases hp⟩
  clear hA hownM hgrM
  go_enter Try.func88, Try.ntmps88
  go_wp2
  clear hmk
  go_loopw [3, 4] (fun ov iv wr => ∃ (i g cap : Nat) (sps : List (Step × Value)), i ≤ ss.length ∧ iv = .int .i64 i ∧ ov = .slice (some ⟨g, 0, none⟩) i cap ∧ Below w.heap.size w wr ∧ Hid (OwnL 61 2 stepLtCells stepLtIn w.heap.size wr ov (sps.map Sum.inl)) ∧ Hid (sps.map (·.1) = ss.take i))
    (fun _ iv _ => ss.length - (intOf iv).toNat)
  case atStart => exact ⟨0, _, _, [], by omega, rfl, rfl, hbM, own0, rfl⟩
  case round =>
    obtain ⟨i, g, cap, sps, hi, rfl, rfl, hbr, hown', hmap⟩ := hrel
    rename World => wr
    have hsl2 : Hid (sps.length = i) := Lib.hid (by have := congrArg List.length hmap.out; simp at this; omega)
    by_cases hlt : i < ss.length
    · obtain ⟨b, off, rfl, hb, hI0⟩ := hH.out i hlt
      obtain ⟨s0, cv, s1, hI, hnk, hcl⟩ := hI0.stays (Stays.of hbr) hb
      have htake : ss.take (i + 1) = ss.take i ++ [ss[i]] := List.take_succ_eq_append_getElem hlt
      have hT := Lib.hid htake
      clear htake hI0
      generalize ss[i] = s at *
      obtain ⟨gr, cs⟩ := s
      have hI2 := Lib.hid hI
      have hnk' := Lib.hid hnk
      have hcl' := Lib.hid hcl
      obtain ⟨A2, c2, rfl, _, _, hA2⟩ := hI
      clear hA2 hnk hcl
      have hlt' : decide ((i : Int) < (ss.length : Int)) = true := by simp; omega
      have n0 : (0 : Int) ≤ (i : Int) := by omega
      have hgl := (hown'.out.1.lt g rfl).2
      simp only at s0 s1
      go_wp2_with fail
      refine (lentStep_any _ _ cs _ hI2.out hnk'.out hcl'.out).mono ?_
      rintro e w1 ⟨v1, rfl, hown1, hb1⟩
      have ho1 := Lib.hid hown1
      obtain ⟨A5, c5, rfl⟩ := hown1.form_
      simp only at ho1 ⊢
      clear hown1
      have hw1 : Below wr.heap.size wr ((w1.alloc (.cells #[.int .i64 gr, (.slice A5 cs.length c5)] 61)).alloc (.cells #[.int .i64 gr, (.slice A5 cs.length c5)] 61)) := (hb1.alloc hb1.size _).alloc (by have := hb1.size; simp; omega) _
      have hin : stepLtIn (fun b => w.heap.size ≤ b ∧ some b ≠ (Value.slice (some ⟨g, 0, none⟩) i cap).ownBlock) ((w1.alloc (.cells #[.int .i64 gr, (.slice A5 cs.length c5)] 61)).alloc (.cells #[.int .i64 gr, (.slice A5 cs.length c5)] 61)) (.inl (⟨gr, cs⟩, (.slice A5 cs.length c5))) := by
        refine LtInts.keep ho1.out (Keeps.of_below (((Below.refl _ _).alloc (Nat.le_refl _) _).alloc (by simp) _) _) fun b hb hp => ⟨by have := hbr.size; omega, fun e => ?_⟩
        simp [Value.ownBlock] at e
        omega
      have hoA := Lib.hid (hown'.out.keep stepLtIn_inner (Keeps.of_below hw1 _))
      have sd1 : i + 1 ≤ maxLen := by unfold maxLen; omega
      have sd4 : (i + 1) * 32 ≤ 140737488355328 := by omega
      have hoA1 : Hid (((w1.alloc (.cells #[.int .i64 gr, (.slice A5 cs.length c5)] 61)).alloc (.cells #[.int .i64 gr, (.slice A5 cs.length c5)] 61)).ownsRow w.heap.size 61 2 (.slice (some ⟨g, 0, none⟩) i cap) i ((sps.map Sum.inl).flatMap stepLtCells)) := Lib.hid (by have := hoA.out.1; rw [List.length_map, hsl2.out] at this; exact this)
      have hs1 := hb1.size
      have hs0 := hbr.size
      go_wp2_with (at_builtin; refine wpList_append_lies _ rfl (.tmp 22) (.tmp 24) 55 rfl w.heap.size 61 i0 (.agg #[.int .i64 0, .slice none 0 0]) 2 32 Try.underlying55 hi0 hz0 hz1 hz2 rfl (by decide) (.slice (some ⟨g, 0, none⟩) i cap) i _ rfl (by exact hoA1.out) ⟨w1.heap.size + 1, 0, none⟩ 1 1 [.int .i64 gr, (.slice A5 cs.length c5)] rfl rfl (by exact World.news_of_block (cs := #[.int .i64 gr, (.slice A5 cs.length c5)]) (Blk.new_at _ _ _ _ (by simp))) (one2 rfl rfl) Nat.one_pos sd1 sd4 (by simp; omega) (w1.heap.size + 1 + 1) (by simp) ?_; intro g2 cap2 w2 hown2 hgr2 hat2 hlt2)
      have hR := slot_append stepLtIn_inner (a := Sum.inl (⟨gr, cs⟩, .slice A5 cs.length c5)) hbr hown'.out hw1 (Nat.le_refl _) hbr.size hin hown2 (by simp [hsl2.out]) hgr2 (hat2.imp_right (fun e => by simp [e]))
      have hR2 : Hid (OwnL 61 2 stepLtCells stepLtIn w.heap.size w2 (.slice (some ⟨g2, 0, none⟩) (i + 1) cap2) ((sps ++ [((⟨gr, cs⟩ : Step), Value.slice A5 cs.length c5)]).map Sum.inl)) := Lib.hid (by rw [List.map_append]; exact hR.2)
      have hR1 := hR.1
      have hmap2 : Hid ((sps ++ [((⟨gr, cs⟩ : Step), Value.slice A5 cs.length c5)]).map (·.1) = ss.take (i + 1)) := by
        rw [hT.out, ← hmap.out]
        simp [Hid]
      clear hR hown2 hgr2 hat2 hlt2 hoA hoA1
      go_roundw
      case rel => exact ⟨i + 1, g2, cap2, _, by omega, by go_num, rfl, hR1, hR2, hmap2⟩
      case measure => simp [intOf]; omega
    · obtain rfl : i = ss.length := by omega
      have hlt' : decide ((ss.length : Int) < (ss.length : Int)) = false := by simp
      have hm' : Hid (sps.map (·.1) = ss) := Lib.hid (by rw [hmap.out]; exact List.take_of_length_le (by omega))
      clear hmap hH own0 hbM
      go_wp2_with fail
      go_loopw [3, 6] (fun ov iv wr => ∃ (j g cap : Nat), j ≤ 12 ∧ iv = .int .i64 j ∧ ov = .slice (some ⟨g, 0, none⟩) (ss.length + j) cap ∧ Below w.heap.size w wr ∧ Hid (OwnL 61 2 stepLtCells stepLtIn w.heap.size wr ov (sps.map Sum.inl ++ (marks j).map Sum.inr)))
        (fun _ iv _ => 12 - (intOf iv).toNat)
      case atStart => exact ⟨0, g, cap, by omega, rfl, rfl, hbr, by simpa [marks] using hown'⟩
      case round =>
        obtain ⟨j, g, cap, hj, rfl, rfl, hbr, hown⟩ := hrel
        rename World => wr
        by_cases hlt : j < 12
        · have n0 : (0 : Int) ≤ (j : Int) := by omega
          have n1 : (j : Int) < 12 := by omega
          have sd1 : ss.length + j + 1 ≤ maxLen := by unfold maxLen; omega
          have sd4 : (ss.length + j + 1) * 32 ≤ 140737488355328 := by omega
          have hs0 := hbr.size
          go_wp2_with fail
          refine (markStep_any j _ hlt).mono ?_
          rintro e w2 ⟨rfl, hb2⟩
          have hw2 : Below wr.heap.size wr (w2.alloc (.cells #[.int .i64 (mk j), .slice none 0 0] 61)) := hb2.alloc hb2.size _
          have hoA1 : Hid ((w2.alloc (.cells #[.int .i64 (mk j), .slice none 0 0] 61)).ownsRow w.heap.size 61 2 (.slice (some ⟨g, 0, none⟩) (ss.length + j) cap) (ss.length + j) ((sps.map Sum.inl ++ (marks j).map Sum.inr).flatMap stepLtCells)) := Lib.hid (by have := (hown.out.keep stepLtIn_inner (Keeps.of_below hw2 _)).1; rw [List.length_append, List.length_map, List.length_map, marks_len, hsl2.out] at this; exact this)
          have hsz2 := hb2.size
          go_wp2_with (at_builtin; refine wpList_append_lies _ rfl (.tmp 30) (.tmp 33) 55 rfl w.heap.size 61 i0 (.agg #[.int .i64 0, .slice none 0 0]) 2 32 Try.underlying55 hi0 hz0 hz1 hz2 rfl (by decide) (.slice (some ⟨g, 0, none⟩) (ss.length + j) cap) (ss.length + j) _ rfl (by exact hoA1.out) ⟨w2.heap.size, 0, none⟩ 1 1 [.int .i64 (mk j), .slice none 0 0] rfl rfl (by exact World.news_of_block (cs := #[.int .i64 (mk j), .slice none 0 0]) (heap_alloc_new _ _)) (one2 rfl rfl) Nat.one_pos sd1 sd4 (by simp; omega) (w2.heap.size + 1) (by simp) ?_; intro g2 cap2 w3 hown2 hgr2 hat2 hlt2)
          have hR := slot_append stepLtIn_inner (a := Sum.inr j) hbr hown.out hw2 (Nat.le_refl _) hbr.size (by trivial) hown2 (by simp [hsl2.out, marks_len]) hgr2 (hat2.imp_right (fun e => by simp [e]))
          have hR2 : Hid (OwnL 61 2 stepLtCells stepLtIn w.heap.size w3 (.slice (some ⟨g2, 0, none⟩) (ss.length + (j + 1)) cap2) (sps.map Sum.inl ++ (marks (j + 1)).map Sum.inr)) := Lib.hid (by rw [marks_succ, List.map_append, ← List.append_assoc, ← Nat.add_assoc]; exact hR.2)
          have hR1 := hR.1
          rw [Nat.add_assoc]
          clear hR hown2 hgr2 hat2 hlt2 hoA1
          go_roundw
          case rel => exact ⟨j + 1, g2, cap2, by omega, by go_num, rfl, hR1, hR2⟩
          case measure => simp [intOf]; omega
        · obtain rfl : j = 12 := by omega
          obtain ⟨g', cap', e, hg1, hg2, hg3, hg4⟩ := ownsRow_some hown.out.1 (fun e => by cases e)
          rw [List.length_append, List.length_map, List.length_map, marks_len, hsl2.out] at hg3
          injection e with e1 _ e3
          injection e1 with e1
          injection e1 with e1
          subst e1 e3
          have i1 : (ss.length : Int) ≤ (cap : Int) := by omega
          have i2 : (cap : Int) ≤ 9223372036854775807 := by unfold maxLen at hg4; omega
          go_wp2
          go_ret
          have hfin := lent_steps hown.out
          rw [hm'.out, hsl2.out] at hfin
          exact ⟨_, rfl, hfin, hbr⟩
end Go.Proofs.Ythbnbfeolfkkaaa
