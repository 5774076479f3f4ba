/- The walks of SameStep(s), SameRate(s), SameZones, SameTariff, KeptStep(s), KeptRate(s), KeptTariff: they say true of equal data. -/
import Derived.Test.YthbnbfeolfkkaaaL28
namespace Go.Proofs.Ythbnbfeolfkkaaa
open Go.RowKit Go.Maps
attribute [local go_sem ↓] Go.wp_at_zero Go.wp_at_succ

theorem LtInts.stays {P : Nat → Prop} {w w' : World} {v : Value} {xs : List Int} (h : LtInts P w v xs) (hb : Below w.heap.size w w') : LtInts P w' v xs := h.keep (Keeps.of_below hb _) fun _ _ h => h
theorem LtSteps.stays {P : Nat → Prop} {w w' : World} {v : Value} {xs : List Step} (h : LtSteps P w v xs) (hb : Below w.heap.size w w') : LtSteps P w' v xs := h.keep (Keeps.of_below hb _) fun _ _ h => h
theorem LtRates.stays {P : Nat → Prop} {w w' : World} {v : Value} {xs : List Rate} (h : LtRates P w v xs) (hb : Below w.heap.size w w') : LtRates P w' v xs := h.keep (Keeps.of_below hb _) fun _ _ h => h
theorem LtZones.stays {P : Nat → Prop} {w w' : World} {v : Value} {xs : List Zone} (h : LtZones P w v xs) (hb : Below w.heap.size w w') : LtZones P w' v xs := h.keep (Keeps.of_below hb _) fun _ _ h => h
theorem isInts_nil (w : World) : IsInts w (.slice none 0 0) [] := Sl.nil_
theorem isSteps_nil (w : World) : IsSteps w (.slice none 0 0) [] := Sl.nil_
theorem sameInts_yes (a b : Value) (xs : List Int) (w : World) (ha : IsInts w a xs) (hb : IsInts w b xs) : Calls Try.prog 27 #[a, b] w (SaysTrue w) :=
  (sameInts_any a b xs xs w ha hb).mono fun _ _ h => ⟨by rw [h.1, decide_eq_true rfl], h.2⟩
set_option maxHeartbeats 1000000 in
theorem sameStep_any (g : Int) (v1 v2 : Value) (xs : List Int) (w : World) (h1 : IsInts w v1 xs) (h2 : IsInts w v2 xs) : Calls Try.prog 101 #[.agg #[.int .i64 g, v1], .agg #[.int .i64 g, v2]] w (SaysTrue w) := by
  have hh1 := Lib.hid h1
  have hh2 := Lib.hid h2
  obtain ⟨A, c, rfl, _, _, hA⟩ := h1
  obtain ⟨B, d, rfl, _, _, hB⟩ := h2
  clear hA hB
  have hW : Below w.heap.size w ((w.alloc (.cells #[.int .i64 g, .slice A xs.length c] 61)).alloc (.cells #[.int .i64 g, .slice B xs.length d] 61)) := ((Below.refl _ _).alloc (Nat.le_refl _) _).alloc (by simp) _
  have k0 : Blk ((w.alloc (.cells #[.int .i64 g, .slice A xs.length c] 61)).alloc (.cells #[.int .i64 g, .slice B xs.length d] 61)) w.heap.size 61 #[.int .i64 g, .slice A xs.length c] := (Blk.new _ _ _).alloc _
  have k1 : Blk ((w.alloc (.cells #[.int .i64 g, .slice A xs.length c] 61)).alloc (.cells #[.int .i64 g, .slice B xs.length d] 61)) (w.heap.size + 1) 61 #[.int .i64 g, .slice B xs.length d] := Blk.new_at _ _ _ _ (by simp)
  go_enter Try.func101, Try.ntmps101
  clear k0 k1
  go_wp2_with fail
  refine (sameInts_yes _ _ xs _ (hh1.out.stays (Stays.of hW)) (hh2.out.stays (Stays.of hW))).mono ?_
  rintro e w1 ⟨rfl, hb1⟩
  go_wp2
  go_ret
  exact ⟨rfl, hW.trans (hb1.mono hW.size)⟩
set_option maxHeartbeats 1000000 in
theorem keptStep_any (P : Nat → Prop) (g : Int) (v1 v2 : Value) (xs : List Int) (w : World) (h1 : LtInts P w v1 xs) (h2 : IsInts w v2 xs) : Calls Try.prog 100 #[.agg #[.int .i64 g, v1], .agg #[.int .i64 g, v2]] w (SaysTrue w) := by
  have hh1 := Lib.hid h1
  have hh2 := Lib.hid h2
  obtain ⟨b1, c, rfl, h1x⟩ := h1
  clear h1x
  generalize (some (⟨b1, 0, none⟩ : Addr)) = A at *
  obtain ⟨B, d, rfl, _, _, hB⟩ := h2
  clear hB
  have hW : Below w.heap.size w ((w.alloc (.cells #[.int .i64 g, .slice A xs.length c] 61)).alloc (.cells #[.int .i64 g, .slice B xs.length d] 61)) := ((Below.refl _ _).alloc (Nat.le_refl _) _).alloc (by simp) _
  have k0 : Blk ((w.alloc (.cells #[.int .i64 g, .slice A xs.length c] 61)).alloc (.cells #[.int .i64 g, .slice B xs.length d] 61)) w.heap.size 61 #[.int .i64 g, .slice A xs.length c] := (Blk.new _ _ _).alloc _
  have k1 : Blk ((w.alloc (.cells #[.int .i64 g, .slice A xs.length c] 61)).alloc (.cells #[.int .i64 g, .slice B xs.length d] 61)) (w.heap.size + 1) 61 #[.int .i64 g, .slice B xs.length d] := Blk.new_at _ _ _ _ (by simp)
  go_enter Try.func100, Try.ntmps100
  go_wp2_with fail
  refine (sameStep_any g _ _ xs _ (hh1.out.ints.stays (Stays.of hW)) (hh2.out.stays (Stays.of hW))).mono ?_
  rintro e w1 ⟨rfl, hb1⟩
  generalize (w.alloc (.cells #[.int .i64 g, .slice A xs.length c] 61)).alloc (.cells #[.int .i64 g, .slice B xs.length d] 61) = W at *
  have hs1 : w.heap.size + 1 < W.heap.size := k1.lt
  have j0 := k0.below hb1 (by omega)
  have j1 := k1.below hb1 (by omega)
  have x0 := j0.cell 0
  have y0 := j1.cell 0
  have x1 := j0.cell 1
  have y1 := j1.cell 1
  simp at x0 y0 x1 y1
  have hbW := hW.trans (hb1.mono hW.size)
  have hS1 := Lib.hid hb1
  have hq0 := Lib.hid j0
  have hq1 := Lib.hid j1
  clear j0 j1 k0 k1 hb1 hW
  go_wp2_with fail
  refine (keptInts_any P _ _ xs _ (hh1.out.stays hbW) (hh2.out.stays (Stays.of hbW))).mono ?_
  rintro e w2 ⟨rfl, hb2⟩
  go_wp2
  go_ret
  exact ⟨rfl, hbW.trans (hb2.mono hbW.size)⟩
set_option maxHeartbeats 1000000 in
theorem sameSteps_any (v1 v2 : Value) (ss : List Step) (w : World) (h1 : IsSteps w v1 ss) (h2 : IsSteps w v2 ss) : Calls Try.prog 91 #[v1, v2] w (SaysTrue w) := by
  obtain ⟨A, c, rfl, _, hcm, hA⟩ := h1
  obtain ⟨B, d, rfl, _, hdm, hB⟩ := h2
  have hcm' : c ≤ 9223372036854775807 := hcm
  have hdm' : d ≤ 9223372036854775807 := hdm
  have hA' := Lib.hid hA
  have hB' := Lib.hid hB
  clear hA hB
  have hne : ((ss.length : Int) != (ss.length : Int)) = false := by simp
  go_enter Try.func91, Try.ntmps91
  go_wp2
  go_loopw [5] (fun iv wr => ∃ (k : Nat), k ≤ ss.length ∧ iv = .int .i64 k ∧ Below w.heap.size w wr)
    (fun iv _ => ss.length - (intOf iv).toNat)
  case atStart => exact ⟨0, by omega, rfl, Below.refl _ _⟩
  case round =>
    obtain ⟨k, hk, rfl, hbw⟩ := hrel
    rename World => wr
    have n0 : (0 : Int) ≤ (k : Int) := by omega
    by_cases hlt : k < ss.length
    · obtain ⟨b, off, rfl, hb, hi⟩ := hA'.out (by omega)
      obtain ⟨b2, off2, rfl, hb2, hi2⟩ := hB'.out (by omega)
      have p := (hi k hlt).stays (Stays.of hbw) hb
      have q := (hi2 k hlt).stays (Stays.of hbw) hb2
      clear hi hi2 hA' hB'
      generalize ss.getD k Step.zero = s at p q
      obtain ⟨gr, cs⟩ := s
      obtain ⟨p0, cvp, p1, hIp⟩ := p
      obtain ⟨q0, cvq, q1, hIq⟩ := q
      simp only at p0 p1 hIp q0 q1 hIq
      have hc := Lib.hid (fun u : Ups wr => sameStep_any gr cvp cvq cs u.wld (hIp.stays u.stays) (hIq.stays u.stays))
      obtain ⟨A2, c2, rfl, _, _, hA2⟩ := hIp
      obtain ⟨B2, d2, rfl, _, _, hB2⟩ := hIq
      clear hA2 hB2
      have hbr : b < wr.heap.size := Nat.lt_of_lt_of_le hb hbw.size
      have hbr2 : b2 < wr.heap.size := Nat.lt_of_lt_of_le hb2 hbw.size
      have y0 := Ups.cellAt p0 hbr
      have z0 := Ups.cellAt q0 hbr2
      have y1 := Ups.cellAt p1 hbr
      have z1 := Ups.cellAt q1 hbr2
      have n1 : (k : Int) < (ss.length : Int) := by omega
      go_wp2
      refine wp_region_ups (by kernel_rfl) (by kernel_rfl) ?_
      repeat (go_big_quiet_step (first | (go_at_call 101; refine calls_ups (hc.out _))))
      refine wpQuiet_nil ?_
      rintro _ ⟨u, rfl⟩
      go_wp2
      go_roundw
      case rel => exact ⟨k + 1, by omega, by go_num, hbw.trans (u.up.mono hbw.size)⟩
      case measure => simp [intOf]; omega
    · go_wp2
      go_ret
      exact ⟨rfl, hbw⟩
set_option maxHeartbeats 1000000 in
theorem keptSteps_any (P : Nat → Prop) (v1 v2 : Value) (ss : List Step) (w : World) (h1 : LtSteps P w v1 ss) (h2 : IsSteps w v2 ss) : Calls Try.prog 90 #[v1, v2] w (SaysTrue w) := by
  obtain ⟨b, c, rfl, hc12, hcm, hb, hP, hx, hm⟩ := h1
  obtain ⟨A, c2, rfl, _, hc2, hA⟩ := h2
  have hcm' : (c : Int) ≤ 9223372036854775807 := by unfold maxLen at hcm; omega
  have hc2' : c2 ≤ 9223372036854775807 := hc2
  have i1 : (0 : Int) ≤ (ss.length : Int) + 12 := by omega
  have i2 : (ss.length : Int) + 12 ≤ (c : Int) := by omega
  have hx' := Lib.hid hx
  have hm' := Lib.hid hm
  have hA' := Lib.hid hA
  clear hx hm hA
  have hne : ((ss.length : Int) != (ss.length : Int)) = false := by simp
  go_enter Try.func90, Try.ntmps90
  go_wp2
  go_loopw [6] (fun iv wr => ∃ (k : Nat), k ≤ ss.length + 12 ∧ iv = .int .i64 k ∧ Below w.heap.size w wr)
    (fun iv _ => ss.length + 12 - (intOf iv).toNat)
  case atStart => exact ⟨0, by omega, rfl, Below.refl _ _⟩
  case round =>
    obtain ⟨k, hk, rfl, hbw⟩ := hrel
    rename World => wr
    have n0 : (0 : Int) ≤ (k : Int) := by omega
    have hbr : b < wr.heap.size := Nat.lt_of_lt_of_le hb hbw.size
    by_cases hlt : k < ss.length
    · have p : LtStep P wr b (k * 2) (ss.getD k Step.zero) := LtStep.keep (hx'.out k hlt) hb hP (Keeps.of_below hbw _) fun _ _ h => h
      obtain ⟨b2, off2, rfl, hb2, hi2⟩ := hA'.out (by omega)
      have q := (hi2 k hlt).stays (Stays.of hbw) hb2
      clear hi2
      generalize ss.getD k Step.zero = s at p q
      obtain ⟨gr, cs⟩ := s
      obtain ⟨p0, cvp, p1, hIp⟩ := p
      obtain ⟨q0, cvq, q1, hIq⟩ := q
      simp only at p0 p1 hIp q0 q1 hIq
      have hc := Lib.hid (fun u : Ups wr => keptStep_any P gr cvp cvq cs u.wld (hIp.stays u.up) (hIq.stays u.stays))
      obtain ⟨b3, c3, rfl, h3x⟩ := hIp
      obtain ⟨B2, d2, rfl, _, _, hB2⟩ := hIq
      clear hB2 h3x
      have hbr2 : b2 < wr.heap.size := Nat.lt_of_lt_of_le hb2 hbw.size
      have y0 := Ups.cellAt p0 hbr
      have z0 := Ups.cellAt q0 hbr2
      have y1 := Ups.cellAt p1 hbr
      have z1 := Ups.cellAt q1 hbr2
      have n1 : (k : Int) < (ss.length : Int) := by omega
      have n2 : (k : Int) < (ss.length : Int) + 12 := by omega
      have n3 : decide (ss.length ≤ k) = false := by simp; omega
      clear hx' hm' hA'
      go_wp2
      refine wp_region_ups (by kernel_rfl) (by kernel_rfl) ?_
      repeat (go_big_quiet_step (first | (go_at_call 100; refine calls_ups (hc.out _))))
      refine wpQuiet_nil ?_
      rintro _ ⟨u, rfl⟩
      go_wp2
      go_roundw
      case rel => exact ⟨k + 1, by omega, by go_num, hbw.trans (u.up.mono hbw.size)⟩
      case measure => simp [intOf]; omega
    · by_cases hlt2 : k < ss.length + 12
      · obtain ⟨j, hj, hkj⟩ : ∃ j, j < 12 ∧ k = ss.length + j := ⟨k - ss.length, by omega, by omega⟩
        have g : wr.cell? ⟨b, k * 2, none⟩ = some (.int .i64 (mk j)) ∧ wr.cell? ⟨b, k * 2 + 1, none⟩ = some (.slice none 0 0) := by
          have h := hm'.out j hj
          rw [hkj]
          exact ⟨(hbw.cell hb).trans h.1, (hbw.cell hb).trans h.2⟩
        obtain ⟨m0, m1⟩ := g
        have n1 : decide (k < ss.length) = false := by simp; omega
        have n2 : (k : Int) < (ss.length : Int) + 12 := by omega
        have n3 : ss.length ≤ k := by omega
        have n4 : (k : Int) - (ss.length : Int) = (j : Int) := by omega
        have hmk := Lib.hid (markStep_any j)
        have hc := Lib.hid (fun u : Ups wr => sameStep_any (mk j) (.slice none 0 0) (.slice none 0 0) [] u.wld (isInts_nil _) (isInts_nil _))
        generalize mk j = x at *
        clear hx' hm' hA' hlt hkj
        have y0 := Ups.cellAt m0 hbr
        have y1 := Ups.cellAt m1 hbr
        go_wp2
        refine wp_region_ups (by kernel_rfl) (by kernel_rfl) ?_
        repeat (go_big_quiet_step (first | (go_at_call 99; refine calls_ups (hmk.out _ hj)) | (go_at_call 101; refine calls_ups (hc.out _))))
        refine wpQuiet_nil ?_
        rintro _ ⟨u, rfl⟩
        go_wp2
        go_roundw
        case rel => exact ⟨k + 1, by omega, by go_num, hbw.trans (u.up.mono hbw.size)⟩
        case measure => simp [intOf]; omega
      · have n2 : decide ((k : Int) < (ss.length : Int) + 12) = false := by simp; omega
        go_wp2
        go_ret
        exact ⟨rfl, hbw⟩
set_option maxHeartbeats 1000000 in
theorem sameRate_any (cls br : Int) (v1 v2 : Value) (ss : List Step) (w : World) (h1 : IsSteps w v1 ss) (h2 : IsSteps w v2 ss) : Calls Try.prog 81 #[.agg #[.int .u8 cls, v1, .int .i64 br], .agg #[.int .u8 cls, v2, .int .i64 br]] w (SaysTrue w) := by
  have hh1 := Lib.hid h1
  have hh2 := Lib.hid h2
  obtain ⟨A, c, rfl, _, _, hA⟩ := h1
  obtain ⟨B, d, rfl, _, _, hB⟩ := h2
  clear hA hB
  have hW : Below w.heap.size w ((w.alloc (.cells #[.int .u8 cls, .slice A ss.length c, .int .i64 br] 57)).alloc (.cells #[.int .u8 cls, .slice B ss.length d, .int .i64 br] 57)) := ((Below.refl _ _).alloc (Nat.le_refl _) _).alloc (by simp) _
  have k0 : Blk ((w.alloc (.cells #[.int .u8 cls, .slice A ss.length c, .int .i64 br] 57)).alloc (.cells #[.int .u8 cls, .slice B ss.length d, .int .i64 br] 57)) w.heap.size 57 #[.int .u8 cls, .slice A ss.length c, .int .i64 br] := (Blk.new _ _ _).alloc _
  have k1 : Blk ((w.alloc (.cells #[.int .u8 cls, .slice A ss.length c, .int .i64 br] 57)).alloc (.cells #[.int .u8 cls, .slice B ss.length d, .int .i64 br] 57)) (w.heap.size + 1) 57 #[.int .u8 cls, .slice B ss.length d, .int .i64 br] := Blk.new_at _ _ _ _ (by simp)
  go_enter Try.func81, Try.ntmps81
  go_wp2_with fail
  refine (sameSteps_any _ _ ss _ (hh1.out.stays (Stays.of hW)) (hh2.out.stays (Stays.of hW))).mono ?_
  rintro e w1 ⟨rfl, hb1⟩
  generalize (w.alloc (.cells #[.int .u8 cls, .slice A ss.length c, .int .i64 br] 57)).alloc (.cells #[.int .u8 cls, .slice B ss.length d, .int .i64 br] 57) = W at *
  have hs1 : w.heap.size + 1 < W.heap.size := k1.lt
  have j0 := k0.below hb1 (by omega)
  have j1 := k1.below hb1 (by omega)
  have x0 := j0.cell 0
  have y0 := j1.cell 0
  have x1 := j0.cell 1
  have y1 := j1.cell 1
  have x2 := j0.cell 2
  have y2 := j1.cell 2
  simp at x0 y0 x1 y1 x2 y2
  have hbW := hW.trans (hb1.mono hW.size)
  have hS1 := Lib.hid hb1
  have hq0 := Lib.hid j0
  have hq1 := Lib.hid j1
  clear j0 j1 k0 k1 hb1 hW
  go_wp2
  go_ret
  exact ⟨rfl, hbW⟩
set_option maxHeartbeats 1000000 in
theorem keptRate_any (P : Nat → Prop) (cls br : Int) (v1 v2 : Value) (ss : List Step) (w : World) (h1 : LtSteps P w v1 ss) (h2 : IsSteps w v2 ss) : Calls Try.prog 80 #[.agg #[.int .u8 cls, v1, .int .i64 br], .agg #[.int .u8 cls, v2, .int .i64 br]] w (SaysTrue w) := by
  have hh1 := Lib.hid h1
  have hh2 := Lib.hid h2
  obtain ⟨b1, c, rfl, h1x⟩ := h1
  clear h1x
  generalize (some (⟨b1, 0, none⟩ : Addr)) = A at *
  obtain ⟨B, d, rfl, _, _, hB⟩ := h2
  clear hB
  have hW : Below w.heap.size w ((w.alloc (.cells #[.int .u8 cls, .slice A ss.length c, .int .i64 br] 57)).alloc (.cells #[.int .u8 cls, .slice B ss.length d, .int .i64 br] 57)) := ((Below.refl _ _).alloc (Nat.le_refl _) _).alloc (by simp) _
  have k0 : Blk ((w.alloc (.cells #[.int .u8 cls, .slice A ss.length c, .int .i64 br] 57)).alloc (.cells #[.int .u8 cls, .slice B ss.length d, .int .i64 br] 57)) w.heap.size 57 #[.int .u8 cls, .slice A ss.length c, .int .i64 br] := (Blk.new _ _ _).alloc _
  have k1 : Blk ((w.alloc (.cells #[.int .u8 cls, .slice A ss.length c, .int .i64 br] 57)).alloc (.cells #[.int .u8 cls, .slice B ss.length d, .int .i64 br] 57)) (w.heap.size + 1) 57 #[.int .u8 cls, .slice B ss.length d, .int .i64 br] := Blk.new_at _ _ _ _ (by simp)
  go_enter Try.func80, Try.ntmps80
  go_wp2_with fail
  refine (sameRate_any cls br _ _ ss _ (hh1.out.steps.stays (Stays.of hW)) (hh2.out.stays (Stays.of hW))).mono ?_
  rintro e w1 ⟨rfl, hb1⟩
  generalize (w.alloc (.cells #[.int .u8 cls, .slice A ss.length c, .int .i64 br] 57)).alloc (.cells #[.int .u8 cls, .slice B ss.length d, .int .i64 br] 57) = W at *
  have hs1 : w.heap.size + 1 < W.heap.size := k1.lt
  have j0 := k0.below hb1 (by omega)
  have j1 := k1.below hb1 (by omega)
  have x0 := j0.cell 0
  have y0 := j1.cell 0
  have x1 := j0.cell 1
  have y1 := j1.cell 1
  have x2 := j0.cell 2
  have y2 := j1.cell 2
  simp at x0 y0 x1 y1 x2 y2
  have hbW := hW.trans (hb1.mono hW.size)
  have hS1 := Lib.hid hb1
  have hq0 := Lib.hid j0
  have hq1 := Lib.hid j1
  clear j0 j1 k0 k1 hb1 hW
  go_wp2_with fail
  refine (keptSteps_any P _ _ ss _ (hh1.out.stays hbW) (hh2.out.stays (Stays.of hbW))).mono ?_
  rintro e w2 ⟨rfl, hb2⟩
  go_wp2
  go_ret
  exact ⟨rfl, hbW.trans (hb2.mono hbW.size)⟩
set_option maxHeartbeats 1000000 in
theorem sameRates_any (v1 v2 : Value) (rs : List Rate) (w : World) (h1 : IsRates w v1 rs) (h2 : IsRates w v2 rs) : Calls Try.prog 78 #[v1, v2] w (SaysTrue w) := by
  obtain ⟨A, c, rfl, _, hcm, hA⟩ := h1
  obtain ⟨B, d, rfl, _, hdm, hB⟩ := h2
  have hcm' : c ≤ 9223372036854775807 := hcm
  have hdm' : d ≤ 9223372036854775807 := hdm
  have hA' := Lib.hid hA
  have hB' := Lib.hid hB
  clear hA hB
  have hne : ((rs.length : Int) != (rs.length : Int)) = false := by simp
  go_enter Try.func78, Try.ntmps78
  go_wp2
  go_loopw [5] (fun iv wr => ∃ (k : Nat), k ≤ rs.length ∧ iv = .int .i64 k ∧ Below w.heap.size w wr)
    (fun iv _ => rs.length - (intOf iv).toNat)
  case atStart => exact ⟨0, by omega, rfl, Below.refl _ _⟩
  case round =>
    obtain ⟨k, hk, rfl, hbw⟩ := hrel
    rename World => wr
    have n0 : (0 : Int) ≤ (k : Int) := by omega
    by_cases hlt : k < rs.length
    · obtain ⟨b, off, rfl, hb, hi⟩ := hA'.out (by omega)
      obtain ⟨b2, off2, rfl, hb2, hi2⟩ := hB'.out (by omega)
      have p := (hi k hlt).stays (Stays.of hbw) hb
      have q := (hi2 k hlt).stays (Stays.of hbw) hb2
      clear hi hi2 hA' hB'
      generalize rs.getD k Rate.zero = s at p q
      obtain ⟨cls, cs, br⟩ := s
      obtain ⟨p0, ⟨cvp, p1, hIp⟩, p2, -, -⟩ := p
      obtain ⟨q0, ⟨cvq, q1, hIq⟩, q2, -, -⟩ := q
      simp only at p0 p1 p2 hIp q0 q1 q2 hIq
      have hc := Lib.hid (fun u : Ups wr => sameRate_any cls br cvp cvq cs u.wld (hIp.stays u.stays) (hIq.stays u.stays))
      obtain ⟨A2, c2, rfl, _, _, hA2⟩ := hIp
      obtain ⟨B2, d2, rfl, _, _, hB2⟩ := hIq
      clear hA2 hB2
      have hbr : b < wr.heap.size := Nat.lt_of_lt_of_le hb hbw.size
      have hbr2 : b2 < wr.heap.size := Nat.lt_of_lt_of_le hb2 hbw.size
      have y0 := Ups.cellAt p0 hbr
      have z0 := Ups.cellAt q0 hbr2
      have y1 := Ups.cellAt p1 hbr
      have z1 := Ups.cellAt q1 hbr2
      have y2 := Ups.cellAt p2 hbr
      have z2 := Ups.cellAt q2 hbr2
      have n1 : (k : Int) < (rs.length : Int) := by omega
      go_wp2
      refine wp_region_ups (by kernel_rfl) (by kernel_rfl) ?_
      repeat (go_big_quiet_step (first | (go_at_call 81; refine calls_ups (hc.out _))))
      refine wpQuiet_nil ?_
      rintro _ ⟨u, rfl⟩
      go_wp2
      go_roundw
      case rel => exact ⟨k + 1, by omega, by go_num, hbw.trans (u.up.mono hbw.size)⟩
      case measure => simp [intOf]; omega
    · go_wp2
      go_ret
      exact ⟨rfl, hbw⟩
set_option maxHeartbeats 1000000 in
theorem keptRates_any (P : Nat → Prop) (v1 v2 : Value) (rs : List Rate) (w : World) (h1 : LtRates P w v1 rs) (h2 : IsRates w v2 rs) : Calls Try.prog 63 #[v1, v2] w (SaysTrue w) := by
  obtain ⟨b, c, rfl, hc12, hcm, hb, hP, hx, hm⟩ := h1
  obtain ⟨A, c2, rfl, _, hc2, hA⟩ := h2
  have hcm' : (c : Int) ≤ 9223372036854775807 := by unfold maxLen at hcm; omega
  have hc2' : c2 ≤ 9223372036854775807 := hc2
  have i1 : (0 : Int) ≤ (rs.length : Int) + 12 := by omega
  have i2 : (rs.length : Int) + 12 ≤ (c : Int) := by omega
  have hx' := Lib.hid hx
  have hm' := Lib.hid hm
  have hA' := Lib.hid hA
  clear hx hm hA
  have hne : ((rs.length : Int) != (rs.length : Int)) = false := by simp
  go_enter Try.func63, Try.ntmps63
  go_wp2
  go_loopw [6] (fun iv wr => ∃ (k : Nat), k ≤ rs.length + 12 ∧ iv = .int .i64 k ∧ Below w.heap.size w wr)
    (fun iv _ => rs.length + 12 - (intOf iv).toNat)
  case atStart => exact ⟨0, by omega, rfl, Below.refl _ _⟩
  case round =>
    obtain ⟨k, hk, rfl, hbw⟩ := hrel
    rename World => wr
    have n0 : (0 : Int) ≤ (k : Int) := by omega
    have hbr : b < wr.heap.size := Nat.lt_of_lt_of_le hb hbw.size
    by_cases hlt : k < rs.length
    · have p : LtRate P wr b (k * 3) (rs.getD k Rate.zero) := LtRate.keep (hx'.out k hlt) hb hP (Keeps.of_below hbw _) fun _ _ h => h
      obtain ⟨b2, off2, rfl, hb2, hi2⟩ := hA'.out (by omega)
      have q := (hi2 k hlt).stays (Stays.of hbw) hb2
      clear hi2
      generalize rs.getD k Rate.zero = s at p q
      obtain ⟨cls, cs, br⟩ := s
      obtain ⟨p0, ⟨cvp, p1, hIp⟩, p2, -, -⟩ := p
      obtain ⟨q0, ⟨cvq, q1, hIq⟩, q2, -, -⟩ := q
      simp only at p0 p1 p2 hIp q0 q1 q2 hIq
      have hc := Lib.hid (fun u : Ups wr => keptRate_any P cls br cvp cvq cs u.wld (hIp.stays u.up) (hIq.stays u.stays))
      obtain ⟨b3, c3, rfl, h3x⟩ := hIp
      obtain ⟨B2, d2, rfl, _, _, hB2⟩ := hIq
      clear hB2 h3x
      have hbr2 : b2 < wr.heap.size := Nat.lt_of_lt_of_le hb2 hbw.size
      have y0 := Ups.cellAt p0 hbr
      have z0 := Ups.cellAt q0 hbr2
      have y1 := Ups.cellAt p1 hbr
      have z1 := Ups.cellAt q1 hbr2
      have y2 := Ups.cellAt p2 hbr
      have z2 := Ups.cellAt q2 hbr2
      have n1 : (k : Int) < (rs.length : Int) := by omega
      have n2 : (k : Int) < (rs.length : Int) + 12 := by omega
      have n3 : decide (rs.length ≤ k) = false := by simp; omega
      clear hx' hm' hA'
      go_wp2
      refine wp_region_ups (by kernel_rfl) (by kernel_rfl) ?_
      repeat (go_big_quiet_step (first | (go_at_call 80; refine calls_ups (hc.out _))))
      refine wpQuiet_nil ?_
      rintro _ ⟨u, rfl⟩
      go_wp2
      go_roundw
      case rel => exact ⟨k + 1, by omega, by go_num, hbw.trans (u.up.mono hbw.size)⟩
      case measure => simp [intOf]; omega
    · by_cases hlt2 : k < rs.length + 12
      · obtain ⟨j, hj, hkj⟩ : ∃ j, j < 12 ∧ k = rs.length + j := ⟨k - rs.length, by omega, by omega⟩
        have g : wr.cell? ⟨b, k * 3, none⟩ = some (.int .u8 0) ∧ wr.cell? ⟨b, k * 3 + 1, none⟩ = some (.slice none 0 0) ∧ wr.cell? ⟨b, k * 3 + 2, none⟩ = some (.int .i64 (mk j)) := by
          have h := hm'.out j hj
          rw [hkj]
          exact ⟨(hbw.cell hb).trans h.1, (hbw.cell hb).trans h.2.1, (hbw.cell hb).trans h.2.2⟩
        obtain ⟨m0, m1, m2⟩ := g
        have n1 : decide (k < rs.length) = false := by simp; omega
        have n2 : (k : Int) < (rs.length : Int) + 12 := by omega
        have n3 : rs.length ≤ k := by omega
        have n4 : (k : Int) - (rs.length : Int) = (j : Int) := by omega
        have hmk := Lib.hid (markRate_any j)
        have hc := Lib.hid (fun u : Ups wr => sameRate_any 0 (mk j) (.slice none 0 0) (.slice none 0 0) [] u.wld (isSteps_nil _) (isSteps_nil _))
        generalize mk j = x at *
        clear hx' hm' hA' hlt hkj
        have y0 := Ups.cellAt m0 hbr
        have y1 := Ups.cellAt m1 hbr
        have y2 := Ups.cellAt m2 hbr
        go_wp2
        refine wp_region_ups (by kernel_rfl) (by kernel_rfl) ?_
        repeat (go_big_quiet_step (first | (go_at_call 74; refine calls_ups (hmk.out _ hj)) | (go_at_call 81; refine calls_ups (hc.out _))))
        refine wpQuiet_nil ?_
        rintro _ ⟨u, rfl⟩
        go_wp2
        go_roundw
        case rel => exact ⟨k + 1, by omega, by go_num, hbw.trans (u.up.mono hbw.size)⟩
        case measure => simp [intOf]; omega
      · have n2 : decide ((k : Int) < (rs.length : Int) + 12) = false := by simp; omega
        go_wp2
        go_ret
        exact ⟨rfl, hbw⟩
set_option maxHeartbeats 1000000 in
theorem sameZones_any (v1 v2 : Value) (zs : List Zone) (w : World) (h1 : IsZones w v1 zs) (h2 : IsZones w v2 zs) : Calls Try.prog 79 #[v1, v2] w (SaysTrue w) := by
  obtain ⟨A, c, rfl, _, hcm, hA⟩ := h1
  obtain ⟨B, d, rfl, _, hdm, hB⟩ := h2
  have hcm' : c ≤ 9223372036854775807 := hcm
  have hdm' : d ≤ 9223372036854775807 := hdm
  have hA' := Lib.hid hA
  have hB' := Lib.hid hB
  clear hA hB
  have hne : ((zs.length : Int) != (zs.length : Int)) = false := by simp
  go_enter Try.func79, Try.ntmps79
  go_wp2
  go_loopw [5] (fun iv wr => ∃ (k : Nat), k ≤ zs.length ∧ iv = .int .i64 k ∧ Below w.heap.size w wr)
    (fun iv _ => zs.length - (intOf iv).toNat)
  case atStart => exact ⟨0, by omega, rfl, Below.refl _ _⟩
  case round =>
    obtain ⟨k, hk, rfl, hbw⟩ := hrel
    rename World => wr
    have n0 : (0 : Int) ≤ (k : Int) := by omega
    by_cases hlt : k < zs.length
    · obtain ⟨b, off, rfl, hb, hi⟩ := hA'.out (by omega)
      obtain ⟨b2, off2, rfl, hb2, hi2⟩ := hB'.out (by omega)
      have g := (hi k hlt).stays (Stays.of hbw) hb
      have g' := (hi2 k hlt).stays (Stays.of hbw) hb2
      clear hi hi2 hA' hB'
      generalize zs.getD k Zone.zero = z at g g'
      obtain ⟨f, t, zn⟩ := z
      obtain ⟨g0, g1, g2, -, -⟩ := g
      obtain ⟨g3, g4, g5, -, -⟩ := g'
      simp only at g0 g1 g2 g3 g4 g5
      have n1 : (k : Int) < (zs.length : Int) := by omega
      go_wp2
      go_quiet (fail)
      go_wp2
      go_roundw
      case rel => exact ⟨k + 1, by omega, by go_num, below_n hbw _⟩
      case measure => simp [intOf]; omega
    · go_wp2
      go_ret
      exact ⟨rfl, hbw⟩
set_option maxHeartbeats 1000000 in
theorem sameTariff_any (rv zv rv2 zv2 : Value) (rs : List Rate) (zs : List Zone) (w : World) (h1 : IsRates w rv rs) (h2 : IsRates w rv2 rs) (h3 : IsZones w zv zs) (h4 : IsZones w zv2 zs) : Calls Try.prog 62 #[.agg #[rv, zv], .agg #[rv2, zv2]] w (SaysTrue w) := by
  have hh1 := Lib.hid h1
  have hh2 := Lib.hid h2
  obtain ⟨A, c, rfl, _, _, hA⟩ := h1
  obtain ⟨B, d, rfl, _, _, hB⟩ := h2
  clear hA hB
  have hh3 := Lib.hid h3
  have hh4 := Lib.hid h4
  obtain ⟨A2, c2, rfl, _, _, hA⟩ := h3
  obtain ⟨B2, d2, rfl, _, _, hB⟩ := h4
  clear hA hB
  have hW : Below w.heap.size w ((w.alloc (.cells #[.slice A rs.length c, .slice A2 zs.length c2] 25)).alloc (.cells #[.slice B rs.length d, .slice B2 zs.length d2] 25)) := ((Below.refl _ _).alloc (Nat.le_refl _) _).alloc (by simp) _
  have k0 : Blk ((w.alloc (.cells #[.slice A rs.length c, .slice A2 zs.length c2] 25)).alloc (.cells #[.slice B rs.length d, .slice B2 zs.length d2] 25)) w.heap.size 25 #[.slice A rs.length c, .slice A2 zs.length c2] := (Blk.new _ _ _).alloc _
  have k1 : Blk ((w.alloc (.cells #[.slice A rs.length c, .slice A2 zs.length c2] 25)).alloc (.cells #[.slice B rs.length d, .slice B2 zs.length d2] 25)) (w.heap.size + 1) 25 #[.slice B rs.length d, .slice B2 zs.length d2] := Blk.new_at _ _ _ _ (by simp)
  go_enter Try.func62, Try.ntmps62
  go_wp2_with fail
  refine (sameRates_any _ _ rs _ (hh1.out.stays (Stays.of hW)) (hh2.out.stays (Stays.of hW))).mono ?_
  rintro e w1 ⟨rfl, hb1⟩
  generalize (w.alloc (.cells #[.slice A rs.length c, .slice A2 zs.length c2] 25)).alloc (.cells #[.slice B rs.length d, .slice B2 zs.length d2] 25) = W at *
  have hs1 : w.heap.size + 1 < W.heap.size := k1.lt
  have j0 := k0.below hb1 (by omega)
  have j1 := k1.below hb1 (by omega)
  have x0 := j0.cell 0
  have y0 := j1.cell 0
  have x1 := j0.cell 1
  have y1 := j1.cell 1
  simp at x0 y0 x1 y1
  have hbW := hW.trans (hb1.mono hW.size)
  have hS1 := Lib.hid hb1
  have hq0 := Lib.hid j0
  have hq1 := Lib.hid j1
  clear j0 j1 k0 k1 hb1 hW
  go_wp2_with fail
  refine (sameZones_any _ _ zs _ (hh3.out.stays (Stays.of hbW)) (hh4.out.stays (Stays.of hbW))).mono ?_
  rintro e w2 ⟨rfl, hb2⟩
  go_wp2
  go_ret
  exact ⟨rfl, hbW.trans (hb2.mono hbW.size)⟩
set_option maxHeartbeats 1000000 in
theorem keptTariff_any (P Q : Nat → Prop) (rv zv rv2 zv2 : Value) (rs : List Rate) (zs : List Zone) (w : World) (h1 : LtRates P w rv rs) (h2 : IsRates w rv2 rs) (h3 : LtZones Q w zv zs) (h4 : IsZones w zv2 zs) : Calls Try.prog 38 #[.agg #[rv, zv], .agg #[rv2, zv2]] w (SaysTrue w) := by
  have hh1 := Lib.hid h1
  have hh2 := Lib.hid h2
  obtain ⟨b1, c, rfl, h1x⟩ := h1
  clear h1x
  generalize (some (⟨b1, 0, none⟩ : Addr)) = A at *
  obtain ⟨B, d, rfl, _, _, hB⟩ := h2
  clear hB
  have hh3 := Lib.hid h3
  have hh4 := Lib.hid h4
  obtain ⟨b2, c2, rfl, h3x⟩ := h3
  clear h3x
  generalize (some (⟨b2, 0, none⟩ : Addr)) = A2 at *
  obtain ⟨B2, d2, rfl, _, _, hB⟩ := h4
  clear hB
  have hW : Below w.heap.size w ((w.alloc (.cells #[.slice A rs.length c, .slice A2 zs.length c2] 25)).alloc (.cells #[.slice B rs.length d, .slice B2 zs.length d2] 25)) := ((Below.refl _ _).alloc (Nat.le_refl _) _).alloc (by simp) _
  have k0 : Blk ((w.alloc (.cells #[.slice A rs.length c, .slice A2 zs.length c2] 25)).alloc (.cells #[.slice B rs.length d, .slice B2 zs.length d2] 25)) w.heap.size 25 #[.slice A rs.length c, .slice A2 zs.length c2] := (Blk.new _ _ _).alloc _
  have k1 : Blk ((w.alloc (.cells #[.slice A rs.length c, .slice A2 zs.length c2] 25)).alloc (.cells #[.slice B rs.length d, .slice B2 zs.length d2] 25)) (w.heap.size + 1) 25 #[.slice B rs.length d, .slice B2 zs.length d2] := Blk.new_at _ _ _ _ (by simp)
  go_enter Try.func38, Try.ntmps38
  go_wp2_with fail
  refine (sameTariff_any _ _ _ _ rs zs _ (hh1.out.rates.stays (Stays.of hW)) (hh2.out.stays (Stays.of hW)) (hh3.out.zones.stays (Stays.of hW)) (hh4.out.stays (Stays.of hW))).mono ?_
  rintro e w1 ⟨rfl, hb1⟩
  generalize (w.alloc (.cells #[.slice A rs.length c, .slice A2 zs.length c2] 25)).alloc (.cells #[.slice B rs.length d, .slice B2 zs.length d2] 25) = W at *
  have hs1 : w.heap.size + 1 < W.heap.size := k1.lt
  have j0 := k0.below hb1 (by omega)
  have j1 := k1.below hb1 (by omega)
  have x0 := j0.cell 0
  have y0 := j1.cell 0
  have x1 := j0.cell 1
  have y1 := j1.cell 1
  simp at x0 y0 x1 y1
  have hbW := hW.trans (hb1.mono hW.size)
  have hS1 := Lib.hid hb1
  have hq0 := Lib.hid j0
  have hq1 := Lib.hid j1
  clear j0 j1 k0 k1 hb1 hW
  go_wp2_with fail
  refine (keptRates_any P _ _ rs _ (hh1.out.stays hbW) (hh2.out.stays (Stays.of hbW))).mono ?_
  rintro e w2 ⟨rfl, hb2⟩
  have i0 := hq0.out.below hb2 (by have := hS1.out.size; omega)
  have i1 := hq1.out.below hb2 (by have := hS1.out.size; omega)
  have u0 := i0.cell 1
  have u1 := i1.cell 1
  simp at u0 u1
  have hbX := hbW.trans (hb2.mono hbW.size)
  clear i0 i1 hq0 hq1 hb2
  go_wp2_with fail
  refine (keptZones_any Q _ _ zs _ (hh3.out.stays hbX) (hh4.out.stays (Stays.of hbX))).mono ?_
  rintro e w3 ⟨rfl, hb3⟩
  go_wp2
  go_ret
  exact ⟨rfl, hbX.trans (hb3.mono hbX.size)⟩
end Go.Proofs.Ythbnbfeolfkkaaa
