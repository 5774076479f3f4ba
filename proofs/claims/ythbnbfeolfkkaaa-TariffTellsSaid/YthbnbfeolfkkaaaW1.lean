/- The walks of countZones and rightRate: what they return, for every tariff that lies in memory. -/
import Derived.Test.YthbnbfeolfkkaaaMem
namespace Go.Proofs.Ythbnbfeolfkkaaa
open Go.RowKit
set_option maxHeartbeats 400000 in
theorem countZones_any (rv zv : Value) (rs : List Rate) (w : World) (h : IsRates w rv rs) :
    Calls Try.prog 44 #[.agg #[rv, zv]] w fun e w' => e = .returned (.int .i64 (countZones rs)) ∧ Below w.heap.size w w' := by
  obtain ⟨A, c, rfl, hn, hc, hA⟩ := h
  cases rs with
  | nil =>
    go_enter Try.func44, Try.ntmps44
    go_wp2
    go_ret
    exact ⟨rfl, (Below.refl _ _).alloc (Nat.le_refl _) _⟩
  | cons r t =>
    obtain ⟨b, off, rfl, hb, hR⟩ := hA (by simp)
    have hR0 := hR 0 (by simp)
    simp only [IsRate, List.getD_cons_zero, Nat.zero_mul, Nat.add_zero] at hR0
    obtain ⟨_, ⟨sv, hsv, A2, c2, rfl, hn2, hc2, hA2⟩, _⟩ := hR0
    clear hR hA
    obtain ⟨cls, steps, bar⟩ := r
    cases steps with
    | nil =>
      simp only [List.length_nil] at hsv
      have h0 : (((t.length : Int) + 1) == 0) = false := by simp; omega
      go_enter Try.func44, Try.ntmps44
      go_wp2
      go_ret
      exact ⟨rfl, (Below.refl _ _).alloc (Nat.le_refl _) _⟩
    | cons s t2 =>
      obtain ⟨b2, off2, rfl, hb2, hR2⟩ := hA2 (by simp)
      have hR0 := hR2 0 (by simp)
      simp only [IsStep, List.getD_cons_zero, Nat.zero_mul, Nat.add_zero] at hR0
      obtain ⟨_, cv, hcv, A3, c3, rfl, hn3, hc3, hA3⟩ := hR0
      clear hR2 hA2 hA3
      simp only [List.length_cons] at hsv
      have h0 : (((t.length : Int) + 1) == 0) = false := by simp; omega
      have h1 : (((t2.length : Int) + 1) == 0) = false := by simp; omega
      go_enter Try.func44, Try.ntmps44
      go_wp2
      go_ret
      exact ⟨rfl, (Below.refl _ _).alloc (Nat.le_refl _) _⟩

set_option maxHeartbeats 1000000 in
theorem rightRate_any (cls bar z : Int) (sv : Value) (ss : List Step) (w : World) (h : IsSteps w sv ss) :
    Calls Try.prog 45 #[.agg #[.int .u8 cls, sv, .int .i64 bar], .int .i64 z] w fun e w' => e = .returned (.bool (rightRate ⟨cls, ss, bar⟩ z)) ∧ Below w.heap.size w w' := by
  obtain ⟨A, c, rfl, hn, hc, hA⟩ := h
  unfold maxLen at hc
  by_cases hbad : ss.length < 1 ∨ 20 < ss.length ∨ bar < 0 ∨ 1000000 < bar
  · have hfin := Lib.hid (show rightRate ⟨cls, ss, bar⟩ z = false from by rw [rightRate, if_pos hbad])
    clear hA
    go_enter Try.func45, Try.ntmps45
    go_wp2
    all_goals
      go_ret
      exact ⟨ret_bool hfin.out.symm, (Below.refl _ _).alloc (Nat.le_refl _) _⟩
  · have hfin := Lib.hid (show rightRate ⟨cls, ss, bar⟩ z = stepsOk z 0 ss from by rw [rightRate, if_neg hbad])
    obtain ⟨b, off, rfl, hb, hi⟩ := hA (by omega)
    have l1 : decide ((ss.length : Int) < 1) = false := by simp; omega
    have l2 : decide (20 < (ss.length : Int)) = false := by simp; omega
    have l3 : decide (bar < 0) = false := by simp; omega
    have l4 : decide (1000000 < bar) = false := by simp; omega
    have hi' := Lib.hid hi
    clear hi hA hbad
    go_enter Try.func45, Try.ntmps45
    go_wp2
    go_loopw [5, 33] (fun bv iv wr => ∃ (k : Nat) (bf : Int), k ≤ ss.length ∧ iv = .int .i64 k ∧ bv = .int .i64 bf ∧ Below w.heap.size w wr ∧ Hid (stepsOk z 0 ss = stepsOk z bf (ss.drop k)))
      (fun _ iv _ => ss.length - (intOf iv).toNat)
    case atStart => exact ⟨0, 0, by omega, rfl, rfl, (Below.refl _ _).alloc (Nat.le_refl _) _, rfl⟩
    case round =>
      obtain ⟨k, bf, hk, rfl, rfl, hbw, hrl⟩ := hrel
      by_cases hlt : k < ss.length
      · have hst := (hi'.out k hlt).stays (Stays.of hbw) hb
        have hdr := Lib.hid (drop_getD ss Step.zero k hlt)
        have hbr : b < wr.heap.size := Nat.lt_of_lt_of_le hb hbw.size
        generalize ss.getD k Step.zero = s at hst hdr
        obtain ⟨g, cs⟩ := s
        obtain ⟨hg, cv, hcv, A2, c2, rfl, hn2, hc2, hA2⟩ := hst
        simp only at hg
        unfold maxLen at hc2
        have hend : Below w.heap.size w (wr.alloc (.cells #[.int .i64 g, .slice A2 cs.length c2] 61)) := hbw.alloc hbw.size _
        by_cases hno : g ≤ bf ∨ 50000 < g ∨ (cs.length : Int) ≠ z
        · have hf2 := Lib.hid (show rightRate ⟨cls, ss, bar⟩ z = false from by rw [hfin.out, hrl.out, hdr.out, stepsOk_no hno])
          have hA3 := Lib.hid hA2
          clear hA2
          by_cases c1 : g ≤ bf
          · go_wp2
            go_ret
            exact ⟨ret_bool hf2.out.symm, hend⟩
          · by_cases c2 : 50000 < g
            · go_wp2
              go_ret
              exact ⟨ret_bool hf2.out.symm, hend⟩
            · have c3 : ((cs.length : Int) != z) = true := by simp; omega
              go_wp2
              go_ret
              exact ⟨ret_bool hf2.out.symm, hend⟩
        · have c0 : bf < g := by omega
          have c1 : decide (g ≤ bf) = false := by simp; omega
          have c2 : decide (50000 < g) = false := by simp; omega
          have c3 : ((cs.length : Int) != z) = false := by simp; omega
          have hno' := Lib.hid hno
          have hA3 := Lib.hid hA2
          clear hA2 hno
          go_wp2
          go_loop [58] (fun iv => ∃ j : Nat, j ≤ cs.length ∧ iv = .int .i64 j ∧ Hid (centsOk cs = centsOk (cs.drop j))) (fun iv => cs.length - (intOf iv).toNat)
          case atStart => exact ⟨0, by omega, rfl, rfl⟩
          case round =>
            obtain ⟨j, hj, rfl, hcr⟩ := hrel
            by_cases hlj : j < cs.length
            · obtain ⟨b3, off3, rfl, hb3, hi3⟩ := hA3.out (by omega)
              have hce := hi3 j hlj
              have hdc := Lib.hid (drop_getD cs 0 j hlj)
              have hA4 := Lib.hid hi3
              clear hi3 hA3
              generalize cs.getD j 0 = x at hce hdc
              by_cases hx : x < 0 ∨ 1000000 < x
              · have hf3 := Lib.hid (show rightRate ⟨cls, ss, bar⟩ z = false from by
                  rw [hfin.out, hrl.out, hdr.out, stepsOk_bad (by show centsOk cs = false; rw [hcr.out, hdc.out, centsOk_no hx])])
                by_cases x1 : x < 0
                · go_wp2
                  go_ret
                  exact ⟨ret_bool hf3.out.symm, hend⟩
                · have x2 : 1000000 < x := by omega
                  go_wp2
                  go_ret
                  exact ⟨ret_bool hf3.out.symm, hend⟩
              · have x1 : decide (x < 0) = false := by simp; omega
                have x2 : decide (1000000 < x) = false := by simp; omega
                have hcr' := Lib.hid (show centsOk cs = centsOk (cs.drop (j + 1)) from by rw [hcr.out, hdc.out, centsOk_yes (by omega) (by omega)])
                clear hx
                go_wp2
                go_round
                case rel => exact ⟨j + 1, by omega, by go_num, hcr'⟩
                case measure => simp [intOf]; omega
            · have hall := Lib.hid (show stepsOk z 0 ss = stepsOk z g (ss.drop (k + 1)) from by
                rw [hrl.out, hdr.out, stepsOk_yes hno'.out (by show centsOk cs = true; rw [hcr.out, List.drop_of_length_le (by omega)]; rfl)])
              go_wp2
              go_roundw
              case rel => exact ⟨k + 1, g, by omega, by go_num, rfl, hend, hall⟩
              case measure => simp [intOf]; omega
      · have hfin2 := Lib.hid (show rightRate ⟨cls, ss, bar⟩ z = true from by rw [hfin.out, hrl.out, List.drop_of_length_le (by omega)]; rfl)
        go_wp2
        go_ret
        exact ⟨ret_bool hfin2.out.symm, hbw⟩
end Go.Proofs.Ythbnbfeolfkkaaa
