/- The walk of TariffSteps: it returns true. -/
import Derived.Test.YthbnbfeolfkkaaaL3
import Derived.Test.YthbnbfeolfkkaaaL5
import Derived.Test.YthbnbfeolfkkaaaMadeW
import Derived.Test.YthbnbfeolfkkaaaStepsP
namespace Go.Proofs.Ythbnbfeolfkkaaa
open Go.RowKit Go.Maps
attribute [local go_sem ↓] Go.wp_at_zero Go.wp_at_succ

theorem nat_of {x n : Int} (hn : 1 ≤ n) : ∃ k : Nat, x % n = (k : Int) ∧ (k : Int) < n := by
  have h0 : 0 ≤ x % n := Int.emod_nonneg _ (by omega)
  have h1 : x % n < n := Int.emod_lt_of_pos _ (by omega)
  exact ⟨(x % n).toNat, by omega, by omega⟩

set_option maxRecDepth 100000 in
set_option maxHeartbeats 8000000 in
theorem steps_any (n : Nat) (ps : List Int) (pv : Value) (cls zn gr : Int) (w : World) (hn : n < 4294967296) (hp : IsKs .u8 w pv ps) (hps : ∀ x ∈ ps, 0 ≤ x ∧ x ≤ 255) (hc0 : 0 ≤ cls) (hc1 : cls ≤ 255) :
    Calls Try.prog 5 #[.int .u32 (n : Int), pv, .int .u8 cls, .int .i64 zn, .int .i64 gr] w fun e w' => e = .returned (.bool true) ∧ Below w.heap.size w w' := by
  have hpp := Lib.hid hp
  have hps' := Lib.hid hps
  obtain ⟨A, c, rfl, _, hcm, hA⟩ := hp
  clear hA hps
  obtain ⟨kg, hkg, hkg2⟩ := nat_of (x := gr) (n := 120) (by omega)
  have hkg' := Lib.hid hkg
  clear hkg
  go_enter Try.func5, Try.ntmps5
  go_wp2_with fail
  refine (awake_any _).mono ?_
  rintro e w1 ⟨rfl, hb1⟩
  go_wp2_with fail
  refine (made_any n _ _ _ _ ps _ _ hn (hpp.out.stays (Stays.of hb1)) hps'.out rfl rfl rfl rfl).mono ?_
  rintro e w2 ⟨rv, zv, rfl, hR, hZ, hb2⟩
  have hbW := hb1.trans (hb2.mono hb1.size)
  clear hb1 hb2
  have hz1 : 1 ≤ 1 + n / 16 % 4 % 3 ∧ 1 + n / 16 % 4 % 3 ≤ 3 := by omega
  have hc2 : 1 ≤ n % 4 % 3 + 1 ∧ n % 4 % 3 + 1 ≤ 3 := by omega
  have hs1 : 1 ≤ n / 4 % 4 % 3 + 1 ∧ n / 4 % 4 % 3 + 1 ≤ 3 := by omega
  have hbr : n / 64 % 32 ≤ 31 := by omega
  generalize 1 + n / 16 % 4 % 3 = nz at *
  generalize n % 4 % 3 + 1 = nc at *
  generalize n / 4 % 4 % 3 + 1 = ns at *
  generalize n / 64 % 32 = br at *
  generalize hm : n / 2048 = m at *
  clear hm
  obtain ⟨hz1, hz3⟩ := hz1
  obtain ⟨hc2, hc3⟩ := hc2
  obtain ⟨hs1, hs3x⟩ := hs1
  have hR2 := Lib.hid hR
  have hZ2 := Lib.hid hZ
  obtain ⟨A1, c1, rfl, _, _, hA1⟩ := hR
  obtain ⟨A2, c2, rfl, _, _, hA2⟩ := hZ
  clear hA2
  rw [madeRates_len] at hA1
  obtain ⟨b, off, rfl, hb, hrow⟩ := hA1 (by omega)
  clear hA1
  obtain ⟨kk, hkk, hkk2⟩ := nat_of (x := cls) (n := (nc : Int)) (by omega)
  have hkk' := Lib.hid hkk
  have hkk3 : kk < nc := by omega
  have hrate : IsRate w2 b (off + kk * 3) ((madeRates ps nz ns br nc).getD kk Rate.zero) := hrow kk hkk3
  have hget : (madeRates ps nz ns br nc).getD kk Rate.zero = ⟨(kk : Int) + 1, madeSteps ps nz kk ns, br⟩ := by
    rw [getD_of _ _ _ (by rw [madeRates_len]; exact hkk3)]
    simp [madeRates]
  rw [hget] at hrate
  clear hrow hget hkk
  obtain ⟨r0, ⟨sv, r1, hS⟩, r2, _, _⟩ := hrate
  have hS2 := Lib.hid hS
  obtain ⟨A3, c3, rfl, _, _, hA3⟩ := hS
  rw [madeSteps_len] at hA3
  obtain ⟨b3, off3, rfl, hb3, hrow3⟩ := hA3 (by omega)
  clear hA3
  have hst : ∀ i, i < ns → IsStep w2 b3 (off3 + i * 2) ⟨20 + 30 * (i : Int), madeCents ps kk i nz⟩ := fun i hi => by
    have h : IsStep w2 b3 (off3 + i * 2) ((madeSteps ps nz kk ns).getD i Step.zero) := hrow3 i hi
    rw [getD_of _ _ _ (by rw [madeSteps_len]; exact hi)] at h
    simpa [madeSteps] using h
  have hst' := Lib.hid hst
  obtain ⟨g0, cv0, g1, hI0⟩ := hst 0 (by omega)
  obtain ⟨A4, c4, rfl, _, _, _⟩ := hI0
  rw [madeCents_len] at g1
  simp only [Nat.zero_mul, Nat.add_zero] at g1
  clear hst hrow3 g0 hS2
  rw [madeRates_len] at hR2 ⊢
  rw [madeSteps_len] at r1
  generalize (madeRows m nz 9).length = lz at *
  obtain ⟨zz, hzz, hzz2⟩ := nat_of (x := zn) (n := (nz : Int)) (by omega)
  have hzz' := Lib.hid hzz
  have hzz3 : zz < nz := by omega
  clear hzz
  have hT := Blk.new w2 25 #[.slice (some ⟨b, off, none⟩) nc c1, .slice A2 lz c2]
  have hTb : Below w2.heap.size w2 (w2.alloc (.cells #[.slice (some ⟨b, off, none⟩) nc c1, .slice A2 lz c2] 25)) := (Below.refl _ _).alloc (Nat.le_refl _) _
  go_wp2
  generalize (w2.alloc (.cells #[.slice (some ⟨b, off, none⟩) nc c1, .slice A2 lz c2] 25)) = W3 at *
  have hs3 : w2.heap.size < W3.heap.size := hT.lt
  have t0 := hT.cell 0
  have t1 := hT.cell 1
  simp at t0 t1
  rw [← hTb.cell (p := ⟨b, off + kk * 3, none⟩) hb] at r0
  rw [← hTb.cell (p := ⟨b, off + kk * 3 + 1, none⟩) hb] at r1
  rw [← hTb.cell (p := ⟨b, off + kk * 3 + 2, none⟩) hb] at r2
  have hR3 := Lib.hid (hR2.out.stays (Stays.of hTb))
  have hZ3 := Lib.hid (hZ2.out.stays (Stays.of hTb))
  have hT' := Lib.hid hT
  have hb3' : b3 < W3.heap.size := by omega
  have hb' : b < W3.heap.size := by omega
  have hbW3 : Below w.heap.size w W3 := hbW.trans (hTb.mono hbW.size)
  have hst3 : ∀ i, i < ns → IsStep W3 b3 (off3 + i * 2) ⟨20 + 30 * (i : Int), madeCents ps kk i nz⟩ := fun i hi => (hst'.out i hi).stays (Stays.of hTb) hb3
  have hst3' := Lib.hid hst3
  rw [← hTb.cell (p := ⟨b3, off3 + 1, none⟩) hb3] at g1
  have k0 : (0 : Int) ≤ (kk : Int) := by omega
  have k1 : (kk : Int) < (nc : Int) := by omega
  have v1 : IntKind.i64.wrap cls = cls := IntWalk.i64_in _ (by omega)
  clear hR2 hZ2 hT hst3 hst'
  go_region_held3 (fun w' => w'.cell? ⟨w2.heap.size, 0, none⟩ = some (.slice (some ⟨b, off, none⟩) nc c1) ∧ w'.cell? ⟨b, off + kk * 3, none⟩ = some (.int .u8 ((kk : Int) + 1)) ∧ w'.cell? ⟨b, off + kk * 3 + 1, none⟩ = some (.slice (some ⟨b3, off3, none⟩) ns c3) ∧ w'.cell? ⟨b, off + kk * 3 + 2, none⟩ = some (.int .i64 (br : Int)))
    (go_keep)
    (first | (go_at_call 23; refine (pick_any _ _ _ (by omega) (by omega)).mono ?_; rintro e w' ⟨rfl, rfl⟩; rw [hkk'.out]))
  all_goals
    have hV : Blk (W3.alloc (.cells #[.int .u8 ((kk : Int) + 1), .slice (some ⟨b3, off3, none⟩) ns c3, .int .i64 (br : Int)] 57)).drew W3.heap.size 57 #[.int .u8 ((kk : Int) + 1), .slice (some ⟨b3, off3, none⟩) ns c3, .int .i64 (br : Int)] := Blk.new _ _ _
    have hVb : Below W3.heap.size W3 (W3.alloc (.cells #[.int .u8 ((kk : Int) + 1), .slice (some ⟨b3, off3, none⟩) ns c3, .int .i64 (br : Int)] 57)).drew := ((Below.refl _ _).alloc (Nat.le_refl _) _).drew
    clear v1
    go_wp2_with fail
    refine (pick_any _ _ _ (by omega) (by omega)).mono ?_
    rintro e w' ⟨rfl, rfl⟩
    rw [hzz'.out]
    generalize (W3.alloc (.cells #[.int .u8 ((kk : Int) + 1), .slice (some ⟨b3, off3, none⟩) ns c3, .int .i64 (br : Int)] 57)).drew = W4 at *
    have hs4 : W3.heap.size < W4.heap.size := hV.lt
    have y0 := hV.cell 0
    have y1 := hV.cell 1
    have y2 := hV.cell 2
    simp at y0 y1 y2
    rw [← hVb.cell (p := ⟨w2.heap.size, 0, none⟩) hs3] at t0
    rw [← hVb.cell (p := ⟨w2.heap.size, 1, none⟩) hs3] at t1
    clear r0 r1 r2
    try clear hHeld
    go_wp2_with fail
    refine (pick_any _ _ _ (by omega) (by omega)).mono ?_
    rintro e w' ⟨rfl, rfl⟩
    rw [hkg'.out]
    go_wp2_with fail
    have hlaw := steps_law hps'.out m nz ns br nc kk (1 + (zz : Int)) (1 + (kg : Int)) hz1 hz3 hs1 hs3x hkk3 hc3 (by omega) (by omega) (by omega) (by omega) (by omega)
    refine (price_any _ _ (madeRates ps nz ns br nc) (madeRows m nz 9) _ _ _ _ (hR3.out.stays (Stays.of hVb)) (hZ3.out.stays (Stays.of hVb))).mono ?_
    rintro e w5 ⟨rfl, hb5⟩
    generalize (priceRes (madeRates ps nz ns br nc) (madeRows m nz 9) ((kk : Int) + 1) (1 + (zz : Int)) (1 + (kg : Int))).1 = got at *
    generalize (priceRes (madeRates ps nz ns br nc) (madeRows m nz 9) ((kk : Int) + 1) (1 + (zz : Int)) (1 + (kg : Int))).2 = er at *
    have hlaw' := Lib.hid hlaw
    have hV5 := hV.below hb5 hs4
    have x1 := hV5.cell 1
    simp at x1
    have hb35 : Below W3.heap.size W3 w5 := hVb.trans (hb5.mono (by omega))
    have hbw5 : Below w.heap.size w w5 := hbW3.trans (hb35.mono hbW3.size)
    have hs5 : W3.heap.size < w5.heap.size := hV5.lt
    have hst5 := Lib.hid (fun i (hi : i < ns) => (hst3'.out i hi).stays (Stays.of hb35) hb3')
    clear hlaw hb5 hV hVb y0 y1 y2 t0 t1 hV5
    go_wp2
    go_loopw [17, 59] (fun bv iv wr => ∃ (i : Nat) (bf : Int), i ≤ ns ∧ iv = .int .i64 i ∧ bv = .int .i64 bf ∧ Below w5.heap.size w5 wr ∧ 0 ≤ bf ∧ bf ≤ 200 ∧ Hid (stepsSay (1 + (kg : Int)) (1 + (zz : Int)) got er bf ((madeSteps ps nz kk ns).drop i) = true))
      (fun _ iv _ => ns - (intOf iv).toNat)
    case atStart => exact ⟨0, 0, by omega, rfl, rfl, Below.refl _ _, by omega, by omega, hlaw'.out⟩
    case round =>
      obtain ⟨i, bf, hi, rfl, rfl, hbr5, hbf0, hbf1, hsay⟩ := hrel
      by_cases hlt : i < ns
      · obtain ⟨s0, cv, s1, hI⟩ := (hst5.out i hlt).stays (Stays.of hbr5) (by have := hb35.size; omega)
        have hI2 := Lib.hid hI
        obtain ⟨A6, c6, rfl, _, _, hA6⟩ := hI
        rw [madeCents_len] at hA6 s1
        obtain ⟨b6, off6, rfl, hb6, hrow6⟩ := hA6 (by omega)
        have s2 : wr.cell? ⟨b6, off6 + zz, none⟩ = some (.int .i64 ((madeCents ps kk i nz).getD zz 0)) := hrow6 zz hzz3
        clear hrow6 hA6 hI2
        have hdrop : (madeSteps ps nz kk ns).drop i = ⟨20 + 30 * (i : Int), madeCents ps kk i nz⟩ :: (madeSteps ps nz kk ns).drop (i + 1) := by
          rw [List.drop_eq_getElem_cons (by rw [madeSteps_len]; exact hlt)]
          simp [madeSteps]
        have hlt' : decide ((i : Int) < (ns : Int)) = true := by simp; omega
        have i0 : (0 : Int) ≤ (i : Int) := by omega
        have hbn := Lib.hid ((hbr5.alloc hbr5.size (.cells #[.int .i64 (20 + 30 * (i : Int)), .slice (some ⟨b6, off6, none⟩) nz c6] 61)))
        have hbw := Lib.hid (hbw5.trans (hbn.out.mono hbw5.size))
        by_cases h1 : bf < 1 + (kg : Int) ∧ 1 + (kg : Int) ≤ 20 + 30 * (i : Int)
        · obtain ⟨h1, h2⟩ := h1
          have hy := hsay.out
          rw [hdrop, stepsSay_yes h1 h2] at hy
          simp only [Bool.and_eq_true, beq_iff_eq] at hy
          obtain ⟨he, hg⟩ := hy
          have hzt : (1 + (zz : Int) - 1).toNat = zz := by omega
          rw [hzt] at hg
          subst he
          rw [← hg] at s2
          clear hdrop hsay hg hzt
          go_wp2
          go_ret
          exact ⟨rfl, hbw.out⟩
        · have hy := hsay.out
          rw [hdrop, stepsSay_no h1] at hy
          have hy' := Lib.hid hy
          clear hy hdrop hsay
          by_cases h2 : bf < 1 + (kg : Int)
          · have h3 : ¬ (1 + (kg : Int) ≤ 20 + 30 * (i : Int)) := fun h => h1 ⟨h2, h⟩
            clear h1
            go_wp2
            go_roundw
            case rel => exact ⟨i + 1, _, by omega, by go_num, rfl, hbn.out, by omega, by omega, hy'⟩
            case measure => simp [intOf]; omega
          · clear h1
            go_wp2
            go_roundw
            case rel => exact ⟨i + 1, _, by omega, by go_num, rfl, hbn.out, by omega, by omega, hy'⟩
            case measure => simp [intOf]; omega
      · have hlt' : decide ((i : Int) < (ns : Int)) = false := by simp; omega
        have hy := hsay.out
        rw [List.drop_of_length_le (by rw [madeSteps_len]; omega)] at hy
        simp only [stepsSay, Bool.and_eq_true, beq_iff_eq, decide_eq_true_eq] at hy
        obtain ⟨he, hg, h1⟩ := hy
        subst he hg
        clear hsay
        have hbw := Lib.hid (hbw5.trans (hbr5.mono hbw5.size))
        go_wp2
        go_ret
        exact ⟨rfl, hbw.out⟩
end Go.Proofs.Ythbnbfeolfkkaaa
