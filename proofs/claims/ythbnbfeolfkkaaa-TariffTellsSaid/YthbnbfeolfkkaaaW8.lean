/- The walk of tariff.Right: it computes right, for every tariff that lies in memory. -/
import Derived.Test.YthbnbfeolfkkaaaW1
import Derived.Test.YthbnbfeolfkkaaaW4
namespace Go.Proofs.Ythbnbfeolfkkaaa
open Go.RowKit Go.Maps
set_option maxHeartbeats 2000000 in
theorem right_any (rv zv : Value) (rs : List Rate) (zs : List Zone) (w : World) (h : IsRates w rv rs) (hz : IsZones w zv zs) :
    Calls Try.prog 18 #[.agg #[rv, zv]] w fun e w' => e = .returned (.bool (right rs zs)) ∧ Below w.heap.size w w' := by
  have hh := Lib.hid h
  have hzz := Lib.hid hz
  obtain ⟨A, c, rfl, hn, hc, hA⟩ := h
  obtain ⟨A2, c2, rfl, hn2, hc2, hA2⟩ := hz
  have hc' : c ≤ 9223372036854775807 := hc
  have hc2' : c2 ≤ 9223372036854775807 := hc2
  have hA' := Lib.hid hA
  clear hA hA2
  by_cases hm : rightMany rs zs
  · have hfin := Lib.hid (show right rs zs = (if countZones rs < 1 ∨ 20 < countZones rs then false else if ratesOk (countZones rs) [] rs then rightRows zs (countZones rs) else false) from by rw [right, if_pos hm])
    have l1 : decide ((rs.length : Int) < 1) = false := by unfold rightMany at hm; simp; omega
    have l2 : decide (20 < (rs.length : Int)) = false := by unfold rightMany at hm; simp; omega
    have l3 : decide ((zs.length : Int) < 1) = false := by unfold rightMany at hm; simp; omega
    have l4 : decide (500 < (zs.length : Int)) = false := by unfold rightMany at hm; simp; omega
    clear hm
    have hW := (Below.refl w.heap.size w).alloc (Nat.le_refl _) (.cells #[.slice A rs.length c, .slice A2 zs.length c2] 25)
    go_enter Try.func18, Try.ntmps18
    go_wp2_with fail
    refine (countZones_any _ _ rs _ (hh.out.stays (Stays.of hW))).mono ?_
    rintro e w1 ⟨rfl, hb1⟩
    have hbw1 := hW.trans (hb1.mono (by simp))
    have x0 : w1.cell? ⟨w.heap.size, 0, none⟩ = some (.slice A rs.length c) := by rw [hb1.cell (by simp)]; simp
    have x1 : w1.cell? ⟨w.heap.size, 1, none⟩ = some (.slice A2 zs.length c2) := by rw [hb1.cell (by simp)]; simp
    have hsz1 : w.heap.size < w1.heap.size := by have := hb1.size; simp at this; omega
    clear hb1 hW
    by_cases hcz : countZones rs < 1 ∨ 20 < countZones rs
    · have hfin2 := Lib.hid (show right rs zs = false from by rw [hfin.out, if_pos hcz])
      generalize countZones rs = z at hcz
      by_cases z1 : z < 1
      · have z1' : decide ((z : Int) < 1) = true := by simp; omega
        go_wp2
        go_ret
        exact ⟨ret_bool hfin2.out.symm, hbw1⟩
      · have z1' : decide ((z : Int) < 1) = false := by simp; omega
        have z2' : decide (20 < (z : Int)) = true := by simp; omega
        go_wp2
        go_ret
        exact ⟨ret_bool hfin2.out.symm, hbw1⟩
    · have hfin2 := Lib.hid (show right rs zs = if ratesOk (countZones rs) [] rs then rightRows zs (countZones rs) else false from by rw [hfin.out, if_neg hcz])
      clear hfin
      generalize countZones rs = z at hcz hfin2
      have z1' : decide ((z : Int) < 1) = false := by simp; omega
      have z2' : decide (20 < (z : Int)) = false := by simp; omega
      have hmm := @run_makeMap Try.prog
      clear hcz
      go_wp2
      go_loopw [41] (fun iv wr => ∃ (k : Nat) (met : List Int), k ≤ rs.length ∧ iv = .int .i64 k ∧ Below w.heap.size w wr ∧ wr.cell? ⟨w.heap.size, 1, none⟩ = some (.slice A2 zs.length c2) ∧ SetM Try.prog 5 4 encU8 wr w1.heap.size k met ∧ Hid (ratesOk z [] rs = ratesOk z met (rs.drop k)))
        (fun iv _ => rs.length - (intOf iv).toNat)
      case atStart => exact ⟨0, [], by omega, rfl, hbw1.alloc hbw1.size _, by simp [go_sem, hsz1, x1], SetM.made _ _ _ _ _, rfl⟩
      case round =>
        clear hmm x0 x1
        obtain ⟨k, met, hk, rfl, hbw, hx1, hset, hrl⟩ := hrel
        have hmb : w1.heap.size < wr.heap.size := hset.lt
        by_cases hlt : k < rs.length
        · obtain ⟨b, off, rfl, hb, hi⟩ := hA'.out (by omega)
          have hst := (hi k hlt).stays (Stays.of hbw) hb
          have hdr := Lib.hid (drop_getD rs Rate.zero k hlt)
          have hbr : b < wr.heap.size := Nat.lt_of_lt_of_le hb hbw.size
          have hi' := Lib.hid hi
          clear hi hA'
          generalize rs.getD k Rate.zero = q at hst hdr
          obtain ⟨qc, qs, qb⟩ := q
          obtain ⟨g1, ⟨sv, g2, g3⟩, g4, q0, q1⟩ := hst
          simp only at g1 g3 g4 q0 q1
          have g3' := Lib.hid g3
          obtain ⟨A3, c3, rfl, hn3, hc3, hA3⟩ := g3
          clear hA3
          have hW1 : Below w.heap.size w (wr.alloc (.cells #[.int .u8 qc, .slice A3 qs.length c3, .int .i64 qb] 57)) := hbw.alloc hbw.size _
          have hset1 := hset.alloc (.cells #[.int .u8 qc, .slice A3 qs.length c3, .int .i64 qb] 57)
          obtain ⟨kl, hkl⟩ := keyOf_u8 qc q0 q1
          have hlook := hset1.look keyed5 Try.underlying96 Try.underlying4 (zero4 _) qc hkl
          unfold encU8 at hlook
          have hset1' := Lib.hid hset1
          have hkl' := Lib.hid hkl
          clear hset hset1 hkl
          by_cases hbad : rateBad z met ⟨qc, qs, qb⟩
          · have hfin3 := Lib.hid (show right rs zs = false from by rw [hfin2.out, hrl.out, hdr.out, ratesOk_no hbad]; rfl)
            by_cases k1 : qc < 1
            · clear hbad
              go_wp2
              go_ret
              exact ⟨ret_bool hfin3.out.symm, hW1⟩
            · by_cases k2 : memB qc met = true
              · clear hbad
                go_wp2
                go_ret
                exact ⟨ret_bool hfin3.out.symm, hW1⟩
              · have k1' : decide (qc < 1) = false := by simpa using k1
                have k2' : memB qc met = false := by simpa using k2
                have k3 : rightRate ⟨qc, qs, qb⟩ z = false := by
                  rcases hbad with h | h | h
                  · exact absurd h k1
                  · exact absurd h k2
                  · exact h
                clear hbad k1 k2
                go_wp2_with fail
                refine (rightRate_any _ _ _ _ qs _ (g3'.out.stays (Stays.of ((Below.refl _ _).alloc (Nat.le_refl _) _)))).mono ?_
                rintro e w2 ⟨rfl, hb2⟩
                have hbw2 := hW1.trans (hb2.mono (by simp; omega))
                go_wp2
                go_ret
                exact ⟨ret_bool hfin3.out.symm, hbw2⟩
          · have hfin3 := Lib.hid (show ratesOk z [] rs = ratesOk z (qc :: met) (rs.drop (k + 1)) from by rw [hrl.out, hdr.out, ratesOk_yes hbad])
            have k1' : decide (qc < 1) = false := by
              simp
              exact Int.not_lt.1 fun h => hbad (.inl h)
            have k2' : memB qc met = false := by
              cases hm : memB qc met
              · rfl
              · exact absurd (.inr (.inl hm)) hbad
            have k3 : rightRate ⟨qc, qs, qb⟩ z = true := by
              cases hm : rightRate ⟨qc, qs, qb⟩ z
              · exact absurd (.inr (.inr hm)) hbad
              · rfl
            clear hbad
            go_wp2_with fail
            refine (rightRate_any _ _ _ _ qs _ (g3'.out.stays (Stays.of ((Below.refl _ _).alloc (Nat.le_refl _) _)))).mono ?_
            rintro e w2 ⟨rfl, hb2⟩
            have hbw2 := hW1.trans (hb2.mono (by simp; omega))
            obtain ⟨w3, hput, hset4, hgr⟩ := (hset1'.out.below hb2).put keyed5 Try.underlying96 Try.underlying4 (by omega) encU8_inj qc hkl'.out
            unfold encU8 at hput
            have hbw3 : Below w.heap.size w w3 := hbw2.grown hgr hbw2.size (by simp; omega)
            have r0 : w2.cell? ⟨wr.heap.size, 0, none⟩ = some (.int .u8 qc) := by rw [hb2.cell (by simp)]; simp
            have r1 : w2.cell? ⟨w.heap.size, 1, none⟩ = some (.slice A2 zs.length c2) := by rw [hb2.cell (by simp; omega)]; simp [go_sem, show w.heap.size < wr.heap.size by omega, hx1]
            have r2 : w3.cell? ⟨w.heap.size, 1, none⟩ = some (.slice A2 zs.length c2) := by
              rw [← r1]
              have hs2 := hb2.size
              exact World.cell?_of_block (hgr.block w.heap.size (by simp at hs2; omega) (by simp; omega))
            have hset4' := Lib.hid hset4
            have hsz2 : wr.heap.size < w2.heap.size := by have := hb2.size; simp at this; omega
            clear hset4 hgr hb2
            go_wp2
            go_roundw
            case rel => exact ⟨k + 1, qc :: met, by omega, by go_num, hbw3, r2, hset4'.out, hfin3⟩
            case measure => simp [intOf]; omega
        · have hfin3 := Lib.hid (show right rs zs = rightRows zs z from by rw [hfin2.out, hrl.out, List.drop_of_length_le (by omega)]; rfl)
          have hsz : w.heap.size < wr.heap.size := by omega
          clear hset
          go_wp2_with fail
          refine (rightRows_any _ _ zs _ (hzz.out.stays (Stays.of hbw))).mono ?_
          rintro e w2 ⟨rfl, hb2⟩
          go_wp2
          go_ret
          exact ⟨ret_bool hfin3.out.symm, hbw.trans (hb2.mono hbw.size)⟩
  · have hfin := Lib.hid (show right rs zs = false from by rw [right, if_neg hm])
    have hm' : rs.length < 1 ∨ 20 < rs.length ∨ zs.length < 1 ∨ 500 < zs.length := by unfold rightMany at hm; omega
    clear hm
    by_cases k1 : rs.length < 1
    · have k1' : decide ((rs.length : Int) < 1) = true := by simp; omega
      go_enter Try.func18, Try.ntmps18
      go_wp2
      go_ret
      exact ⟨ret_bool hfin.out.symm, (Below.refl _ _).alloc (Nat.le_refl _) _⟩
    · have k1' : decide ((rs.length : Int) < 1) = false := by simp; omega
      by_cases k2 : 20 < rs.length
      · have k2' : decide (20 < (rs.length : Int)) = true := by simp; omega
        go_enter Try.func18, Try.ntmps18
        go_wp2
        go_ret
        exact ⟨ret_bool hfin.out.symm, (Below.refl _ _).alloc (Nat.le_refl _) _⟩
      · have k2' : decide (20 < (rs.length : Int)) = false := by simp; omega
        by_cases k3 : zs.length < 1
        · have k3' : decide ((zs.length : Int) < 1) = true := by simp; omega
          go_enter Try.func18, Try.ntmps18
          go_wp2
          go_ret
          exact ⟨ret_bool hfin.out.symm, (Below.refl _ _).alloc (Nat.le_refl _) _⟩
        · have k3' : decide ((zs.length : Int) < 1) = false := by simp; omega
          have k4' : decide (500 < (zs.length : Int)) = true := by simp; omega
          go_enter Try.func18, Try.ntmps18
          go_wp2
          go_ret
          exact ⟨ret_bool hfin.out.symm, (Below.refl _ _).alloc (Nat.le_refl _) _⟩
end Go.Proofs.Ythbnbfeolfkkaaa
