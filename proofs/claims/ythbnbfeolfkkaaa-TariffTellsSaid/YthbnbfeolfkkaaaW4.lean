/- The walk of tariff.rightRows. -/
import Derived.Test.YthbnbfeolfkkaaaW3
import Derived.Test.YthbnbfeolfkkaaaSets
namespace Go.Proofs.Ythbnbfeolfkkaaa
open Go.RowKit Go.Maps

set_option maxHeartbeats 1000000 in
theorem rightRows_any (z : Int) (zv : Value) (zs : List Zone) (w : World) (h : IsZones w zv zs) :
    Calls Try.prog 46 #[zv, .int .i64 z] w fun e w' => e = .returned (.bool (rightRows zs z)) ∧ Below w.heap.size w w' := by
  obtain ⟨A, c, rfl, hn, hc, hA⟩ := h
  have hc' : c ≤ 9223372036854775807 := hc
  have hA' := Lib.hid hA
  have hmm := @run_makeMap Try.prog
  clear hA
  go_enter Try.func46, Try.ntmps46
  go_wp2
  go_loopw [12] (fun iv wr => ∃ (k : Nat) (met : List (ByteArray × ByteArray)), k ≤ zs.length ∧ iv = .int .i64 k ∧ Below w.heap.size w wr ∧ SetM Try.prog 86 4 encPair wr w.heap.size k met ∧ Hid (rightRows zs z = rowsOk z met (zs.drop k)))
    (fun iv _ => zs.length - (intOf iv).toNat)
  case atStart => exact ⟨0, [], by omega, rfl, (Below.refl _ _).alloc (Nat.le_refl _) _, SetM.made _ _ _ _ _, rfl⟩
  case round =>
    clear hmm
    obtain ⟨k, met, hk, rfl, hbw, hset, hrl⟩ := hrel
    have hmb : w.heap.size < wr.heap.size := hset.lt
    by_cases hlt : k < zs.length
    · obtain ⟨b, off, rfl, hb, hi⟩ := hA'.out (by omega)
      have hst := (hi k hlt).stays (Stays.of hbw) hb
      have hdr := Lib.hid (drop_getD zs Zone.zero k hlt)
      have hbr : b < wr.heap.size := Nat.lt_of_lt_of_le hb hbw.size
      have hi' := Lib.hid hi
      clear hi hA'
      generalize zs.getD k Zone.zero = r at hst hdr
      obtain ⟨f, t, zn⟩ := r
      obtain ⟨hf, ht, hzn, hfs, hts⟩ := hst
      simp only at hf ht hzn hfs hts
      have hset1 := Lib.hid ((hset.alloc (.cells #[.string f, .string t, .int .i64 zn] 67)).alloc (.cells #[.string f, .string t] 86))
      have hbw1 : Below w.heap.size w ((wr.alloc (.cells #[.string f, .string t, .int .i64 zn] 67)).alloc (.cells #[.string f, .string t] 86)) := (hbw.alloc hbw.size _).alloc (by simp; omega) _
      clear hset
      by_cases hp1 : isPart f = true
      · go_wp2_with fail
        refine (prefix_any _ _ hfs).mono ?_
        rintro e w1 ⟨rfl, hb1⟩
        have hset2 := hset1.out.below hb1
        have hbw2 := hbw1.trans (hb1.mono (by simp; omega))
        have hsz1 := hb1.size
        have z2 : w1.cell? ⟨wr.heap.size, 2, none⟩ = some (.int .i64 zn) := by rw [hb1.cell (by simp; omega)]; simp
        have z1 : w1.cell? ⟨wr.heap.size, 1, none⟩ = some (.string t) := by rw [hb1.cell (by simp; omega)]; simp
        have y0 : w1.cell? ⟨wr.heap.size + 1, 0, none⟩ = some (.string f) := by rw [hb1.cell (by simp)]; simp
        have y1 : w1.cell? ⟨wr.heap.size + 1, 1, none⟩ = some (.string t) := by rw [hb1.cell (by simp)]; simp
        simp at hsz1
        clear hset1 hbw1 hb1
        by_cases hp2 : isPart t = true
        · go_wp2_with fail
          refine (prefix_any _ _ hts).mono ?_
          rintro e w2 ⟨rfl, hb2⟩
          have hset3 := hset2.below hb2
          have hbw3 := hbw2.trans (hb2.mono hbw2.size)
          have z2' : w2.cell? ⟨wr.heap.size, 2, none⟩ = some (.int .i64 zn) := by rw [hb2.cell (by simp; omega)]; exact z2
          have y0' : w2.cell? ⟨wr.heap.size + 1, 0, none⟩ = some (.string f) := by rw [hb2.cell (by simp; omega)]; exact y0
          have y1' : w2.cell? ⟨wr.heap.size + 1, 1, none⟩ = some (.string t) := by rw [hb2.cell (by simp; omega)]; exact y1
          have hsz2 := hb2.size
          clear z2 z1 y0 y1 hset2 hbw2 hb2
          obtain ⟨kl, hkl⟩ := keyOf_pair (f, t) hfs hts
          have hlook := hset3.look keyed86 Try.underlying114 Try.underlying4 (zero4 _) (f, t) hkl
          unfold encPair at hlook
          simp only at hlook
          obtain ⟨w3, hput, hset4, hgr⟩ := hset3.put keyed86 Try.underlying114 Try.underlying4 (by omega) encPair_inj (f, t) hkl
          unfold encPair at hput
          simp only at hput
          have hHk := Lib.hid hkl
          have hbw4 : Below w.heap.size w w3 := hbw3.grown hgr hbw3.size (by simp)
          by_cases hbad : rowBad z met ⟨f, t, zn⟩
          · have hfin := Lib.hid (show rightRows zs z = false from by rw [hrl.out, hdr.out, rowsOk_no hbad])
            simp only [rowBad, hp1, hp2] at hbad
            by_cases c1 : zn < 1
            · clear hbad hkl hput hgr hset4 hset3
              go_wp2
              go_ret
              exact ⟨ret_bool hfin.out.symm, hbw3⟩
            · by_cases c2 : z < zn
              · clear hbad hkl hput hgr hset4 hset3
                go_wp2
                go_ret
                exact ⟨ret_bool hfin.out.symm, hbw3⟩
              · have c3 : memB (f, t) met = true := by
                  rcases hbad with h | h | h | h | h
                  · cases h
                  · cases h
                  · omega
                  · omega
                  · exact h
                clear hbad hkl hput hgr hset4 hset3
                go_wp2
                go_ret
                exact ⟨ret_bool hfin.out.symm, hbw3⟩
          · have hfin := Lib.hid (show rightRows zs z = rowsOk z ((f, t) :: met) (zs.drop (k + 1)) from by rw [hrl.out, hdr.out, rowsOk_yes hbad])
            simp only [rowBad, hp1, hp2] at hbad
            have c1 : decide (zn < 1) = false := by simp; omega
            have c2 : decide (z < zn) = false := by simp; omega
            have c3 : memB (f, t) met = false := by
              cases hm : memB (f, t) met
              · rfl
              · exact absurd (.inr (.inr (.inr (.inr hm)))) hbad
            clear hbad hkl hset3
            have hset4' := Lib.hid hset4
            clear hset4
            go_wp2
            go_roundw
            case rel => exact ⟨k + 1, (f, t) :: met, by omega, by go_num, hbw4, hset4'.out, hfin⟩
            case measure => simp [intOf]; omega
        · have hp2' : isPart t = false := by simpa using hp2
          have hfin := Lib.hid (show rightRows zs z = false from by rw [hrl.out, hdr.out, rowsOk_no (.inr (.inl hp2'))])
          go_wp2_with fail
          refine (prefix_any _ _ hts).mono ?_
          rintro e w2 ⟨rfl, hb2⟩
          have hbw3 := hbw2.trans (hb2.mono hbw2.size)
          go_wp2
          go_ret
          exact ⟨ret_bool hfin.out.symm, hbw3⟩
      · have hp1' : isPart f = false := by simpa using hp1
        have hfin := Lib.hid (show rightRows zs z = false from by rw [hrl.out, hdr.out, rowsOk_no (.inl hp1')])
        go_wp2_with fail
        refine (prefix_any _ _ hfs).mono ?_
        rintro e w1 ⟨rfl, hb1⟩
        have hbw2 := hbw1.trans (hb1.mono (by simp; omega))
        go_wp2
        go_ret
        exact ⟨ret_bool hfin.out.symm, hbw2⟩
    · have hfin := Lib.hid (show rightRows zs z = memB (⟨#[]⟩, ⟨#[]⟩) met from by rw [hrl.out, List.drop_of_length_le (by omega)]; rfl)
      obtain ⟨kl, hkl⟩ := keyOf_pair (⟨#[]⟩, ⟨#[]⟩) (Nat.zero_le _) (Nat.zero_le _)
      have hlook := hset.look keyed86 Try.underlying114 Try.underlying4 (zero4 _) (⟨#[]⟩, ⟨#[]⟩) hkl
      unfold encPair at hlook
      simp only at hlook
      clear hset hkl
      go_wp2
      go_ret
      exact ⟨ret_bool hfin.out.symm, hbw⟩
end Go.Proofs.Ythbnbfeolfkkaaa
