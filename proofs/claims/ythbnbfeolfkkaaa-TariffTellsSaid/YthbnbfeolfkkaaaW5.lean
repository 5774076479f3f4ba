/- The walks of strings.HasPrefix and tariff.zoneOf. -/
import Derived.Test.YthbnbfeolfkkaaaMem
namespace Go.Proofs.Ythbnbfeolfkkaaa
open Go.RowKit
set_option maxHeartbeats 1000000 in
theorem hasPrefix_lite (s p : ByteArray) (w : World) (hs : s.size ≤ maxLen) (hp : p.size ≤ maxLen) :
    Calls Try.prog 82 #[.string s, .string p] w fun e w' => e = .returned (.bool (hasPre s p)) ∧ w = w' := by
  have hs' : s.size ≤ 9223372036854775807 := hs
  have hp' : p.size ≤ 9223372036854775807 := hp
  by_cases h : p.size ≤ s.size
  · have hfin := Lib.hid (show hasPre s p = ((s.extract 0 p.size).toList == p.toList) from by simp [hasPre, h])
    go_enter Try.func82, Try.ntmps82
    go_wp2
    go_ret
    exact ⟨ret_bool hfin.out.symm, rfl⟩
  · have hfin := Lib.hid (show hasPre s p = false from by simp [hasPre, h])
    have h' : decide (p.size ≤ s.size) = false := by simpa using h
    go_enter Try.func82, Try.ntmps82
    go_wp2
    go_ret
    exact ⟨ret_bool hfin.out.symm, rfl⟩
set_option maxHeartbeats 1000000 in
theorem hasPrefix_any (s p : ByteArray) (w : World) (hs : s.size ≤ maxLen) (hp : p.size ≤ maxLen) :
    Calls Try.prog 67 #[.string s, .string p] w fun e w' => e = .returned (.bool (hasPre s p)) ∧ w = w' := by
  go_enter Try.func67, Try.ntmps67
  go_wp2_with (go_at_call 82; refine (hasPrefix_lite _ _ _ hs hp).mono ?_; rintro e w' ⟨rfl, rfl⟩)
  go_ret
  exact ⟨rfl, rfl⟩

set_option maxHeartbeats 2000000 in
theorem zoneOf_any (f t : ByteArray) (zv : Value) (zs : List Zone) (w : World) (h : IsZones w zv zs) (hfs : f.size ≤ maxLen) (hts : t.size ≤ maxLen) :
    Calls Try.prog 43 #[zv, .string f, .string t] w fun e w' => e = .returned (.int .i64 (zoneOf zs f t)) ∧ Below w.heap.size w w' := by
  obtain ⟨A, c, rfl, hn, hc, hA⟩ := h
  have hc' : c ≤ 9223372036854775807 := hc
  have hA' := Lib.hid hA
  clear hA
  go_enter Try.func43, Try.ntmps43
  go_wp2
  go_loopw [14] (fun iv wr => ∃ (k : Nat) (bf bt : ByteArray) (bz : Int), k ≤ zs.length ∧ iv = .int .i64 k ∧ bf.size ≤ maxLen ∧ bt.size ≤ maxLen ∧ Below w.heap.size w wr ∧ Blk wr w.heap.size 67 #[.string bf, .string bt, .int .i64 bz] ∧ Hid (zoneFold f t ⟨⟨#[]⟩, ⟨#[]⟩, 0⟩ zs = zoneFold f t ⟨bf, bt, bz⟩ (zs.drop k)))
    (fun iv _ => zs.length - (intOf iv).toNat)
  case atStart => exact ⟨0, _, _, _, by omega, rfl, Nat.zero_le _, Nat.zero_le _, (Below.refl _ _).alloc (Nat.le_refl _) _, Blk.new _ _ _, rfl⟩
  case round =>
    obtain ⟨k, bf, bt, bz, hk, rfl, hbf, hbt, hbw, hblk, hrl⟩ := hrel
    have hmb : w.heap.size < wr.heap.size := hblk.lt
    have hbf' : bf.size ≤ 9223372036854775807 := hbf
    have hbt' : bt.size ≤ 9223372036854775807 := hbt
    by_cases hlt : k < zs.length
    · obtain ⟨b, off, rfl, hb, hi⟩ := hA'.out (by omega)
      have hst := (hi k hlt).stays (Stays.of hbw) hb
      have hdr := Lib.hid (drop_getD zs Zone.zero k hlt)
      have hbr : b < wr.heap.size := Nat.lt_of_lt_of_le hb hbw.size
      have hi' := Lib.hid hi
      clear hi hA'
      generalize zs.getD k Zone.zero = r at hst hdr
      obtain ⟨rf, rt, zn⟩ := r
      obtain ⟨hf, ht, hzn, hrfs, hrts⟩ := hst
      simp only at hf ht hzn hrfs hrts
      have hrf' : rf.size ≤ 9223372036854775807 := hrfs
      have hrt' : rt.size ≤ 9223372036854775807 := hrts
      have hblk1 := Lib.hid (hblk.alloc (.cells #[.string rf, .string rt, .int .i64 zn] 67))
      have hend : Below w.heap.size w ((((wr.setCell ⟨w.heap.size, 0, none⟩ (.string rf)).setCell ⟨w.heap.size, 1, none⟩ (.string rt)).setCell ⟨w.heap.size, 2, none⟩ (.int .i64 zn)).alloc (.cells #[.string rf, .string rt, .int .i64 zn] 67)) :=
        (((hbw.setCell (by simp) _).setCell (by simp) _).setCell (by simp) _).alloc (by simp; omega) _
      have hblk2 := Lib.hid ((((hblk.set_ 0 (.string rf)).set_ 1 (.string rt)).set_ 2 (.int .i64 zn)).alloc (.cells #[.string rf, .string rt, .int .i64 zn] 67))
      have hbw1 : Below w.heap.size w (wr.alloc (.cells #[.string rf, .string rt, .int .i64 zn] 67)) := hbw.alloc hbw.size _
      have b0 := hblk.cell 0
      have b1 := hblk.cell 1
      have b2 := hblk.cell 2
      have f0 := hblk.frozen 0
      have f1 := hblk.frozen 1
      have f2 := hblk.frozen 2
      simp at b0 b1 b2
      clear hblk
      by_cases hp1 : hasPre f rf = true
      · by_cases hp2 : hasPre t rt = true
        · go_wp2_with fail
          refine (hasPrefix_any _ _ _ hfs hrfs).mono ?_
          rintro e w' ⟨rfl, rfl⟩
          go_wp2_with fail
          refine (hasPrefix_any _ _ _ hts hrts).mono ?_
          rintro e w' ⟨rfl, rfl⟩
          by_cases hbe : better ⟨bf, bt, bz⟩ ⟨rf, rt, zn⟩
          · have hfin := Lib.hid (show zoneFold f t ⟨⟨#[]⟩, ⟨#[]⟩, 0⟩ zs = zoneFold f t ⟨rf, rt, zn⟩ (zs.drop (k + 1)) from by rw [hrl.out, hdr.out, zoneFold_cons, zoneStep, if_pos (by simp [hp1, hp2]), if_pos hbe])
            have hbe' := Lib.hid hbe
            clear hbe
            by_cases c1 : bz = 0
            · subst c1
              go_wp2
              go_roundw
              case rel => exact ⟨k + 1, rf, rt, zn, by omega, by go_num, hrfs, hrts, hend, hblk2.out, hfin⟩
              case measure => simp [intOf]; omega
            · have c1' : (bz == 0) = false := by simpa using c1
              by_cases c2 : bf.size < rf.size
              · go_wp2
                go_roundw
                case rel => exact ⟨k + 1, rf, rt, zn, by omega, by go_num, hrfs, hrts, hend, hblk2.out, hfin⟩
                case measure => simp [intOf]; omega
              · have c3 : rf.size = bf.size ∧ bt.size < rt.size := by
                  rcases hbe'.out with h | h | h
                  · exact absurd h c1
                  · exact absurd h c2
                  · exact h
                have c2' : decide (bf.size < rf.size) = false := by simpa using c2
                have c3' : ((rf.size : Int) == (bf.size : Int)) = true := by simp; omega
                have c4 : bt.size < rt.size := c3.2
                clear c3 c1 c2
                go_wp2
                go_roundw
                case rel => exact ⟨k + 1, rf, rt, zn, by omega, by go_num, hrfs, hrts, hend, hblk2.out, hfin⟩
                case measure => simp [intOf]; omega
          · have hfin := Lib.hid (show zoneFold f t ⟨⟨#[]⟩, ⟨#[]⟩, 0⟩ zs = zoneFold f t ⟨bf, bt, bz⟩ (zs.drop (k + 1)) from by rw [hrl.out, hdr.out, zoneFold_cons, zoneStep, if_pos (by simp [hp1, hp2]), if_neg hbe])
            have c1' : (bz == 0) = false := by simp only [better] at hbe; simp; omega
            have c2' : decide (bf.size < rf.size) = false := by simp only [better] at hbe; simp; omega
            by_cases c3 : rf.size = bf.size
            · have c3' : ((rf.size : Int) == (bf.size : Int)) = true := by simp; omega
              have c4 : decide (bt.size < rt.size) = false := by simp only [better] at hbe; simp; omega
              clear c3 hbe
              go_wp2
              go_roundw
              case rel => exact ⟨k + 1, bf, bt, bz, by omega, by go_num, hbf, hbt, hbw1, hblk1.out, hfin⟩
              case measure => simp [intOf]; omega
            · have c3' : ((rf.size : Int) == (bf.size : Int)) = false := by simp; omega
              clear c3 hbe
              go_wp2
              go_roundw
              case rel => exact ⟨k + 1, bf, bt, bz, by omega, by go_num, hbf, hbt, hbw1, hblk1.out, hfin⟩
              case measure => simp [intOf]; omega
        · have hp2' : hasPre t rt = false := by simpa using hp2
          have hfin := Lib.hid (show zoneFold f t ⟨⟨#[]⟩, ⟨#[]⟩, 0⟩ zs = zoneFold f t ⟨bf, bt, bz⟩ (zs.drop (k + 1)) from by rw [hrl.out, hdr.out, zoneFold_cons, zoneStep, if_neg (by simp [hp2'])])
          go_wp2_with fail
          refine (hasPrefix_any _ _ _ hfs hrfs).mono ?_
          rintro e w' ⟨rfl, rfl⟩
          go_wp2_with fail
          refine (hasPrefix_any _ _ _ hts hrts).mono ?_
          rintro e w' ⟨rfl, rfl⟩
          go_wp2
          go_roundw
          case rel => exact ⟨k + 1, bf, bt, bz, by omega, by go_num, hbf, hbt, hbw1, hblk1.out, hfin⟩
          case measure => simp [intOf]; omega
      · have hp1' : hasPre f rf = false := by simpa using hp1
        have hfin := Lib.hid (show zoneFold f t ⟨⟨#[]⟩, ⟨#[]⟩, 0⟩ zs = zoneFold f t ⟨bf, bt, bz⟩ (zs.drop (k + 1)) from by rw [hrl.out, hdr.out, zoneFold_cons, zoneStep, if_neg (by simp [hp1'])])
        go_wp2_with fail
        refine (hasPrefix_any _ _ _ hfs hrfs).mono ?_
        rintro e w' ⟨rfl, rfl⟩
        go_wp2
        go_roundw
        case rel => exact ⟨k + 1, bf, bt, bz, by omega, by go_num, hbf, hbt, hbw1, hblk1.out, hfin⟩
        case measure => simp [intOf]; omega
    · have hfin := Lib.hid (show zoneOf zs f t = bz from by rw [zoneOf, hrl.out, List.drop_of_length_le (by omega)]; rfl)
      have b2 := hblk.cell 2
      simp at b2
      clear hblk
      go_wp2
      go_ret
      exact ⟨ret_int hfin.out.symm, hbw⟩
end Go.Proofs.Ythbnbfeolfkkaaa
