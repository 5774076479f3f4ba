/- The walk of scheme.isLevel. -/
import Derived.Test.YthbnbfeolfkkaaaW12
import Derived.Deep.QuietTactic
import Derived.BigQuiet
namespace Go.Proofs.Ythbnbfeolfkkaaa
open Go.RowKit

set_option maxHeartbeats 4000000 in
theorem isLevel_any (name : ByteArray) (pre least cents : Int) (lv : Value) (ls : List Label) (last : Bool) (w : World) (hns : name.size ≤ maxLen) (h : IsLabels w lv ls) :
    Calls Try.prog 70 #[.agg #[.string name, .int .i64 pre, lv, .int .i64 least, .int .i64 cents], .bool last] w fun e w' => e = .returned (.bool (isLevel ⟨name, pre, ls, least, cents⟩ last)) ∧ Below w.heap.size w w' := by
  obtain ⟨A, c, rfl, hn, hc, hA⟩ := h
  have hc' : c ≤ 9223372036854775807 := hc
  have hA' := Lib.hid hA
  clear hA
  have hW := (Below.refl w.heap.size w).alloc (Nat.le_refl _) (.cells #[.string name, .int .i64 pre, .slice A ls.length c, .int .i64 least, .int .i64 cents] 54)
  have hB0 := Blk.new w 54 #[.string name, .int .i64 pre, .slice A ls.length c, .int .i64 least, .int .i64 cents]
  go_enter Try.func70, Try.ntmps70
  go_wp2_with fail
  refine (isName_any _ _ hns).mono ?_
  rintro e w1 ⟨rfl, hb1⟩
  have hbw1 := hW.trans (hb1.mono (by simp))
  have hB := hB0.below hb1 (by simp)
  have hsz1 : w.heap.size < w1.heap.size := hB.lt
  have x1 := hB.cell 1
  have x2 := hB.cell 2
  have x3 := hB.cell 3
  have x4 := hB.cell 4
  simp at x1 x2 x3 x4
  have hB' := Lib.hid hB
  clear hb1 hW hB0 hB
  by_cases n0 : isName name = true
  · by_cases n1 : pre < 0
    · have hfin := Lib.hid (show isLevel ⟨name, pre, ls, least, cents⟩ last = false from by rw [isLevel, if_pos (.inr (.inl n1))])
      go_wp2
      go_ret
      exact ⟨ret_bool hfin.out.symm, hbw1⟩
    have n1' : decide (pre < 0) = false := by simpa using n1
    by_cases n2 : 10 < pre
    · have hfin := Lib.hid (show isLevel ⟨name, pre, ls, least, cents⟩ last = false from by rw [isLevel, if_pos (.inr (.inr (.inl n2)))])
      go_wp2
      go_ret
      exact ⟨ret_bool hfin.out.symm, hbw1⟩
    have n2' : decide (10 < pre) = false := by simpa using n2
    by_cases n3 : cents < 0
    · have hfin := Lib.hid (show isLevel ⟨name, pre, ls, least, cents⟩ last = false from by rw [isLevel, if_pos (.inr (.inr (.inr (.inl n3))))])
      go_wp2
      go_ret
      exact ⟨ret_bool hfin.out.symm, hbw1⟩
    have n3' : decide (cents < 0) = false := by simpa using n3
    by_cases n4 : 1000000 < cents
    · have hfin := Lib.hid (show isLevel ⟨name, pre, ls, least, cents⟩ last = false from by rw [isLevel, if_pos (.inr (.inr (.inr (.inr n4))))])
      go_wp2
      go_ret
      exact ⟨ret_bool hfin.out.symm, hbw1⟩
    have n4' : decide (1000000 < cents) = false := by simpa using n4
    have hgood : ¬ levelBad ⟨name, pre, ls, least, cents⟩ := by unfold levelBad; simp [n0]; omega
    cases last with
    | true =>
      have hfin := Lib.hid (show isLevel ⟨name, pre, ls, least, cents⟩ true = (decide (least = 0) && decide (pre = 0) && decide (ls.length = 0)) from by rw [isLevel, if_neg hgood]; rfl)
      clear hgood
      by_cases m1 : least = 0
      · subst m1
        by_cases m2 : pre = 0
        · subst m2
          have hfin2 := Lib.hid (show isLevel ⟨name, 0, ls, 0, cents⟩ true = ((ls.length : Int) == 0) from by rw [hfin.out]; simp; rw [Bool.eq_iff_iff]; simp)
          go_wp2
          go_ret
          exact ⟨ret_bool hfin2.out.symm, hbw1⟩
        · have m2' : (pre == 0) = false := by simpa using m2
          have hfin2 := Lib.hid (show isLevel ⟨name, pre, ls, 0, cents⟩ true = false from by rw [hfin.out]; simp [m2])
          go_wp2
          go_ret
          exact ⟨ret_bool hfin2.out.symm, hbw1⟩
      · have m1' : (least == 0) = false := by simpa using m1
        have hfin2 := Lib.hid (show isLevel ⟨name, pre, ls, least, cents⟩ true = false from by rw [hfin.out]; simp [m1])
        go_wp2
        go_ret
        exact ⟨ret_bool hfin2.out.symm, hbw1⟩
    | false =>
      have hfin := Lib.hid (show isLevel ⟨name, pre, ls, least, cents⟩ false = if least < 1 ∨ 2000 < least then false else labelsOk pre none ls from by rw [isLevel, if_neg hgood]; rfl)
      clear hgood
      by_cases m1 : least < 1
      · have hfin2 := Lib.hid (show isLevel ⟨name, pre, ls, least, cents⟩ false = false from by rw [hfin.out, if_pos (.inl m1)])
        go_wp2
        go_ret
        exact ⟨ret_bool hfin2.out.symm, hbw1⟩
      have m1' : decide (least < 1) = false := by simpa using m1
      by_cases m2 : 2000 < least
      · have hfin2 := Lib.hid (show isLevel ⟨name, pre, ls, least, cents⟩ false = false from by rw [hfin.out, if_pos (.inr m2)])
        go_wp2
        go_ret
        exact ⟨ret_bool hfin2.out.symm, hbw1⟩
      have m2' : decide (2000 < least) = false := by simpa using m2
      have hfin2 := Lib.hid (show isLevel ⟨name, pre, ls, least, cents⟩ false = labelsOk pre none ls from by rw [hfin.out, if_neg (by omega)])
      clear hfin n1 n2 n3 n4 m1 m2
      go_wp2
      go_loopw [57] (fun iv wr => ∃ (k : Nat) (prev : Option ByteArray), k ≤ ls.length ∧ iv = .int .i64 k ∧ Below w.heap.size w wr ∧ Blk wr w.heap.size 54 #[.string name, .int .i64 pre, .slice A ls.length c, .int .i64 least, .int .i64 cents] ∧ Hid (prev = if k = 0 then none else some (ls.getD (k - 1) Label.zero).pre) ∧ Hid (labelsOk pre none ls = labelsOk pre prev (ls.drop k)))
        (fun iv _ => ls.length - (intOf iv).toNat)
      case atStart => exact ⟨0, none, by omega, rfl, hbw1, hB'.out, rfl, rfl⟩
      case round =>
        obtain ⟨k, prev, hk, rfl, hbw, hblk, hpv, hrl⟩ := hrel
        clear x1 x2 x3 x4 hB'
        have hws : w.heap.size < wr.heap.size := hblk.lt
        by_cases hlt : k < ls.length
        · obtain ⟨b, off, rfl, hb, hi⟩ := hA'.out (by omega)
          have hst := (hi k hlt).stays (Stays.of hbw) hb
          have hdr := Lib.hid (drop_getD ls Label.zero k hlt)
          have hbr : b < wr.heap.size := Nat.lt_of_lt_of_le hb hbw.size
          have hi' := Lib.hid hi
          clear hi hA'
          generalize hq : ls.getD k Label.zero = q at hst hdr
          have hq' := Lib.hid hq
          clear hq
          obtain ⟨lp, lg⟩ := q
          obtain ⟨g0, g1, hps, hgs⟩ := hst
          simp only at g0 g1 hps hgs
          have hps' : lp.size ≤ 9223372036854775807 := hps
          have y1 := hblk.cell 1
          have y2 := hblk.cell 2
          simp at y1 y2
          have hblk1 := Lib.hid (hblk.alloc (.cells #[.string lp, .string lg] 90))
          have hW : Below w.heap.size w (wr.alloc (.cells #[.string lp, .string lg] 90)) := hbw.alloc hbw.size _
          have hWb : Blk (wr.alloc (.cells #[.string lp, .string lg] 90)) wr.heap.size 90 #[.string lp, .string lg] := Blk.new _ _ _
          have hWb' := Lib.hid hWb
          clear hblk hWb
          by_cases m3 : (lp.size : Int) = pre
          · have m3' : ((lp.size : Int) != pre) = false := by simpa using m3
            have m3'' := Lib.hid m3
            clear m3
            go_wp2_with fail
            refine (isPlain_any _ _ hps).mono ?_
            rintro e w2 ⟨rfl, hb2⟩
            have hbw2 := hW.trans (hb2.mono (by simp; omega))
            have hblk2 := Lib.hid (hblk1.out.below hb2 (by simp; omega))
            have hWb2 := Lib.hid (hWb'.out.below hb2 (by simp))
            have z0 := hWb2.out.cell 0
            have z1 := hWb2.out.cell 1
            simp at z0 z1
            have hsz2 : wr.heap.size < w2.heap.size := hWb2.out.lt
            clear hb2 hW hblk1 hWb'
            by_cases m4 : isPlain lp = true
            · go_wp2_with fail
              refine (isName_any _ _ hgs).mono ?_
              rintro e w3 ⟨rfl, hb3⟩
              have hbw3 := hbw2.trans (hb3.mono (by omega))
              have hblk3 := Lib.hid (hblk2.out.below hb3 (by omega))
              have hWb3 := Lib.hid (hWb2.out.below hb3 hsz2)
              have a0 := hWb3.out.cell 0
              have a1 := hWb3.out.cell 1
              have c1 := hblk3.out.cell 1
              have c2 := hblk3.out.cell 2
              simp at a0 a1 c1 c2
              have hsz3 : wr.heap.size < w3.heap.size := hWb3.out.lt
              have hsz3' : w.heap.size < w3.heap.size := by omega
              clear hb3 hbw2 hblk2 hWb2 z0 z1
              by_cases m5 : isName lg = true
              · rcases Nat.eq_zero_or_pos k with hk0 | hk0
                · subst hk0
                  have hpv0 : prev = none := hpv.out
                  subst hpv0
                  have hfin3 := Lib.hid (show labelsOk pre none ls = labelsOk pre (some lp) (ls.drop (0 + 1)) from by rw [hrl.out, hdr.out, labelsOk_yes (by simp [labelBad, prevBad, m4, m5, m3''.out])])
                  have hd0 : decide ((0 : Int) < 0) = false := by decide
                  go_wp2
                  go_quiet (fail)
                  go_wp2
                  go_roundw
                  case rel => exact ⟨0 + 1, some lp, by omega, by go_num, below_n hbw3 _, hblk3.out, by rw [hq'.out]; rfl, hfin3⟩
                  case measure => simp [intOf]; omega
                · obtain ⟨j, rfl⟩ : ∃ j, k = j + 1 := ⟨k - 1, by omega⟩
                  have hpr := (hi'.out j (by omega)).stays (Stays.of hbw3) hb
                  have hpv2 : Hid (prev = some (ls.getD j Label.zero).pre) := hpv.out
                  generalize ls.getD j Label.zero = r at hpr hpv2
                  obtain ⟨rp, rg⟩ := r
                  obtain ⟨p0, p1, hrs, _⟩ := hpr
                  simp only at p0 p1 hrs hpv2
                  have hb3 : b < w3.heap.size := by omega
                  have i1 : IntKind.i64.wrap ((j : Int) + 1 - 1) = j := by rw [IntWalk.i64_in _ (by omega)]; exact Int.add_sub_cancel _ _
                  have i2 : (0 : Int) ≤ (j : Int) + 1 - 1 := by omega
                  have i3 : ((j : Int) + 1 - 1).toNat = j := by omega
                  have i4 : decide ((0 : Int) < (j : Int) + 1) = true := by simp <;> omega
                  cases hL : leqB lp rp with
                  | true =>
                    have hfin3 := Lib.hid (show isLevel ⟨name, pre, ls, least, cents⟩ false = false from by rw [hfin2.out, hrl.out, hdr.out, labelsOk_no (by rw [hpv2.out]; simp [labelBad, prevBad, hL])])
                    unfold leqB at hL
                    go_wp2
                    go_quiet (fail)
                    go_wp2
                    go_ret
                    exact ⟨ret_bool hfin3.out.symm, below_n hbw3 _⟩
                  | false =>
                    have hfin3 := Lib.hid (show labelsOk pre none ls = labelsOk pre (some lp) (ls.drop (j + 1 + 1)) from by rw [hrl.out, hdr.out, labelsOk_yes (by rw [hpv2.out]; simp [labelBad, prevBad, hL, m4, m5, m3''.out])])
                    unfold leqB at hL
                    go_wp2
                    go_quiet (fail)
                    go_wp2
                    go_roundw
                    case rel => exact ⟨j + 1 + 1, some lp, by omega, by go_num, below_n hbw3 _, hblk3.out, (by show some lp = some (ls.getD (j + 1) Label.zero).pre; rw [hq'.out]), hfin3⟩
                    case measure => simp [intOf]; omega
              · have m5' : isName lg = false := by simpa using m5
                have hfin3 := Lib.hid (show isLevel ⟨name, pre, ls, least, cents⟩ false = false from by rw [hfin2.out, hrl.out, hdr.out, labelsOk_no (by simp [labelBad, m5'])])
                go_wp2
                go_ret
                exact ⟨ret_bool hfin3.out.symm, hbw3⟩
            · have m4' : isPlain lp = false := by simpa using m4
              have hfin3 := Lib.hid (show isLevel ⟨name, pre, ls, least, cents⟩ false = false from by rw [hfin2.out, hrl.out, hdr.out, labelsOk_no (by simp [labelBad, m4'])])
              go_wp2
              go_ret
              exact ⟨ret_bool hfin3.out.symm, hbw2⟩
          · have m3' : ((lp.size : Int) != pre) = true := by simpa using m3
            have hfin3 := Lib.hid (show isLevel ⟨name, pre, ls, least, cents⟩ false = false from by rw [hfin2.out, hrl.out, hdr.out, labelsOk_no (by simp [labelBad, m3])])
            clear m3
            go_wp2
            go_ret
            exact ⟨ret_bool hfin3.out.symm, hW⟩
        · have hfin3 := Lib.hid (show isLevel ⟨name, pre, ls, least, cents⟩ false = true from by rw [hfin2.out, hrl.out, List.drop_of_length_le (by omega)]; cases prev <;> rfl)
          go_wp2
          go_ret
          exact ⟨ret_bool hfin3.out.symm, hbw⟩
  · have n0' : isName name = false := by simpa using n0
    have hfin := Lib.hid (show isLevel ⟨name, pre, ls, least, cents⟩ last = false from by rw [isLevel, if_pos (.inl n0')])
    go_wp2
    go_ret
    exact ⟨ret_bool hfin.out.symm, hbw1⟩
end Go.Proofs.Ythbnbfeolfkkaaa
