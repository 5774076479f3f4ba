/- The walks of the reference's small functions: within, plain, Code, part, begins, zones, rate. -/
import Derived.Test.YthbnbfeolfkkaaaL29
import Derived.Test.YthbnbfeolfkkaaaTellsP
import Derived.Test.YthbnbfeolfkkaaaW3
namespace Go.Proofs.Ythbnbfeolfkkaaa
open Go.RowKit

theorem within_yes_any {n l h : Int} (h1 : l ≤ n) (h2 : n ≤ h) (w : World) : Calls Try.prog 58 #[.int .i64 n, .int .i64 l, .int .i64 h] w fun e w' => e = .returned (.bool true) ∧ w' = w := by
  have q1 : decide (l ≤ n) = true := by simpa using h1
  have q2 : decide (n ≤ h) = true := by simpa using h2
  go_enter Try.func58, Try.ntmps58
  go_wp2
  go_ret
  exact ⟨rfl, rfl⟩
theorem within_no_any {n l h : Int} (hh : ¬ (l ≤ n ∧ n ≤ h)) (w : World) : Calls Try.prog 58 #[.int .i64 n, .int .i64 l, .int .i64 h] w fun e w' => e = .returned (.bool false) ∧ w' = w := by
  by_cases h1 : l ≤ n
  · have q1 : decide (l ≤ n) = true := by simpa using h1
    have q2 : decide (n ≤ h) = false := by simpa using fun h2 => hh ⟨h1, h2⟩
    clear hh h1
    go_enter Try.func58, Try.ntmps58
    go_wp2
    go_ret
    exact ⟨rfl, rfl⟩
  · have q1 : decide (l ≤ n) = false := by simpa using h1
    clear hh h1
    go_enter Try.func58, Try.ntmps58
    go_wp2
    go_ret
    exact ⟨rfl, rfl⟩
set_option maxHeartbeats 1000000 in
theorem plain_any (s : ByteArray) (w : World) (hs : s.size ≤ maxLen) : Calls Try.prog 76 #[.string s] w fun e w' => e = .returned (.bool (isPlain s)) ∧ w' = w := by
  have hs' : s.size ≤ 9223372036854775807 := hs
  go_enter Try.func76, Try.ntmps76
  go_wp2
  go_loop [3] (fun iv => ∃ j : Nat, j ≤ s.size ∧ iv = .int .i64 j ∧ Hid (isPlain s = isPlainL (s.data.toList.drop j))) (fun iv => s.size - (intOf iv).toNat)
  case atStart => exact ⟨0, by omega, rfl, rfl⟩
  case round =>
    obtain ⟨j, hj, rfl, hrl⟩ := hrel
    have n0 : (0 : Int) ≤ (j : Int) := by omega
    by_cases hlt : j < s.size
    · have n1 : (j : Int) < (s.size : Int) := by omega
      have hc := Lib.hid (drop_getD s.data.toList 0 j (by simpa using hlt))
      have he : s.data.toList.getD j 0 = s[j] := by
        have hl : j < s.data.toList.length := by simpa using hlt
        rw [List.getD_eq_getElem?_getD, List.getElem?_eq_getElem hl]
        rfl
      rw [he] at hc
      by_cases hp : plainByte s[j] = true
      · have hr2 := Lib.hid (show isPlain s = isPlainL (s.data.toList.drop (j + 1)) from by rw [hrl.out, hc.out, isPlainL_yes hp])
        have hp' : (65 ≤ s[j].toNat ∧ s[j].toNat ≤ 90) ∨ (48 ≤ s[j].toNat ∧ s[j].toNat ≤ 57) := by simpa [plainByte] using hp
        clear hp
        rcases hp' with ⟨p1, p2⟩ | ⟨p1, p2⟩
        · have q1 : decide (65 ≤ (s[j].toNat : Int)) = true := by simp; omega
          have q2 : decide ((s[j].toNat : Int) ≤ 90) = true := by simp; omega
          go_wp2
          go_round
          case rel => exact ⟨j + 1, by omega, by go_num, hr2⟩
          case measure => simp [intOf]; omega
        · have q1 : decide (65 ≤ (s[j].toNat : Int)) = false := by simp; omega
          have q2 : decide (48 ≤ (s[j].toNat : Int)) = true := by simp; omega
          have q3 : decide ((s[j].toNat : Int) ≤ 57) = true := by simp; omega
          go_wp2
          go_round
          case rel => exact ⟨j + 1, by omega, by go_num, hr2⟩
          case measure => simp [intOf]; omega
      · have hr2 := Lib.hid (show isPlain s = false from by rw [hrl.out, hc.out, isPlainL_no (by simpa using hp)])
        have hp' : s[j].toNat < 48 ∨ (57 < s[j].toNat ∧ s[j].toNat < 65) ∨ 90 < s[j].toNat := by simp [plainByte] at hp; omega
        clear hp
        rcases hp' with p1 | ⟨p1, p2⟩ | p1
        · have q1 : decide (65 ≤ (s[j].toNat : Int)) = false := by simp; omega
          have q2 : decide (48 ≤ (s[j].toNat : Int)) = false := by simp; omega
          go_wp2
          go_ret
          exact ⟨ret_bool hr2.out.symm, rfl⟩
        · have q1 : decide (65 ≤ (s[j].toNat : Int)) = false := by simp; omega
          have q2 : decide (48 ≤ (s[j].toNat : Int)) = true := by simp; omega
          have q3 : decide ((s[j].toNat : Int) ≤ 57) = false := by simp; omega
          go_wp2
          go_ret
          exact ⟨ret_bool hr2.out.symm, rfl⟩
        · have q1 : decide (65 ≤ (s[j].toNat : Int)) = true := by simp; omega
          have q2 : decide ((s[j].toNat : Int) ≤ 90) = false := by simp; omega
          have q3 : decide (48 ≤ (s[j].toNat : Int)) = true := by simp; omega
          have q4 : decide ((s[j].toNat : Int) ≤ 57) = false := by simp; omega
          go_wp2
          go_ret
          exact ⟨ret_bool hr2.out.symm, rfl⟩
    · have hfin := Lib.hid (show isPlain s = true from by rw [hrl.out, List.drop_of_length_le (by simp; omega)]; rfl)
      go_wp2
      go_ret
      exact ⟨ret_bool hfin.out.symm, rfl⟩
theorem refCode_any (s : ByteArray) (w : World) (hs : s.size ≤ maxLen) : Calls Try.prog 55 #[.string s] w fun e w' => e = .returned (.bool (isCode s)) ∧ w' = w := by
  have hs' : s.size ≤ 9223372036854775807 := hs
  by_cases hbad : s.size < 1 ∨ 10 < s.size
  · have hfin := Lib.hid (show isCode s = false from by rw [isCode, if_pos hbad])
    rcases hbad with h | h
    · have q1 : decide (1 ≤ (s.size : Int)) = false := by simp; omega
      go_enter Try.func55, Try.ntmps55
      go_wp2
      go_ret
      exact ⟨ret_bool hfin.out.symm, rfl⟩
    · have q1 : decide (1 ≤ (s.size : Int)) = true := by simp; omega
      have q2 : decide ((s.size : Int) ≤ 10) = false := by simp; omega
      go_enter Try.func55, Try.ntmps55
      go_wp2
      go_ret
      exact ⟨ret_bool hfin.out.symm, rfl⟩
  · have hfin := Lib.hid (show isCode s = isPlain s from by rw [isCode, if_neg hbad])
    have q1 : decide (1 ≤ (s.size : Int)) = true := by simp; omega
    have q2 : decide ((s.size : Int) ≤ 10) = true := by simp; omega
    clear hbad
    go_enter Try.func55, Try.ntmps55
    go_wp2_with (go_at_call 76; refine (plain_any _ _ hs).mono ?_; rintro e w' ⟨rfl, rfl⟩)
    go_ret
    exact ⟨ret_bool hfin.out.symm, rfl⟩
theorem part_any (s : ByteArray) (w : World) (hs : s.size ≤ maxLen) : Calls Try.prog 60 #[.string s] w fun e w' => e = .returned (.bool (isPart s)) ∧ w' = w := by
  by_cases he : s.toList.isEmpty = true
  · have hfin := Lib.hid (show isPart s = true from by rw [isPart, he]; rfl)
    go_enter Try.func60, Try.ntmps60
    go_wp2
    go_ret
    exact ⟨ret_bool hfin.out.symm, rfl⟩
  · have he' : s.toList.isEmpty = false := by simpa using he
    have hfin := Lib.hid (show isPart s = isCode s from by rw [isPart, he']; rfl)
    clear he
    go_enter Try.func60, Try.ntmps60
    go_wp2_with (go_at_call 55; refine (refCode_any _ _ hs).mono ?_; rintro e w' ⟨rfl, rfl⟩)
    go_ret
    exact ⟨ret_bool hfin.out.symm, rfl⟩
theorem begins_any (s p : ByteArray) (w : World) (hs : s.size ≤ maxLen) (hp : p.size ≤ maxLen) : Calls Try.prog 77 #[.string s, .string p] w fun e w' => e = .returned (.bool (hasPre s p)) ∧ w' = w := by
  have hs' : s.size ≤ 9223372036854775807 := hs
  have hp' : p.size ≤ 9223372036854775807 := hp
  by_cases h : p.size ≤ s.size
  · have hfin := Lib.hid (show hasPre s p = ((s.extract 0 p.size).toList == p.toList) from by simp [hasPre, h])
    go_enter Try.func77, Try.ntmps77
    go_wp2
    go_ret
    exact ⟨ret_bool hfin.out.symm, rfl⟩
  · have hfin := Lib.hid (show hasPre s p = false from by simp [hasPre, h])
    have h' : decide (p.size ≤ s.size) = false := by simpa using h
    go_enter Try.func77, Try.ntmps77
    go_wp2
    go_ret
    exact ⟨ret_bool hfin.out.symm, rfl⟩
set_option maxHeartbeats 400000 in
theorem refZones_any (rv zv : Value) (rs : List Rate) (w : World) (h : IsRates w rv rs) :
    Calls Try.prog 57 #[.agg #[rv, zv]] w fun e w' => e = .returned (.int .i64 (countZones rs)) ∧ Below w.heap.size w w' := by
  obtain ⟨A, c, rfl, hn, hc, hA⟩ := h
  cases rs with
  | nil =>
    go_enter Try.func57, Try.ntmps57
    go_wp2
    go_ret
    exact ⟨rfl, (Below.refl _ _).alloc (Nat.le_refl _) _⟩
  | cons r t =>
    obtain ⟨b, off, rfl, hb, hR⟩ := hA (by simp)
    have hR0 := hR 0 (by simp)
    simp only [IsRate, List.getD_cons_zero, Nat.zero_mul, Nat.add_zero] at hR0
    obtain ⟨_, ⟨sv, hsv, A2, c2, rfl, hn2, hc2, hA2⟩, _⟩ := hR0
    clear hR hA
    obtain ⟨cls, steps, bar⟩ := r
    cases steps with
    | nil =>
      simp only [List.length_nil] at hsv
      have h0 : (((t.length : Int) + 1) == 0) = false := by simp; omega
      go_enter Try.func57, Try.ntmps57
      go_wp2
      go_ret
      exact ⟨rfl, (Below.refl _ _).alloc (Nat.le_refl _) _⟩
    | cons s t2 =>
      obtain ⟨b2, off2, rfl, hb2, hR2⟩ := hA2 (by simp)
      have hR0 := hR2 0 (by simp)
      simp only [IsStep, List.getD_cons_zero, Nat.zero_mul, Nat.add_zero] at hR0
      obtain ⟨_, cv, hcv, A3, c3, rfl, hn3, hc3, hA3⟩ := hR0
      clear hR2 hA2 hA3
      simp only [List.length_cons] at hsv
      have h0 : (((t.length : Int) + 1) == 0) = false := by simp; omega
      have h1 : (((t2.length : Int) + 1) == 0) = false := by simp; omega
      go_enter Try.func57, Try.ntmps57
      go_wp2
      go_ret
      exact ⟨rfl, (Below.refl _ _).alloc (Nat.le_refl _) _⟩
def refRate (r : Rate) (n : Nat) : Bool := decide (1 ≤ r.cls) && rightRate r n
set_option maxHeartbeats 2000000 in
theorem refRate_any (cls bar : Int) (n : Nat) (sv : Value) (ss : List Step) (w : World) (h : IsSteps w sv ss) :
    Calls Try.prog 59 #[.agg #[.int .u8 cls, sv, .int .i64 bar], .int .i64 (n : Int)] w fun e w' => e = .returned (.bool (refRate ⟨cls, ss, bar⟩ n)) ∧ Below w.heap.size w w' := by
  obtain ⟨A, c, rfl, hn, hc, hA⟩ := h
  unfold maxLen at hc
  have hA' := Lib.hid hA
  clear hA
  by_cases q0 : cls < 1
  · have hfin := Lib.hid (show refRate ⟨cls, ss, bar⟩ n = false from by rw [refRate, show decide (1 ≤ cls) = false from by simp; omega]; rfl)
    go_enter Try.func59, Try.ntmps59
    go_wp2
    go_ret
    exact ⟨ret_bool hfin.out.symm, (Below.refl _ _).alloc (Nat.le_refl _) _⟩
  have hf0 := Lib.hid (show refRate ⟨cls, ss, bar⟩ n = rightRate ⟨cls, ss, bar⟩ n from by rw [refRate, show decide (1 ≤ cls) = true from by simp; omega]; rfl)
  have q0' : decide (cls < 1) = false := by simpa using q0
  clear q0
  by_cases q1 : 0 ≤ bar ∧ bar ≤ 1000000
  case neg =>
    have hfin := Lib.hid (show refRate ⟨cls, ss, bar⟩ n = false from by rw [hf0.out, rightRate, if_pos (by dsimp only; omega)])
    have hq := Lib.hid q1
    clear q1
    go_enter Try.func59, Try.ntmps59
    go_wp2_with fail
    refine (within_no_any hq.out _).mono ?_
    rintro e w1 ⟨rfl, rfl⟩
    go_wp2
    go_ret
    exact ⟨ret_bool hfin.out.symm, (Below.refl _ _).alloc (Nat.le_refl _) _⟩
  case pos =>
  by_cases q2 : (1 : Int) ≤ (ss.length : Int) ∧ (ss.length : Int) ≤ 20
  case neg =>
    have hfin := Lib.hid (show refRate ⟨cls, ss, bar⟩ n = false from by rw [hf0.out, rightRate, if_pos (by dsimp only; omega)])
    have hq := Lib.hid q2
    have hq1 := Lib.hid q1
    clear q1 q2
    go_enter Try.func59, Try.ntmps59
    go_wp2_with fail
    refine (within_yes_any hq1.out.1 hq1.out.2 _).mono ?_
    rintro e w1 ⟨rfl, rfl⟩
    go_wp2_with fail
    refine (within_no_any hq.out _).mono ?_
    rintro e w1 ⟨rfl, rfl⟩
    go_wp2
    go_ret
    exact ⟨ret_bool hfin.out.symm, (Below.refl _ _).alloc (Nat.le_refl _) _⟩
  case pos =>
  have hfin := Lib.hid (show refRate ⟨cls, ss, bar⟩ n = stepsOk n 0 ss from by rw [hf0.out, rightRate, if_neg (by dsimp only; omega)])
  have hq1 := Lib.hid q1
  have hq2 := Lib.hid q2
  clear q1 q2
  go_enter Try.func59, Try.ntmps59
  go_wp2_with fail
  refine (within_yes_any hq1.out.1 hq1.out.2 _).mono ?_
  rintro e w1 ⟨rfl, rfl⟩
  go_wp2_with fail
  refine (within_yes_any hq2.out.1 hq2.out.2 _).mono ?_
  rintro e w1 ⟨rfl, rfl⟩
  go_wp2
  go_loopw [5] (fun iv wr => ∃ (k : Nat) (bf : Int), k ≤ ss.length ∧ iv = .int .i64 k ∧ 0 ≤ bf ∧ (0 < k → (ss.getD (k - 1) Step.zero).grams = bf) ∧ (k = 0 → bf = 0) ∧ Below w.heap.size w wr ∧ Blk wr w.heap.size 57 #[.int .u8 cls, .slice A ss.length c, .int .i64 bar] ∧ Hid (stepsOk n 0 ss = stepsOk n bf (ss.drop k)))
    (fun iv _ => ss.length - (intOf iv).toNat)
  case atStart => exact ⟨0, 0, by omega, rfl, by omega, by omega, by omega, (Below.refl _ _).alloc (Nat.le_refl _) _, Blk.new _ _ _, rfl⟩
  case round =>
    obtain ⟨k, bf, hk, rfl, hbf0, hbf1, hbf2, hbw, hblk, hrl⟩ := hrel
    rename World => wr
    have n0 : (0 : Int) ≤ (k : Int) := by omega
    have hbl := hblk.lt
    have x1 := hblk.cell 1
    simp at x1
    by_cases hlt : k < ss.length
    · have n1 : (k : Int) < (ss.length : Int) := by omega
      obtain ⟨b, off, rfl, hb, hi⟩ := hA'.out (by omega)
      have hst := (hi k hlt).stays (Stays.of hbw) hb
      have hdr := Lib.hid (drop_getD ss Step.zero k hlt)
      have hbr : b < wr.heap.size := Nat.lt_of_lt_of_le hb hbw.size
      have hpv : 0 < k → wr.cell? ⟨b, off + (k - 1) * 2, none⟩ = some (.int .i64 bf) := fun h0 => by
        have := ((hi (k - 1) (by omega)).stays (Stays.of hbw) hb).1
        rw [hbf1 h0] at this
        exact this
      have hpv' := Lib.hid hpv
      clear hpv hi
      generalize hsg0 : ss.getD k Step.zero = s at hst hdr
      obtain ⟨g, cs⟩ := s
      have hsg := Lib.hid (congrArg Step.grams hsg0)
      clear hsg0
      simp only at hsg
      obtain ⟨hg, cv, hcv, A2, c2, rfl, hn2, hc2, hA2⟩ := hst
      simp only at hg
      unfold maxLen at hc2
      have hA2' := Lib.hid hA2
      clear hA2 hA' hbf1
      have hk1 := Lib.hid (hblk.alloc (.cells #[.int .i64 g, .slice A2 cs.length c2] 61))
      have hk2 := Lib.hid (Blk.new wr 61 #[.int .i64 g, .slice A2 cs.length c2])
      have hend : Below w.heap.size w (wr.alloc (.cells #[.int .i64 g, .slice A2 cs.length c2] 61)) := hbw.alloc hbw.size _
      have hup := Lib.hid ((Below.refl wr.heap.size wr).alloc (Nat.le_refl _) (.cells #[.int .i64 g, .slice A2 cs.length c2] 61))
      go_upto_region 7 with fail
      generalize wr.alloc (.cells #[.int .i64 g, .slice A2 cs.length c2] 61) = W at *
      have x1 := hk1.out.cell 1
      have z0 := hk2.out.cell 0
      have z1 := hk2.out.cell 1
      simp at x1 z0 z1
      have hkl := hk2.out.lt
      by_cases c1 : 1 ≤ g ∧ g ≤ 50000
      case neg =>
        have hf2 := Lib.hid (show refRate ⟨cls, ss, bar⟩ n = false from by rw [hfin.out, hrl.out, hdr.out, stepsOk_no (by dsimp only; omega)])
        have c1' := Lib.hid c1
        clear c1
        go_quiet (first | (go_at_call 58; refine Calls.quiet_of_same (within_no_any c1'.out _)))
        go_wp2
        go_ret
        exact ⟨ret_bool hf2.out.symm, below_n hend _⟩
      case pos =>
      have c1' := Lib.hid c1
      by_cases c2 : 0 < k ∧ g ≤ bf
      case pos =>
        have hf2 := Lib.hid (show refRate ⟨cls, ss, bar⟩ n = false from by rw [hfin.out, hrl.out, hdr.out, stepsOk_no (by dsimp only; omega)])
        have y0 : W.cell? ⟨b, off + (k - 1) * 2, none⟩ = some (.int .i64 bf) := (hup.out.cell hbr).trans (hpv'.out c2.1)
        obtain ⟨k', rfl⟩ : ∃ k', k = k' + 1 := ⟨k - 1, by omega⟩
        simp only [Nat.add_sub_cancel] at y0
        have i1 : (0 : Int) < ((k' + 1 : Nat) : Int) := by omega
        have i2 : ((k' + 1 : Nat) : Int) - 1 = (k' : Int) := by omega
        have i3 : (0 : Int) ≤ (k' : Int) := by omega
        have i4 : (k' : Int) < (ss.length : Int) := by omega
        have i5 : g ≤ bf := c2.2
        clear c1 c2 hbf2
        go_quiet (first | (go_at_call 58; refine Calls.quiet_of_same (within_yes_any c1'.out.1 c1'.out.2 _)))
        go_wp2
        go_ret
        exact ⟨ret_bool hf2.out.symm, below_n hend _⟩
      case neg =>
      rcases Nat.eq_zero_or_pos k with rfl | hkp
      · have i1 : (0 : Int) < ((0 : Nat) : Int) ↔ False := by simp
        have hb00 : bf = 0 := hbf2 rfl
        by_cases c3 : cs.length = n
        case neg =>
          have hf2 := Lib.hid (show refRate ⟨cls, ss, bar⟩ n = false from by rw [hfin.out, hrl.out, hdr.out, stepsOk_no (by dsimp only; omega)])
          have c3' : ((cs.length : Int) != (n : Int)) = true := by simp; omega
          clear c3
          go_quiet (first | (go_at_call 58; refine Calls.quiet_of_same (within_yes_any c1'.out.1 c1'.out.2 _)))
          go_wp2
          go_ret
          exact ⟨ret_bool hf2.out.symm, below_n hend _⟩
        case pos =>
          have c3' : ((cs.length : Int) != (n : Int)) = false := by simp; omega
          have hno := Lib.hid (show ¬ (g ≤ bf ∨ 50000 < g ∨ (cs.length : Int) ≠ (n : Int)) from by have := c1'.out; omega)
          clear c1 c2 hbf2
          go_quiet (first | (go_at_call 58; refine Calls.quiet_of_same (within_yes_any c1'.out.1 c1'.out.2 _)))
          go_wp2
          go_loop [7] (fun iv => ∃ j : Nat, j ≤ n ∧ iv = .int .i64 j ∧ Hid (centsOk cs = centsOk (cs.drop j))) (fun iv => n - (intOf iv).toNat)
          case atStart => exact ⟨0, by omega, rfl, rfl⟩
          case round =>
            obtain ⟨j, hj, rfl, hcr⟩ := hrel
            have j0 : (0 : Int) ≤ (j : Int) := by omega
            by_cases hlj : j < n
            · have j1 : (j : Int) < (cs.length : Int) := by omega
              obtain ⟨b3, off3, rfl, hb3, hi3⟩ := hA2'.out (by omega)
              have hce : W.cell? ⟨b3, off3 + j, none⟩ = some (.int .i64 (cs.getD j 0)) := (hup.out.cell hb3).trans (hi3 j (by omega))
              have hdc := Lib.hid (drop_getD cs 0 j (by omega))
              clear hi3
              generalize cs.getD j 0 = x at hce hdc
              by_cases hx : 0 ≤ x ∧ x ≤ 1000000
              · have hx' := Lib.hid hx
                have hcr' := Lib.hid (show centsOk cs = centsOk (cs.drop (j + 1)) from by rw [hcr.out, hdc.out, centsOk_yes hx.1 hx.2])
                clear hx
                go_wp2_with fail
                refine (within_yes_any hx'.out.1 hx'.out.2 _).mono ?_
                rintro e w1 ⟨rfl, rfl⟩
                go_wp2
                go_round
                case rel => exact ⟨j + 1, by omega, by go_num, hcr'⟩
                case measure => simp [intOf]; omega
              · have hx' := Lib.hid hx
                have hf3 := Lib.hid (show refRate ⟨cls, ss, bar⟩ n = false from by
                  rw [hfin.out, hrl.out, hdr.out, stepsOk_bad (by show centsOk cs = false; rw [hcr.out, hdc.out, centsOk_no (by omega)])])
                clear hx
                go_wp2_with fail
                refine (within_no_any hx'.out _).mono ?_
                rintro e w1 ⟨rfl, rfl⟩
                go_wp2
                go_ret
                exact ⟨ret_bool hf3.out.symm, below_n hend _⟩
            · have hall := Lib.hid (show stepsOk n 0 ss = stepsOk n g (ss.drop (0 + 1)) from by
                rw [hrl.out, hdr.out, stepsOk_yes hno.out (by show centsOk cs = true; rw [hcr.out, List.drop_of_length_le (by omega)]; rfl)])
              have hgl := c1'.out.1
              go_wp2
              go_roundw
              case rel => exact ⟨0 + 1, g, by omega, by go_num, by omega, fun _ => hsg.out, by omega, below_n hend _, (show Blk (W.drewN nq) w.heap.size 57 _ from hk1.out), hall⟩
              case measure => simp [intOf]; omega
      · obtain ⟨k', rfl⟩ : ∃ k', k = k' + 1 := ⟨k - 1, by omega⟩
        have y0 : W.cell? ⟨b, off + k' * 2, none⟩ = some (.int .i64 bf) := (hup.out.cell hbr).trans (hpv'.out (by omega))
        have i1 : (0 : Int) < ((k' + 1 : Nat) : Int) := by omega
        have i2 : ((k' + 1 : Nat) : Int) - 1 = (k' : Int) := by omega
        have i3 : (0 : Int) ≤ (k' : Int) := by omega
        have i4 : (k' : Int) < (ss.length : Int) := by omega
        have i5 : decide (g ≤ bf) = false := by simp; omega
        by_cases c3 : cs.length = n
        case neg =>
          have hf2 := Lib.hid (show refRate ⟨cls, ss, bar⟩ n = false from by rw [hfin.out, hrl.out, hdr.out, stepsOk_no (by dsimp only; omega)])
          have c3' : ((cs.length : Int) != (n : Int)) = true := by simp; omega
          clear c3
          go_quiet (first | (go_at_call 58; refine Calls.quiet_of_same (within_yes_any c1'.out.1 c1'.out.2 _)))
          go_wp2
          go_ret
          exact ⟨ret_bool hf2.out.symm, below_n hend _⟩
        case pos =>
          have c3' : ((cs.length : Int) != (n : Int)) = false := by simp; omega
          have hno := Lib.hid (show ¬ (g ≤ bf ∨ 50000 < g ∨ (cs.length : Int) ≠ (n : Int)) from by have := c1'.out; omega)
          clear c1 c2 hbf2
          go_quiet (first | (go_at_call 58; refine Calls.quiet_of_same (within_yes_any c1'.out.1 c1'.out.2 _)))
          go_wp2
          go_loop [7] (fun iv => ∃ j : Nat, j ≤ n ∧ iv = .int .i64 j ∧ Hid (centsOk cs = centsOk (cs.drop j))) (fun iv => n - (intOf iv).toNat)
          case atStart => exact ⟨0, by omega, rfl, rfl⟩
          case round =>
            obtain ⟨j, hj, rfl, hcr⟩ := hrel
            have j0 : (0 : Int) ≤ (j : Int) := by omega
            by_cases hlj : j < n
            · have j1 : (j : Int) < (cs.length : Int) := by omega
              obtain ⟨b3, off3, rfl, hb3, hi3⟩ := hA2'.out (by omega)
              have hce : W.cell? ⟨b3, off3 + j, none⟩ = some (.int .i64 (cs.getD j 0)) := (hup.out.cell hb3).trans (hi3 j (by omega))
              have hdc := Lib.hid (drop_getD cs 0 j (by omega))
              clear hi3
              generalize cs.getD j 0 = x at hce hdc
              by_cases hx : 0 ≤ x ∧ x ≤ 1000000
              · have hx' := Lib.hid hx
                have hcr' := Lib.hid (show centsOk cs = centsOk (cs.drop (j + 1)) from by rw [hcr.out, hdc.out, centsOk_yes hx.1 hx.2])
                clear hx
                go_wp2_with fail
                refine (within_yes_any hx'.out.1 hx'.out.2 _).mono ?_
                rintro e w1 ⟨rfl, rfl⟩
                go_wp2
                go_round
                case rel => exact ⟨j + 1, by omega, by go_num, hcr'⟩
                case measure => simp [intOf]; omega
              · have hx' := Lib.hid hx
                have hf3 := Lib.hid (show refRate ⟨cls, ss, bar⟩ n = false from by
                  rw [hfin.out, hrl.out, hdr.out, stepsOk_bad (by show centsOk cs = false; rw [hcr.out, hdc.out, centsOk_no (by omega)])])
                clear hx
                go_wp2_with fail
                refine (within_no_any hx'.out _).mono ?_
                rintro e w1 ⟨rfl, rfl⟩
                go_wp2
                go_ret
                exact ⟨ret_bool hf3.out.symm, below_n hend _⟩
            · have hall := Lib.hid (show stepsOk n 0 ss = stepsOk n g (ss.drop (k' + 1 + 1)) from by
                rw [hrl.out, hdr.out, stepsOk_yes hno.out (by show centsOk cs = true; rw [hcr.out, List.drop_of_length_le (by omega)]; rfl)])
              have hgl := c1'.out.1
              go_wp2
              go_roundw
              case rel => exact ⟨k' + 1 + 1, g, by omega, by go_num, by omega, fun _ => hsg.out, by omega, below_n hend _, (show Blk (W.drewN nq) w.heap.size 57 _ from hk1.out), hall⟩
              case measure => simp [intOf]; omega
    · have hf2 := Lib.hid (show refRate ⟨cls, ss, bar⟩ n = true from by rw [hfin.out, hrl.out, List.drop_of_length_le (by omega)]; rfl)
      go_wp2
      go_ret
      exact ⟨ret_bool hf2.out.symm, hbw⟩
end Go.Proofs.Ythbnbfeolfkkaaa
