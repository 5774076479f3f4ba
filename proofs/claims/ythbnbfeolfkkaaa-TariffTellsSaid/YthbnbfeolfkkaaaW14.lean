/- The walks of cmp.Compare, slices.BinarySearchFunc, scheme.labelled and scheme.group. -/
import Derived.Test.YthbnbfeolfkkaaaScheme
namespace Go.Proofs.Ythbnbfeolfkkaaa
open Go.RowKit
set_option maxHeartbeats 1000000 in
theorem isNaN_any (s : ByteArray) (w : World) : Calls Try.prog 103 #[.string s] w fun e w' => e = .returned (.bool false) ∧ w = w' := by
  have hs : (s.toList != s.toList) = false := by simp
  go_enter Try.func103, Try.ntmps103
  go_wp2
  go_ret
  exact ⟨rfl, rfl⟩
set_option maxHeartbeats 1000000 in
theorem compare_any (a b : ByteArray) (w : World) : Calls Try.prog 96 #[.string a, .string b] w fun e w' => e = .returned (.int .i64 (cmpB a b)) ∧ w = w' := by
  cases h1 : Op.bytesLess a.toList b.toList with
  | true =>
    have hfin := Lib.hid (show cmpB a b = -1 from by simp [cmpB, h1])
    go_enter Try.func96, Try.ntmps96
    go_wp2_with (go_at_call 103; refine (isNaN_any _ _).mono ?_; rintro e w' ⟨rfl, rfl⟩)
    go_ret
    exact ⟨ret_int hfin.out.symm, rfl⟩
  | false =>
    cases h2 : (a.toList == b.toList) with
    | true =>
      have hfin := Lib.hid (show cmpB a b = 0 from by unfold cmpB; rw [h1, h2]; rfl)
      go_enter Try.func96, Try.ntmps96
      go_wp2_with (go_at_call 103; refine (isNaN_any _ _).mono ?_; rintro e w' ⟨rfl, rfl⟩)
      go_ret
      exact ⟨ret_int hfin.out.symm, rfl⟩
    | false =>
      have hfin := Lib.hid (show cmpB a b = 1 from by unfold cmpB; rw [h1, h2]; rfl)
      go_enter Try.func96, Try.ntmps96
      go_wp2_with (go_at_call 103; refine (isNaN_any _ _).mono ?_; rintro e w' ⟨rfl, rfl⟩)
      go_ret
      exact ⟨ret_int hfin.out.symm, rfl⟩
set_option maxHeartbeats 1000000 in
theorem labelCmp_any (a g b : ByteArray) (w : World) : Calls Try.prog 95 #[.agg #[.string a, .string g], .string b] w fun e w' => e = .returned (.int .i64 (cmpB a b)) ∧ Below w.heap.size w w' := by
  go_enter Try.func95, Try.ntmps95
  go_wp2_with (go_at_call 96; refine (compare_any _ _ _).mono ?_; rintro e w' ⟨rfl, rfl⟩)
  go_ret
  exact ⟨rfl, (Below.refl _ _).alloc (Nat.le_refl _) _⟩
set_option maxHeartbeats 1000000 in
theorem bsearch_any (lv : Value) (ls : List Label) (p : ByteArray) (w : World) (h : IsLabels w lv ls) (hsm : ls.length ≤ 1000) :
    Calls Try.prog 94 #[lv, .string p, .func (.func 95) #[] #[]] w fun e w' => e = .returned (.tuple #[.int .i64 (bsAt ls p), .bool (bsHit ls p)]) ∧ Below w.heap.size w w' := by
  obtain ⟨A, c, rfl, hn, hc, hA⟩ := h
  have hc' : c ≤ 9223372036854775807 := hc
  have hA' := Lib.hid hA
  clear hA
  go_enter Try.func94, Try.ntmps94
  go_wp2
  go_loopw [9, 10] (fun iv jv wr => ∃ (f i j : Nat), j - i ≤ f ∧ i ≤ j ∧ j ≤ ls.length ∧ iv = .int .i64 i ∧ jv = .int .i64 j ∧ Below w.heap.size w wr ∧ Hid (bsAt ls p = bsGo ls p f i j))
    (fun iv jv _ => (intOf jv - intOf iv).toNat)
  case atStart => exact ⟨ls.length, 0, ls.length, by omega, by omega, by omega, rfl, rfl, Below.refl _ _, rfl⟩
  case round =>
    obtain ⟨f, i, j, hf, hij, hj, rfl, rfl, hbw, hrl⟩ := hrel
    by_cases hlt : i < j
    · obtain ⟨f, rfl⟩ : ∃ f', f = f' + 1 := ⟨f - 1, by omega⟩
      obtain ⟨b, off, rfl, hb, hi⟩ := hA'.out (by omega)
      have hml : (i + j) / 2 < ls.length := by omega
      have hst := (hi ((i + j) / 2) hml).stays (Stays.of hbw) hb
      have hbr : b < wr.heap.size := Nat.lt_of_lt_of_le hb hbw.size
      have hi' := Lib.hid hi
      clear hi hA'
      generalize hq : ls.getD ((i + j) / 2) Label.zero = q at hst
      have hq' := Lib.hid hq
      clear hq
      obtain ⟨lp, lg⟩ := q
      obtain ⟨g0, g1, hps, hgs⟩ := hst
      simp only at g0 g1 hps hgs
      go_wp2_with fail
      refine (labelCmp_any _ _ _ _).mono ?_
      rintro e w1 ⟨rfl, hb1⟩
      have hbw1 := hbw.trans (hb1.mono hbw.size)
      clear hb1
      by_cases hcm : cmpB lp p < 0
      · have hfin := Lib.hid (show bsAt ls p = bsGo ls p f ((i + j) / 2 + 1) j from by rw [hrl.out, bsGo_low hlt (by rw [hq'.out]; exact hcm)])
        go_wp2
        go_roundw
        case rel => exact ⟨f, (i + j) / 2 + 1, j, by omega, by omega, by omega, by go_num, rfl, hbw1, hfin⟩
        case measure => simp [intOf]; omega
      · have hfin := Lib.hid (show bsAt ls p = bsGo ls p f i ((i + j) / 2) from by rw [hrl.out, bsGo_high hlt (by rw [hq'.out]; exact hcm)])
        go_wp2
        go_roundw
        case rel => exact ⟨f, i, (i + j) / 2, by omega, by omega, by omega, rfl, by go_num, hbw1, hfin⟩
        case measure => simp [intOf]; omega
    · obtain rfl : i = j := by omega
      have hat := Lib.hid (show bsAt ls p = i from by rw [hrl.out, bsGo_end])
      by_cases hil : i < ls.length
      · obtain ⟨b, off, rfl, hb, hi⟩ := hA'.out (by omega)
        have hst := (hi i hil).stays (Stays.of hbw) hb
        have hbr : b < wr.heap.size := Nat.lt_of_lt_of_le hb hbw.size
        have hi' := Lib.hid hi
        clear hi hA'
        generalize hq : ls.getD i Label.zero = q at hst
        have hq' := Lib.hid hq
        clear hq
        obtain ⟨lp, lg⟩ := q
        obtain ⟨g0, g1, hps, hgs⟩ := hst
        simp only at g0 g1 hps hgs
        have hfin := Lib.hid (show bsHit ls p = (cmpB lp p == 0) from by
          unfold bsHit
          rw [hat.out, hq'.out]
          simp only [hil, decide_true, Bool.true_and]
          rw [Bool.eq_iff_iff]; simp)
        have hd : decide (i < ls.length) = true := by simpa using hil
        go_wp2_with fail
        refine (labelCmp_any _ _ _ _).mono ?_
        rintro e w1 ⟨rfl, hb1⟩
        have hbw1 := hbw.trans (hb1.mono hbw.size)
        clear hb1
        go_wp2
        go_ret2
        exact ⟨by rw [hfin.out, hat.out]; rfl, hbw1⟩
      · have hfin := Lib.hid (show bsHit ls p = false from by unfold bsHit; rw [hat.out]; simp [hil])
        have hd : decide (i < ls.length) = false := by simpa using hil
        go_wp2
        go_ret2
        exact ⟨by rw [hfin.out, hat.out]; rfl, hbw⟩

theorem bsHit_lt {ls : List Label} {p : ByteArray} (h : bsHit ls p = true) : bsAt ls p < ls.length := by
  unfold bsHit at h
  simp at h
  exact h.1

def optStr (o : Option ByteArray) : ByteArray := o.getD ⟨#[]⟩
set_option maxHeartbeats 1000000 in
theorem labelled_any (name : ByteArray) (pre least cents : Int) (lv : Value) (ls : List Label) (p : ByteArray) (w : World) (h : IsLabels w lv ls) (hsm : ls.length ≤ 1000) :
    Calls Try.prog 86 #[.agg #[.string name, .int .i64 pre, lv, .int .i64 least, .int .i64 cents], .string p] w fun e w' => e = .returned (.tuple #[.string (optStr (labelled ls p)), .bool (bsHit ls p)]) ∧ Below w.heap.size w w' := by
  have hh := Lib.hid h
  obtain ⟨A, c, rfl, hn, hc, hA⟩ := h
  have hc' : c ≤ 9223372036854775807 := hc
  have hA' := Lib.hid hA
  clear hA
  have hW := (Below.refl w.heap.size w).alloc (Nat.le_refl _) (.cells #[.string name, .int .i64 pre, .slice A ls.length c, .int .i64 least, .int .i64 cents] 54)
  go_enter Try.func86, Try.ntmps86
  go_wp2_with fail
  refine (bsearch_any _ ls p _ (hh.out.stays (Stays.of hW)) hsm).mono ?_
  rintro e w1 ⟨rfl, hb1⟩
  have hbw1 := hW.trans (hb1.mono (by simp))
  have x2 : w1.cell? ⟨w.heap.size, 2, none⟩ = some (.slice A ls.length c) := by rw [hb1.cell (by simp)]; simp
  have hsz1 : w.heap.size < w1.heap.size := by have := hb1.size; simp at this; omega
  clear hb1 hW
  cases hh2 : bsHit ls p with
  | true =>
    have hil := bsHit_lt hh2
    have hfin := Lib.hid (show labelled ls p = some (ls.getD (bsAt ls p) Label.zero).group from by rw [labelled, if_pos hh2])
    generalize bsAt ls p = i at hil hfin ⊢
    obtain ⟨b, off, rfl, hb, hi⟩ := hA'.out (by omega)
    have hst := (hi i hil).stays (Stays.of hbw1) hb
    have hbr : b < w1.heap.size := Nat.lt_of_lt_of_le hb hbw1.size
    have hi' := Lib.hid hi
    clear hi hA'
    generalize hq : ls.getD i Label.zero = q at hst hfin
    have hq' := Lib.hid hq
    clear hq
    obtain ⟨lp, lg⟩ := q
    obtain ⟨g0, g1, hps, hgs⟩ := hst
    simp only at g0 g1 hps hgs hfin
    go_wp2
    go_ret2
    exact ⟨by rw [hfin.out, hh2]; rfl, hbw1⟩
  | false =>
    have hfin := Lib.hid (show labelled ls p = none from by rw [labelled, if_neg (by simp [hh2])])
    go_wp2
    go_ret2
    exact ⟨by rw [hfin.out, hh2]; rfl, hbw1⟩

set_option maxHeartbeats 1000000 in
theorem group_any (name : ByteArray) (pre least cents : Int) (lv : Value) (ls : List Label) (code : ByteArray) (w : World) (h : IsLabels w lv ls) (hsm : ls.length ≤ 1000) (h0 : 0 ≤ pre) (h1 : pre ≤ code.size) (hcs : code.size ≤ maxLen) :
    Calls Try.prog 85 #[.agg #[.string name, .int .i64 pre, lv, .int .i64 least, .int .i64 cents], .string code] w fun e w' => e = .returned (.string (groupOf ⟨name, pre, ls, least, cents⟩ code)) ∧ Below w.heap.size w w' := by
  have hh := Lib.hid h
  have hcs' : code.size ≤ 9223372036854775807 := hcs
  obtain ⟨A, c, rfl, hn, hc, hA⟩ := h
  clear hA
  have hW := (Below.refl w.heap.size w).alloc (Nat.le_refl _) (.cells #[.string name, .int .i64 pre, .slice A ls.length c, .int .i64 least, .int .i64 cents] 54)
  obtain ⟨n, rfl⟩ := Int.eq_ofNat_of_zero_le h0
  have hnc : n ≤ code.size := by omega
  clear h0 h1
  go_enter Try.func85, Try.ntmps85
  go_wp2_with fail
  refine (labelled_any _ _ _ _ _ ls _ _ (hh.out.stays (Stays.of hW)) hsm).mono ?_
  rintro e w1 ⟨rfl, hb1⟩
  have hbw1 := hW.trans (hb1.mono (by simp))
  clear hb1 hW
  cases hh2 : bsHit ls (code.extract 0 n) with
  | true =>
    have hfin := Lib.hid (show groupOf ⟨name, n, ls, least, cents⟩ code = optStr (labelled ls (code.extract 0 n)) from by
      unfold groupOf
      simp only [Int.toNat_natCast]
      rw [labelled, if_pos hh2]; rfl)
    generalize labelled ls (code.extract 0 n) = o at hfin ⊢
    go_wp2
    go_ret
    exact ⟨by rw [hfin.out]; rfl, hbw1⟩
  | false =>
    have hfin := Lib.hid (show groupOf ⟨name, n, ls, least, cents⟩ code = code.extract 0 n from by
      unfold groupOf
      simp only [Int.toNat_natCast]
      rw [labelled, if_neg (by simp [hh2])])
    go_wp2
    go_ret
    exact ⟨by rw [hfin.out]; rfl, hbw1⟩
end Go.Proofs.Ythbnbfeolfkkaaa
