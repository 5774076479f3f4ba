/- The walks of tariff.rateOf, of the closure of priceOf, and of slices.IndexFunc at it. -/
import Derived.Test.YthbnbfeolfkkaaaMem
namespace Go.Proofs.Ythbnbfeolfkkaaa
open Go.RowKit
set_option maxHeartbeats 1000000 in
theorem rateOf_yes (cls : Int) (rv zv : Value) (rs : List Rate) (r : Rate) (w : World) (h : IsRates w rv rs) (hr : rateOf cls rs = some r) :
    Calls Try.prog 41 #[.agg #[rv, zv], .int .u8 cls] w fun e w' => (∃ sv, e = .returned (.tuple #[.agg #[.int .u8 r.cls, sv, .int .i64 r.bar], .bool true]) ∧ IsSteps w sv r.steps) ∧ Below w.heap.size w w' := by
  obtain ⟨A, c, rfl, hn, hc, hA⟩ := h
  have hc' : c ≤ 9223372036854775807 := hc
  have hA' := Lib.hid hA
  have hr' := Lib.hid hr
  clear hA hr
  go_enter Try.func41, Try.ntmps41
  go_wp2
  go_loopw [11] (fun iv wr => ∃ (k : Nat), k ≤ rs.length ∧ iv = .int .i64 k ∧ Below w.heap.size w wr ∧ Blk wr (w.heap.size + 1) 57 #[.int .u8 0, .slice none 0 0, .int .i64 0] ∧ Hid (rateOf cls rs = rateOf cls (rs.drop k)))
    (fun iv _ => rs.length - (intOf iv).toNat)
  case atStart => exact ⟨0, by omega, rfl, ((Below.refl _ _).alloc (Nat.le_refl _) _).alloc (by simp) _, Blk.new_at _ _ _ _ (by simp), rfl⟩
  case round =>
    obtain ⟨k, hk, rfl, hbw, hblk, hrl⟩ := hrel
    have hmb : w.heap.size + 1 < wr.heap.size := hblk.lt
    by_cases hlt : k < rs.length
    · obtain ⟨b, off, rfl, hb, hi⟩ := hA'.out (by omega)
      have hi1 := hi k hlt
      have hst := hi1.stays (Stays.of hbw) hb
      have hdr := Lib.hid (drop_getD rs Rate.zero k hlt)
      have hbr : b < wr.heap.size := Nat.lt_of_lt_of_le hb hbw.size
      have hi' := Lib.hid hi
      clear hi hA'
      generalize rs.getD k Rate.zero = q at hi1 hst hdr
      obtain ⟨qc, qs, qb⟩ := q
      obtain ⟨h1, ⟨sv, h2, h3⟩, h4, _⟩ := hi1
      obtain ⟨g1, ⟨sv', g2, g3⟩, g4, _⟩ := hst
      rw [(Stays.of hbw).2 _ hb, h2] at g2
      injection g2 with g2
      subst g2
      have g2 : wr.cell? ⟨b, off + k * 3 + 1, none⟩ = some sv := ((Stays.of hbw).2 _ hb).trans h2
      simp only at g1 g4
      clear h1 h2 h4 g3
      simp only at h3
      have h3' := Lib.hid h3
      obtain ⟨A2, c2, rfl, hn2, hc2, hA2⟩ := h3
      clear hA2
      have f0 := hblk.frozen 0
      have f1 := hblk.frozen 1
      have f2 := hblk.frozen 2
      have b0 := hblk.cell 0
      have b1 := hblk.cell 1
      have b2 := hblk.cell 2
      simp at b0 b1 b2
      have hblk' := Lib.hid hblk
      clear hblk
      by_cases hq : qc = cls
      · subst hq
        go_wp2
        have hrq : r = ⟨qc, qs, qb⟩ := by
          have := hrl.out
          rw [hr'.out, hdr.out, rateOf_cons, if_pos rfl] at this
          exact Option.some.inj this
        subst hrq
        refine bodyPost_ret (results_row_tmp Try.results41 _ _ _ _ _ _ rfl ((((hblk'.out.set_ 0 (.int .u8 qc)).set_ 1 (.slice A2 qs.length c2)).set_ 2 (.int .i64 qb)).alloc _) Try.underlying57 rfl size57) rfl ⟨⟨_, rfl, h3'.out⟩, ?_⟩
        exact (((hbw.setCell (by simp) _).setCell (by simp) _).setCell (by simp) _).alloc (by simp; omega) _
      · have hq' : (qc == cls) = false := by simpa using hq
        have hno := Lib.hid (show rateOf cls rs = rateOf cls (rs.drop (k + 1)) from by rw [hrl.out, hdr.out, rateOf_cons, if_neg hq])
        go_wp2
        go_roundw
        case rel => exact ⟨k + 1, by omega, by go_num, hbw.alloc hbw.size _, hblk'.out.alloc _, hno⟩
        case measure => simp [intOf]; omega
    · have := hrl.out
      rw [hr'.out, List.drop_of_length_le (by omega)] at this
      cases this

set_option maxHeartbeats 1000000 in
theorem rateOf_no (cls : Int) (rv zv : Value) (rs : List Rate) (w : World) (h : IsRates w rv rs) (hr : rateOf cls rs = none) :
    Calls Try.prog 41 #[.agg #[rv, zv], .int .u8 cls] w fun e w' => e = .returned (.tuple #[.agg #[.int .u8 0, .slice none 0 0, .int .i64 0], .bool false]) ∧ Below w.heap.size w w' := by
  obtain ⟨A, c, rfl, hn, hc, hA⟩ := h
  have hc' : c ≤ 9223372036854775807 := hc
  have hA' := Lib.hid hA
  have hr' := Lib.hid hr
  clear hA hr
  go_enter Try.func41, Try.ntmps41
  go_wp2
  go_loopw [11] (fun iv wr => ∃ (k : Nat), k ≤ rs.length ∧ iv = .int .i64 k ∧ Below w.heap.size w wr ∧ Blk wr (w.heap.size + 1) 57 #[.int .u8 0, .slice none 0 0, .int .i64 0] ∧ Hid (rateOf cls rs = rateOf cls (rs.drop k)))
    (fun iv _ => rs.length - (intOf iv).toNat)
  case atStart => exact ⟨0, by omega, rfl, ((Below.refl _ _).alloc (Nat.le_refl _) _).alloc (by simp) _, Blk.new_at _ _ _ _ (by simp), rfl⟩
  case round =>
    obtain ⟨k, hk, rfl, hbw, hblk, hrl⟩ := hrel
    have hmb : w.heap.size + 1 < wr.heap.size := hblk.lt
    by_cases hlt : k < rs.length
    · obtain ⟨b, off, rfl, hb, hi⟩ := hA'.out (by omega)
      have hi1 := hi k hlt
      have hst := hi1.stays (Stays.of hbw) hb
      have hdr := Lib.hid (drop_getD rs Rate.zero k hlt)
      have hbr : b < wr.heap.size := Nat.lt_of_lt_of_le hb hbw.size
      have hi' := Lib.hid hi
      clear hi hA'
      generalize rs.getD k Rate.zero = q at hi1 hst hdr
      obtain ⟨qc, qs, qb⟩ := q
      obtain ⟨h1, ⟨sv, h2, h3⟩, h4, _⟩ := hi1
      obtain ⟨g1, ⟨sv', g2, g3⟩, g4, _⟩ := hst
      rw [(Stays.of hbw).2 _ hb, h2] at g2
      injection g2 with g2
      subst g2
      have g2 : wr.cell? ⟨b, off + k * 3 + 1, none⟩ = some sv := ((Stays.of hbw).2 _ hb).trans h2
      simp only at g1 g4
      clear h1 h2 h4 g3
      simp only at h3
      have h3' := Lib.hid h3
      obtain ⟨A2, c2, rfl, hn2, hc2, hA2⟩ := h3
      clear hA2
      have f0 := hblk.frozen 0
      have f1 := hblk.frozen 1
      have f2 := hblk.frozen 2
      have b0 := hblk.cell 0
      have b1 := hblk.cell 1
      have b2 := hblk.cell 2
      simp at b0 b1 b2
      have hblk' := Lib.hid hblk
      clear hblk
      by_cases hq : qc = cls
      · have := hrl.out
        rw [hr'.out, hdr.out, rateOf_cons, if_pos hq] at this
        cases this
      · have hq' : (qc == cls) = false := by simpa using hq
        have hno := Lib.hid (show rateOf cls rs = rateOf cls (rs.drop (k + 1)) from by rw [hrl.out, hdr.out, rateOf_cons, if_neg hq])
        go_wp2
        go_roundw
        case rel => exact ⟨k + 1, by omega, by go_num, hbw.alloc hbw.size _, hblk'.out.alloc _, hno⟩
        case measure => simp [intOf]; omega
    · have f0 := hblk.frozen 0
      have f1 := hblk.frozen 1
      have f2 := hblk.frozen 2
      have b0 := hblk.cell 0
      have b1 := hblk.cell 1
      have b2 := hblk.cell 2
      simp at b0 b1 b2
      have hblk' := Lib.hid hblk
      clear hblk
      go_wp2
      refine bodyPost_ret (results_row_tmp Try.results41 _ _ _ _ _ _ rfl (((hblk'.out.set_ 0 (.int .u8 0)).set_ 1 (.slice none 0 0)).set_ 2 (.int .i64 0)) Try.underlying57 rfl size57) rfl ⟨rfl, ?_⟩
      exact ((hbw.setCell (by simp) _).setCell (by simp) _).setCell (by simp) _

set_option maxHeartbeats 1000000 in
theorem holds_any (g grams : Int) (cv : Value) (B : Nat) (w : World) (hB : B < w.heap.size) (hc : w.cell? ⟨B, 0, none⟩ = some (.int .i64 grams)) :
    Calls Try.prog 65 #[.agg #[.int .i64 g, cv], .pointer (some ⟨B, 0, none⟩)] w fun e w' => e = .returned (.bool (decide (grams ≤ g))) ∧ Below w.heap.size w w' := by
  go_enter Try.func65, Try.ntmps65
  go_wp2
  go_ret
  exact ⟨rfl, (Below.refl _ _).alloc (Nat.le_refl _) _⟩

set_option maxHeartbeats 1000000 in
theorem indexFunc_any (grams : Int) (sv : Value) (ss : List Step) (B : Nat) (w : World) (hB : B < w.heap.size) (hcB : w.cell? ⟨B, 0, none⟩ = some (.int .i64 grams)) (h : IsSteps w sv ss) :
    Calls Try.prog 66 #[sv, .func (.func 65) #[] #[.pointer (some ⟨B, 0, none⟩)]] w fun e w' => e = .returned (.int .i64 (stepAt grams 0 ss)) ∧ Below w.heap.size w w' := by
  obtain ⟨A, c, rfl, hn, hc, hA⟩ := h
  have hc' : c ≤ 9223372036854775807 := hc
  have hA' := Lib.hid hA
  clear hA
  go_enter Try.func66, Try.ntmps66
  go_wp2
  go_loopw [8] (fun iv wr => ∃ (k : Nat), k ≤ ss.length ∧ iv = .int .i64 k ∧ Below w.heap.size w wr ∧ Hid (stepAt grams 0 ss = stepAt grams k (ss.drop k)))
    (fun iv _ => ss.length - (intOf iv).toNat)
  case atStart => exact ⟨0, by omega, rfl, Below.refl _ _, rfl⟩
  case round =>
    obtain ⟨k, hk, rfl, hbw, hrl⟩ := hrel
    by_cases hlt : k < ss.length
    · obtain ⟨b, off, rfl, hb, hi⟩ := hA'.out (by omega)
      have hst := (hi k hlt).stays (Stays.of hbw) hb
      have hdr := Lib.hid (drop_getD ss Step.zero k hlt)
      have hbr : b < wr.heap.size := Nat.lt_of_lt_of_le hb hbw.size
      have hBr : B < wr.heap.size := Nat.lt_of_lt_of_le hB hbw.size
      have hcr : wr.cell? ⟨B, 0, none⟩ = some (.int .i64 grams) := (hbw.cell hB).trans hcB
      have hi' := Lib.hid hi
      clear hi hA'
      generalize ss.getD k Step.zero = s at hst hdr
      obtain ⟨g, cs⟩ := s
      obtain ⟨hg, cv, hcv, A2, c2, rfl, hn2, hc2, hA2⟩ := hst
      simp only at hg hcv
      clear hA2
      go_wp2_with fail
      refine (holds_any _ _ _ _ _ hBr hcr).mono ?_
      rintro e w1 ⟨rfl, hb1⟩
      have hbw1 := hbw.trans (hb1.mono hbw.size)
      by_cases hge : grams ≤ g
      · have hfin := Lib.hid (show stepAt grams 0 ss = k from by rw [hrl.out, hdr.out, stepAt_cons, if_pos hge])
        go_wp2
        go_ret
        exact ⟨ret_int hfin.out.symm, hbw1⟩
      · have hfin := Lib.hid (show stepAt grams 0 ss = stepAt grams (k + 1) (ss.drop (k + 1)) from by rw [hrl.out, hdr.out, stepAt_cons, if_neg hge])
        go_wp2
        go_roundw
        case rel => exact ⟨k + 1, by omega, by go_num, hbw1, hfin⟩
        case measure => simp [intOf]; omega
    · have hfin := Lib.hid (show stepAt grams 0 ss = -1 from by rw [hrl.out, List.drop_of_length_le (by omega)]; rfl)
      go_wp2
      go_ret
      exact ⟨ret_int hfin.out.symm, hbw⟩
end Go.Proofs.Ythbnbfeolfkkaaa
