/- The walk of tariff.priceOf. -/
import Derived.Test.YthbnbfeolfkkaaaW6
namespace Go.Proofs.Ythbnbfeolfkkaaa
open Go.RowKit
set_option maxHeartbeats 1000000 in
theorem priceOf_any (cls bar zone grams : Int) (sv : Value) (ss : List Step) (w : World) (h : IsSteps w sv ss) (hz1 : 1 ≤ zone) (hz : ∀ s ∈ ss, zone ≤ (s.cents.length : Int)) (hzm : zone ≤ 1000000) :
    Calls Try.prog 42 #[.agg #[.int .u8 cls, sv, .int .i64 bar], .int .i64 zone, .int .i64 grams] w fun e w' => e = .returned (.tuple #[.int .i64 (priceOf ss zone grams).1, .int .i64 (priceOf ss zone grams).2]) ∧ Below w.heap.size w w' := by
  have hh := Lib.hid h
  obtain ⟨A, c, rfl, hn, hc, hA⟩ := h
  have hc' : c ≤ 9223372036854775807 := hc
  have hA' := Lib.hid hA
  have hz' := Lib.hid hz
  clear hA hz
  have hW : Stays w ((w.alloc (.cells #[.int .u8 cls, .slice A ss.length c, .int .i64 bar] 57)).alloc (.cells #[.int .i64 grams] 3)) := Stays.of (((Below.refl _ _).alloc (Nat.le_refl _) _).alloc (by simp) _)
  have hbl : Below w.heap.size w ((w.alloc (.cells #[.int .u8 cls, .slice A ss.length c, .int .i64 bar] 57)).alloc (.cells #[.int .i64 grams] 3)) := ((Below.refl _ _).alloc (Nat.le_refl _) _).alloc (by simp) _
  go_enter Try.func42, Try.ntmps42
  go_wp2_with fail
  refine (indexFunc_any grams _ ss _ _ (by simp) (by simp) (hh.out.stays hW)).mono ?_
  rintro e w1 ⟨rfl, hb1⟩
  have hbw := hbl.trans (hb1.mono (by simp; omega))
  have b1 : w1.cell? ⟨w.heap.size, 1, none⟩ = some (.slice A ss.length c) := by rw [hb1.cell (by simp; omega)]; simp
  have hsz : w.heap.size < w1.heap.size := by have := hb1.size; simp at this; omega
  clear hb1 hbl hW
  have hlt := stepAt_lt grams 0 ss
  by_cases hneg : stepAt grams 0 ss < 0
  · have hfin := Lib.hid (show priceOf ss zone grams = (0, 3) from by rw [priceOf, if_pos hneg])
    generalize stepAt grams 0 ss = i at hneg hlt
    go_wp2
    go_ret2
    exact ⟨ret_two (by rw [hfin.out]) (by rw [hfin.out]), hbw⟩
  · have hfin := Lib.hid (show priceOf ss zone grams = ((ss.getD (stepAt grams 0 ss).toNat Step.zero).cents.getD (zone - 1).toNat 0, 0) from by rw [priceOf, if_neg hneg])
    obtain ⟨i, hi⟩ := Int.eq_ofNat_of_zero_le (show 0 ≤ stepAt grams 0 ss by omega)
    have hi' := Lib.hid hi
    rw [hi] at hlt hneg ⊢
    have hil : i < ss.length := by omega
    clear hi hneg hlt
    obtain ⟨j, hj⟩ := Int.eq_ofNat_of_zero_le (show 0 ≤ zone - 1 by omega)
    obtain rfl : zone = (j : Int) + 1 := by omega
    have hst := (hA'.out (by omega))
    obtain ⟨b, off, rfl, hb, hR⟩ := hst
    have hst := (hR i hil).stays (Stays.of hbw) hb
    have hlen : (j : Int) + 1 ≤ ((ss.getD i Step.zero).cents.length : Int) := hz'.out _ (by rw [List.getD_eq_getElem?_getD, List.getElem?_eq_getElem hil]; exact List.getElem_mem hil)
    have hfin2 := Lib.hid (show priceOf ss ((j : Int) + 1) grams = ((ss.getD i Step.zero).cents.getD j 0, 0) from by rw [hfin.out, hi'.out]; simp)
    have hbr : b < w1.heap.size := Nat.lt_of_lt_of_le hb hbw.size
    clear hR hj hfin
    generalize ss.getD i Step.zero = s at hst hlen hfin2
    obtain ⟨g, cs⟩ := s
    obtain ⟨hg, cv, hcv, A2, c2, rfl, hn2, hc2, hA2⟩ := hst
    simp only at hg hcv hlen hn2 hA2
    have hc2' : c2 ≤ 9223372036854775807 := hc2
    obtain ⟨b2, off2, rfl, hb2, hR2⟩ := hA2 (by omega)
    have hce := hR2 j (by omega)
    clear hA2 hR2
    have hjl : j < cs.length := by omega
    generalize hx : cs.getD j 0 = x at hce
    have hx' := Lib.hid hx
    clear hx hc2 hc
    clear hA' hh
    clear hz1 hlen hzm
    go_wp2
    go_ret2
    exact ⟨ret_two (by rw [hfin2.out]; exact hx'.out.symm) (by rw [hfin2.out]), hbw⟩
end Go.Proofs.Ythbnbfeolfkkaaa
