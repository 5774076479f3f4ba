/- The walks of scheme.Code and tariff.prefix. -/
import Derived.Test.YthbnbfeolfkkaaaW2
namespace Go.Proofs.Ythbnbfeolfkkaaa
open Go.RowKit

set_option maxHeartbeats 1000000 in
theorem code_any (s : ByteArray) (w : World) (hs : s.size ≤ maxLen) :
    Calls Try.prog 47 #[.string s] w fun e w' => e = .returned (.bool (isCode s)) ∧ Below w.heap.size w w' := by
  have hs' : s.size ≤ 9223372036854775807 := hs
  by_cases hbad : s.size < 1 ∨ 10 < s.size
  · have hfin := Lib.hid (show isCode s = false from by rw [isCode, if_pos hbad])
    rcases hbad with h | h
    · have q1 : decide (1 ≤ (s.size : Int)) = false := by simp; omega
      go_enter Try.func47, Try.ntmps47
      go_wp2
      go_ret
      exact ⟨ret_bool hfin.out.symm, Below.refl _ _⟩
    · have q1 : decide (1 ≤ (s.size : Int)) = true := by simp; omega
      have q2 : decide ((s.size : Int) ≤ 10) = false := by simp; omega
      go_enter Try.func47, Try.ntmps47
      go_wp2
      go_ret
      exact ⟨ret_bool hfin.out.symm, Below.refl _ _⟩
  · have hfin := Lib.hid (show isCode s = isPlain s from by rw [isCode, if_neg hbad])
    have q1 : decide (1 ≤ (s.size : Int)) = true := by simp; omega
    have q2 : decide ((s.size : Int) ≤ 10) = true := by simp; omega
    clear hbad
    go_enter Try.func47, Try.ntmps47
    go_wp2_with (go_at_call 69; refine (isPlain_any _ _ hs).mono ?_; rintro e w' ⟨rfl, hb⟩)
    go_ret
    exact ⟨ret_bool hfin.out.symm, hb⟩

set_option maxHeartbeats 1000000 in
theorem prefix_any (s : ByteArray) (w : World) (hs : s.size ≤ maxLen) :
    Calls Try.prog 68 #[.string s] w fun e w' => e = .returned (.bool (isPart s)) ∧ Below w.heap.size w w' := by
  by_cases he : s.toList.isEmpty = true
  · have hfin := Lib.hid (show isPart s = true from by rw [isPart, he]; rfl)
    go_enter Try.func68, Try.ntmps68
    go_wp2
    go_ret
    exact ⟨ret_bool hfin.out.symm, Below.refl _ _⟩
  · have he' : s.toList.isEmpty = false := by simpa using he
    have hfin := Lib.hid (show isPart s = isCode s from by rw [isPart, he']; rfl)
    clear he
    go_enter Try.func68, Try.ntmps68
    go_wp2_with (go_at_call 47; refine (code_any _ _ hs).mono ?_; rintro e w' ⟨rfl, hb⟩)
    go_ret
    exact ⟨ret_bool hfin.out.symm, hb⟩
end Go.Proofs.Ythbnbfeolfkkaaa
