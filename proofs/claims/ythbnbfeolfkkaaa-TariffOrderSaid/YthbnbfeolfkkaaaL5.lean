/- The walk of Pick: the rest of a number, from 0 on. -/
import Derived.Test.YthbnbfeolfkkaaaL4
namespace Go.Proofs.Ythbnbfeolfkkaaa
open Go.RowKit

theorem pick_neg (x n : Int) (hn : 1 ≤ n) (h : x.tmod n < 0) : x.tmod n + n = x % n := by
  have h1 := Int.tmod_add_mul_tdiv x n
  have h2 : -n < x.tmod n := Int.lt_tmod_of_pos x (by omega)
  have h3 : x % n = (x.tmod n + n) % n := by conv => lhs; rw [← h1]
                                             rw [Int.add_mul_emod_self_left]; simp
  rw [h3, Int.emod_eq_of_lt (by omega) (by omega)]
theorem pick_pos (x n : Int) (hn : 1 ≤ n) (h : 0 ≤ x.tmod n) : x.tmod n = x % n := by
  have h1 := Int.tmod_add_mul_tdiv x n
  have h2 : x.tmod n < n := Int.tmod_lt_of_pos x (by omega)
  have h3 : x % n = (x.tmod n) % n := by conv => lhs; rw [← h1]
                                         rw [Int.add_mul_emod_self_left]
  rw [h3, Int.emod_eq_of_lt (by omega) (by omega)]

set_option maxHeartbeats 400000 in
theorem pick_any (x n : Int) (w : World) (hn : 1 ≤ n) (hn2 : n ≤ 1000000000) :
    Calls Try.prog 23 #[.int .i64 x, .int .i64 n] w fun e w' => e = .returned (.int .i64 (x % n)) ∧ w = w' := by
  have h1 : ¬ n = 0 := by omega
  have h2 : ¬ n < 1 := by omega
  have h4 : -n < x.tmod n := Int.lt_tmod_of_pos x (by omega)
  have h5 : x.tmod n < n := Int.tmod_lt_of_pos x (by omega)
  by_cases h : x.tmod n < 0
  · have hfin := Lib.hid (pick_neg x n hn h)
    go_enter Try.func23, Try.ntmps23
    go_wp2
    go_ret
    exact ⟨ret_int hfin.out, rfl⟩
  · have hfin := Lib.hid (pick_pos x n hn (by omega))
    have h6 : 0 ≤ x.tmod n := by omega
    go_enter Try.func23, Try.ntmps23
    go_wp2
    go_ret
    exact ⟨ret_int hfin.out, rfl⟩
end Go.Proofs.Ythbnbfeolfkkaaa
