/- The walk of slices.Min at integers. -/
import Derived.Test.YthbnbfeolfkkaaaMem
namespace Go.Proofs.Ythbnbfeolfkkaaa
open Go.RowKit
def minGo : Int → List Int → Int
  | m, [] => m
  | m, c :: t => minGo (if c < m then c else m) t
def minL : List Int → Int
  | [] => 0
  | c :: t => minGo c t
set_option maxHeartbeats 1000000 in
theorem min_any (v : Value) (x : Int) (xs : List Int) (w : World) (h : IsInts w v (x :: xs)) :
    Calls Try.prog 49 #[v] w fun e w' => e = .returned (.int .i64 (minL (x :: xs))) ∧ w = w' := by
  obtain ⟨A, c, rfl, hn, hc, hA⟩ := h
  have hc' : c ≤ 9223372036854775807 := hc
  obtain ⟨b, off, rfl, hb, hi⟩ := hA (by simp)
  have h0 := hi 0 (by simp)
  simp at h0
  have hi' := Lib.hid hi
  have hl : decide (((x :: xs).length : Int) < 1) = false := by simp; omega
  have hll : (x :: xs).length = xs.length + 1 := rfl
  have hll' := Lib.hid hll
  generalize (x :: xs).length = n at hn hl hll' hi' ⊢
  have hln := hll'.out
  have hn1 : 1 ≤ n := by omega
  have hn2 : n ≤ 9223372036854775807 := by omega
  clear hA hi hll hln
  go_enter Try.func49, Try.ntmps49
  go_wp2
  go_loop [3, 4] (fun mv iv => ∃ (k : Nat) (m : Int), 1 ≤ k ∧ k ≤ n ∧ iv = .int .i64 k ∧ mv = .int .i64 m ∧ Hid (minL (x :: xs) = minGo m ((x :: xs).drop k))) (fun _ iv => n - (intOf iv).toNat)
  case atStart => exact ⟨1, x, by omega, by omega, rfl, rfl, rfl⟩
  case round =>
    obtain ⟨k, m, hk1, hk, rfl, rfl, hrl⟩ := hrel
    by_cases hlt : k < n
    · have hce := hi'.out k hlt
      have hdr := Lib.hid (drop_getD (x :: xs) 0 k (by simp; have := hll'.out; omega))
      generalize (x :: xs).getD k 0 = y at hce hdr
      have hfin := Lib.hid (show minL (x :: xs) = minGo (if y < m then y else m) ((x :: xs).drop (k + 1)) from by rw [hrl.out, hdr.out]; rfl)
      go_wp2
      exact ⟨⟨k + 1, _, by omega, by omega, by go_num, rfl, hfin⟩, by simp [intOf]; omega⟩
    · have hfin := Lib.hid (show minL (x :: xs) = m from by rw [hrl.out, List.drop_of_length_le (by simp; have := hll'.out; omega)]; rfl)
      go_wp2
      go_ret
      exact ⟨ret_int hfin.out.symm, rfl⟩
end Go.Proofs.Ythbnbfeolfkkaaa
