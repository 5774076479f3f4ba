/- The walk of scheme.isName and of what it calls. -/
import Derived.Test.YthbnbfeolfkkaaaScheme
import Derived.Test.YthbnbfeolfkkaaaW2
namespace Go.Proofs.Ythbnbfeolfkkaaa
open Go.RowKit
theorem nameByte_iff (c : UInt8) : (decide ((c.toNat : Int) < 33) || decide (126 < (c.toNat : Int))) = !nameByte c := by
  unfold nameByte
  by_cases h1 : 33 ≤ c.toNat <;> by_cases h2 : c.toNat ≤ 126 <;> simp [h1, h2] <;> omega
set_option maxHeartbeats 1000000 in
theorem nameByte_any (c : UInt8) (w : World) :
    Calls Try.prog 93 #[.int .u8 (c.toNat : Int)] w fun e w' => e = .returned (.bool (!nameByte c)) ∧ w = w' := by
  have hfin := Lib.hid (nameByte_iff c)
  generalize c.toNat = n at hfin
  by_cases h1 : n < 33
  · have h1' : decide ((n : Int) < 33) = true := by simp; omega
    have hf2 := Lib.hid (show (!nameByte c) = true from by rw [← hfin.out, h1']; rfl)
    go_enter Try.func93, Try.ntmps93
    go_wp2
    go_ret
    exact ⟨ret_bool hf2.out.symm, rfl⟩
  · have h1' : decide ((n : Int) < 33) = false := by simp; omega
    have hf2 := Lib.hid (show (!nameByte c) = decide (126 < (n : Int)) from by rw [← hfin.out, h1']; rfl)
    go_enter Try.func93, Try.ntmps93
    go_wp2
    go_ret
    exact ⟨ret_bool hf2.out.symm, rfl⟩

set_option maxHeartbeats 1000000 in
theorem indexByte_any (l : List UInt8) (g n cap : Nat) (w : World) (hl : l.length = n) (hn : n ≤ 9223372036854775807) (_hg : g < w.heap.size) (hc : ∀ j, j < n → w.cell? ⟨g, j, none⟩ = some (.int .u8 ((l.getD j 0).toNat : Int))) :
    Calls Try.prog 102 #[.slice (some ⟨g, 0, none⟩) n cap, .func (.func 93) #[] #[]] w fun e w' => e = .returned (.int .i64 (badAt 0 l)) ∧ w = w' := by
  have hc' := Lib.hid hc
  have hl' := Lib.hid hl
  clear hc hl
  go_enter Try.func102, Try.ntmps102
  go_wp2
  go_loop [8] (fun iv => ∃ k : Nat, k ≤ n ∧ iv = .int .i64 k ∧ Hid (badAt 0 l = badAt k (l.drop k))) (fun iv => n - (intOf iv).toNat)
  case atStart => exact ⟨0, by omega, rfl, rfl⟩
  case round =>
    obtain ⟨k, hk, rfl, hrl⟩ := hrel
    by_cases hlt : k < n
    · have hce := hc'.out k hlt
      have hdr := Lib.hid (drop_getD l 0 k (by rw [hl'.out]; exact hlt))
      generalize l.getD k 0 = c at hce hdr
      go_wp2_with fail
      refine (nameByte_any c _).mono ?_
      rintro e w1 ⟨rfl, rfl⟩
      cases hb : nameByte c with
      | true =>
        have hfin := Lib.hid (show badAt 0 l = badAt (k + 1) (l.drop (k + 1)) from by rw [hrl.out, hdr.out, badAt_cons, if_pos hb])
        go_wp2
        go_round
        case rel => exact ⟨k + 1, by omega, by go_num, hfin⟩
        case measure => simp [intOf]; omega
      | false =>
        have hfin := Lib.hid (show badAt 0 l = k from by rw [hrl.out, hdr.out, badAt_cons, if_neg (by simp [hb])])
        go_wp2
        go_ret
        exact ⟨ret_int hfin.out.symm, rfl⟩
    · have hfin := Lib.hid (show badAt 0 l = -1 from by rw [hrl.out, List.drop_of_length_le (by rw [hl'.out]; omega)]; rfl)
      go_wp2
      go_ret
      exact ⟨ret_int hfin.out.symm, rfl⟩

set_option maxHeartbeats 1000000 in
theorem containsByte_any (l : List UInt8) (g n cap : Nat) (w : World) (hl : l.length = n) (hn : n ≤ 9223372036854775807) (hg : g < w.heap.size) (hc : ∀ j, j < n → w.cell? ⟨g, j, none⟩ = some (.int .u8 ((l.getD j 0).toNat : Int))) :
    Calls Try.prog 92 #[.slice (some ⟨g, 0, none⟩) n cap, .func (.func 93) #[] #[]] w fun e w' => e = .returned (.bool (!l.all nameByte)) ∧ w = w' := by
  have hcon := Lib.hid (indexByte_any l g n cap w hl hn hg hc)
  have hfin := Lib.hid (badAt_all 0 l)
  clear hc hl
  go_enter Try.func92, Try.ntmps92
  go_wp2_with fail
  refine hcon.out.mono ?_
  rintro e w1 ⟨rfl, rfl⟩
  go_wp2
  go_ret
  exact ⟨ret_bool hfin.out, rfl⟩

set_option maxHeartbeats 1000000 in
theorem isName_any (s : ByteArray) (w : World) (hs : s.size ≤ maxLen) :
    Calls Try.prog 83 #[.string s] w fun e w' => e = .returned (.bool (isName s)) ∧ Below w.heap.size w w' := by
  have hs' : s.size ≤ 9223372036854775807 := hs
  by_cases hbad : s.size < 1 ∨ 20 < s.size
  · have hfin := Lib.hid (show isName s = false from by rw [isName, if_pos hbad])
    by_cases h1 : s.size < 1
    · have h1' : decide ((s.size : Int) < 1) = true := by simp; omega
      go_enter Try.func83, Try.ntmps83
      go_wp2
      go_ret
      exact ⟨ret_bool hfin.out.symm, Below.refl _ _⟩
    · have h1' : decide ((s.size : Int) < 1) = false := by simp; omega
      have h2' : decide (20 < (s.size : Int)) = true := by simp; omega
      go_enter Try.func83, Try.ntmps83
      go_wp2
      go_ret
      exact ⟨ret_bool hfin.out.symm, Below.refl _ _⟩
  · have hfin := Lib.hid (show isName s = s.data.toList.all nameByte from by rw [isName, if_neg hbad])
    have h1' : decide ((s.size : Int) < 1) = false := by simp; omega
    have h2' : decide (20 < (s.size : Int)) = false := by simp; omega
    obtain ⟨cap, W, hrun, hbW, hsz, hcell⟩ := bytes_of Try.prog 9 29 5 Try.underlying9 Try.underlying29 Try.underlying5 s w
    have hcon := Lib.hid (containsByte_any s.data.toList w.heap.size s.size cap W (by simp) hs' (by omega) hcell)
    clear hbad hcell
    go_enter Try.func83, Try.ntmps83
    go_wp2_with fail
    refine hcon.out.mono ?_
    rintro e w1 ⟨rfl, rfl⟩
    go_wp2
    go_ret
    exact ⟨ret_bool (by rw [hfin.out]; simp), hbW⟩
end Go.Proofs.Ythbnbfeolfkkaaa
