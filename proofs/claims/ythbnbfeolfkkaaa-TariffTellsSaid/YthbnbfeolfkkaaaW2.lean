/- The walk of scheme.isPlain. -/
import Derived.Test.YthbnbfeolfkkaaaMem
import Derived.Laws.IdiomStrings
namespace Go.Proofs.Ythbnbfeolfkkaaa
open Go.RowKit

/-- a conversion of a text to bytes lays a new block that holds them -/
theorem bytes_of (P : Program) (src dst e : TypeId) (hs : P.underlying src = some .string) (hd : P.underlying dst = some (.slice e)) (he : P.underlying e = some (.int .u8)) (s : ByteArray) (w : World) :
    ∃ cap W, (convert src dst (.string s)).run P w = .ok (.slice (some ⟨w.heap.size, 0, none⟩) s.size cap) W ∧ Below w.heap.size w W ∧ W.heap.size = w.heap.size + 1 ∧
      ∀ j, j < s.size → W.cell? ⟨w.heap.size, j, none⟩ = some (.int .u8 ((s.data.toList.getD j 0).toNat : Int)) := by
  refine ⟨_, _, run_bytes_of_string w src dst e s hs hd he, ?_, ?_, ?_⟩
  · exact ((Below.refl w.heap.size w).drew).alloc (by simp) _
  · simp
  · intro j hj
    rw [show w.heap.size = w.drew.heap.size from rfl, World.cell?_alloc_mark]
    have hl : j < s.data.toList.length := by simpa using hj
    simp [bytesRow, Array.getElem?_append, hj, List.getD_eq_getElem?_getD]

set_option maxHeartbeats 1000000 in
theorem isPlain_any (s : ByteArray) (w : World) (hs : s.size ≤ maxLen) :
    Calls Try.prog 69 #[.string s] w fun e w' => e = .returned (.bool (isPlain s)) ∧ Below w.heap.size w w' := by
  unfold maxLen at hs
  obtain ⟨cap, W, hrun, hbW, hsz, hcell⟩ := bytes_of Try.prog 9 29 5 Try.underlying9 Try.underlying29 Try.underlying5 s w
  have hcell' := Lib.hid hcell
  clear hcell
  go_enter Try.func69, Try.ntmps69
  go_wp2
  go_loop [8] (fun iv => ∃ j : Nat, j ≤ s.size ∧ iv = .int .i64 j ∧ Hid (isPlain s = isPlainL (s.data.toList.drop j))) (fun iv => s.size - (intOf iv).toNat)
  case atStart => exact ⟨0, by omega, rfl, rfl⟩
  case round =>
    obtain ⟨j, hj, rfl, hrl⟩ := hrel
    by_cases hlt : j < s.size
    · have hc := hcell'.out j hlt
      have hd := Lib.hid (drop_getD s.data.toList 0 j (by simpa using hlt))
      generalize s.data.toList.getD j 0 = c at hc hd
      by_cases hp : plainByte c = true
      · have hr2 := Lib.hid (show isPlain s = isPlainL (s.data.toList.drop (j + 1)) from by rw [hrl.out, hd.out, isPlainL_yes hp])
        have hp' : (65 ≤ c.toNat ∧ c.toNat ≤ 90) ∨ (48 ≤ c.toNat ∧ c.toNat ≤ 57) := by simpa [plainByte] using hp
        generalize c.toNat = n at hc hp'
        clear hp
        rcases hp' with ⟨p1, p2⟩ | ⟨p1, p2⟩
        · have q1 : decide ((n : Int) < 65) = false := by simp; omega
          have q2 : decide (90 < (n : Int)) = false := by simp; omega
          go_wp2
          go_round
          case rel => exact ⟨j + 1, by omega, by go_num, hr2⟩
          case measure => simp [intOf]; omega
        · have q1 : decide ((n : Int) < 65) = true := by simp; omega
          have q2 : decide ((n : Int) < 48) = false := by simp; omega
          have q3 : decide (57 < (n : Int)) = false := by simp; omega
          go_wp2
          go_round
          case rel => exact ⟨j + 1, by omega, by go_num, hr2⟩
          case measure => simp [intOf]; omega
      · have hr2 := Lib.hid (show isPlain s = false from by rw [hrl.out, hd.out, isPlainL_no (by simpa using hp)])
        have hp' : c.toNat < 48 ∨ (57 < c.toNat ∧ c.toNat < 65) ∨ 90 < c.toNat := by simp [plainByte] at hp; omega
        generalize c.toNat = n at hc hp'
        clear hp
        rcases hp' with p1 | ⟨p1, p2⟩ | p1
        · have q1 : decide ((n : Int) < 65) = true := by simp; omega
          have q2 : decide ((n : Int) < 48) = true := by simp; omega
          go_wp2
          go_ret
          exact ⟨ret_bool hr2.out.symm, hbW⟩
        · have q1 : decide ((n : Int) < 65) = true := by simp; omega
          have q2 : decide ((n : Int) < 48) = false := by simp; omega
          have q3 : decide (57 < (n : Int)) = true := by simp; omega
          go_wp2
          go_ret
          exact ⟨ret_bool hr2.out.symm, hbW⟩
        · have q1 : decide ((n : Int) < 65) = false := by simp; omega
          have q2 : decide (90 < (n : Int)) = true := by simp; omega
          have q3 : decide ((n : Int) < 48) = false := by simp; omega
          have q4 : decide (57 < (n : Int)) = true := by simp; omega
          go_wp2
          go_ret
          exact ⟨ret_bool hr2.out.symm, hbW⟩
    · have hfin := Lib.hid (show isPlain s = true from by rw [hrl.out, List.drop_of_length_le (by simp; omega)]; rfl)
      go_wp2
      go_ret
      exact ⟨ret_bool hfin.out.symm, hbW⟩
end Go.Proofs.Ythbnbfeolfkkaaa
