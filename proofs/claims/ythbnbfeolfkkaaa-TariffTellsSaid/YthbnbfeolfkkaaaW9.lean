/- The walk of tariff.Mailing. -/
import Derived.Test.YthbnbfeolfkkaaaW3
namespace Go.Proofs.Ythbnbfeolfkkaaa
open Go.RowKit
set_option maxHeartbeats 4000000 in
theorem mailing_any (cls country : Int) (origin : ByteArray) (pv : Value) (ps : List Piece) (w : World) (ho : origin.size ≤ maxLen) (h : IsPieces w pv ps) :
    Calls Try.prog 19 #[.agg #[.int .u8 cls, .int .u8 country, .string origin, pv]] w fun e w' => e = .returned (.bool (mailing ⟨cls, country, origin, ps⟩)) ∧ Below w.heap.size w w' := by
  obtain ⟨A, c, rfl, hn, hc, hA⟩ := h
  have hc' : c ≤ 9223372036854775807 := hc
  have hA' := Lib.hid hA
  clear hA
  have hW := (Below.refl w.heap.size w).alloc (Nat.le_refl _) (.cells #[.int .u8 cls, .int .u8 country, .string origin, .slice A ps.length c] 36)
  by_cases h1 : cls < 1 ∨ country < 1 ∨ 3 < country
  · have hfin := Lib.hid (show mailing ⟨cls, country, origin, ps⟩ = false from by rw [mailing, if_pos h1])
    by_cases k1 : cls < 1
    · go_enter Try.func19, Try.ntmps19
      go_wp2
      go_ret
      exact ⟨ret_bool hfin.out.symm, hW⟩
    · have k1' : decide (cls < 1) = false := by simpa using k1
      by_cases k2 : country < 1
      · go_enter Try.func19, Try.ntmps19
        go_wp2
        go_ret
        exact ⟨ret_bool hfin.out.symm, hW⟩
      · have k2' : decide (country < 1) = false := by simpa using k2
        have k3' : decide (3 < country) = true := by simp; omega
        go_enter Try.func19, Try.ntmps19
        go_wp2
        go_ret
        exact ⟨ret_bool hfin.out.symm, hW⟩
  · have hfin := Lib.hid (show mailing ⟨cls, country, origin, ps⟩ = if isCode origin = false ∨ 2000 < ps.length then false else piecesOk 0 ps from by rw [mailing, if_neg h1])
    have k1' : decide (cls < 1) = false := by simp; omega
    have k2' : decide (country < 1) = false := by simp; omega
    have k3' : decide (3 < country) = false := by simp; omega
    clear h1
    go_enter Try.func19, Try.ntmps19
    go_wp2_with fail
    refine (code_any _ _ ho).mono ?_
    rintro e w1 ⟨rfl, hb1⟩
    have hbw1 := hW.trans (hb1.mono (by simp))
    have x3 : w1.cell? ⟨w.heap.size, 3, none⟩ = some (.slice A ps.length c) := by rw [hb1.cell (by simp)]; simp
    have hsz1 : w.heap.size < w1.heap.size := by have := hb1.size; simp at this; omega
    clear hb1 hW
    by_cases h2 : isCode origin = true
    · by_cases h3 : 2000 < ps.length
      · have hfin2 := Lib.hid (show mailing ⟨cls, country, origin, ps⟩ = false from by rw [hfin.out, if_pos (.inr h3)])
        have h3' : decide (2000 < (ps.length : Int)) = true := by simp; omega
        go_wp2
        go_ret
        exact ⟨ret_bool hfin2.out.symm, hbw1⟩
      · have hfin2 := Lib.hid (show mailing ⟨cls, country, origin, ps⟩ = piecesOk 0 ps from by rw [hfin.out, if_neg (by simp [h2]; omega)])
        have h3' : decide (2000 < (ps.length : Int)) = false := by simp; omega
        clear hfin h3
        go_wp2
        go_loopw [3, 32] (fun bv iv wr => ∃ (k : Nat) (bf : Int), k ≤ ps.length ∧ iv = .int .i64 k ∧ bv = .int .i64 bf ∧ Below w.heap.size w wr ∧ Hid (piecesOk 0 ps = piecesOk bf (ps.drop k)))
          (fun _ iv _ => ps.length - (intOf iv).toNat)
        case atStart => exact ⟨0, 0, by omega, rfl, rfl, hbw1, rfl⟩
        case round =>
          obtain ⟨k, bf, hk, rfl, rfl, hbw, hrl⟩ := hrel
          clear x3
          have hws : w.heap.size ≤ wr.heap.size := hbw.size
          by_cases hlt : k < ps.length
          · obtain ⟨b, off, rfl, hb, hi⟩ := hA'.out (by omega)
            have hst := (hi k hlt).stays (Stays.of hbw) hb
            have hdr := Lib.hid (drop_getD ps Piece.zero k hlt)
            have hbr : b < wr.heap.size := Nat.lt_of_lt_of_le hb hbw.size
            have hi' := Lib.hid hi
            clear hi hA'
            generalize ps.getD k Piece.zero = q at hst hdr
            obtain ⟨id, pt, cd, gr, ba⟩ := q
            obtain ⟨g0, g1, g2, g3, g4, hcs⟩ := hst
            simp only at g0 g1 g2 g3 g4 hcs
            have hW : Below w.heap.size w (wr.alloc (.cells #[.int .i64 id, .int .i64 pt, .string cd, .int .i64 gr, .bool ba] 48)) := hbw.alloc hbw.size _
            by_cases n1 : id ≤ bf
            · have hfin3 := Lib.hid (show mailing ⟨cls, country, origin, ps⟩ = false from by rw [hfin2.out, hrl.out, hdr.out, piecesOk_no (.inl n1)])
              go_wp2
              go_ret
              exact ⟨ret_bool hfin3.out.symm, hW⟩
            have n1' : decide (id ≤ bf) = false := by simpa using n1
            by_cases n2 : 999999 < id
            · have hfin3 := Lib.hid (show mailing ⟨cls, country, origin, ps⟩ = false from by rw [hfin2.out, hrl.out, hdr.out, piecesOk_no (.inr (.inl n2))])
              go_wp2
              go_ret
              exact ⟨ret_bool hfin3.out.symm, hW⟩
            have n2' : decide (999999 < id) = false := by simpa using n2
            by_cases n3 : pt < 0
            · have hfin3 := Lib.hid (show mailing ⟨cls, country, origin, ps⟩ = false from by rw [hfin2.out, hrl.out, hdr.out, piecesOk_no (.inr (.inr (.inl n3)))])
              go_wp2
              go_ret
              exact ⟨ret_bool hfin3.out.symm, hW⟩
            have n3' : decide (pt < 0) = false := by simpa using n3
            by_cases n4 : 999999 < pt
            · have hfin3 := Lib.hid (show mailing ⟨cls, country, origin, ps⟩ = false from by rw [hfin2.out, hrl.out, hdr.out, piecesOk_no (.inr (.inr (.inr (.inl n4))))])
              go_wp2
              go_ret
              exact ⟨ret_bool hfin3.out.symm, hW⟩
            have n4' : decide (999999 < pt) = false := by simpa using n4
            go_wp2_with fail
            refine (code_any _ _ hcs).mono ?_
            rintro e w2 ⟨rfl, hb2⟩
            have hbw2 := hW.trans (hb2.mono (by simp; omega))
            have x0 : w2.cell? ⟨wr.heap.size, 0, none⟩ = some (.int .i64 id) := by rw [hb2.cell (by simp)]; simp
            have x3 : w2.cell? ⟨wr.heap.size, 3, none⟩ = some (.int .i64 gr) := by rw [hb2.cell (by simp)]; simp
            have hsz2 : wr.heap.size < w2.heap.size := by have := hb2.size; simp at this; omega
            clear hb2 hW
            by_cases n5 : isCode cd = true
            · by_cases n6 : gr < 1
              · have hfin3 := Lib.hid (show mailing ⟨cls, country, origin, ps⟩ = false from by rw [hfin2.out, hrl.out, hdr.out, piecesOk_no (.inr (.inr (.inr (.inr (.inr (.inl n6))))))])
                go_wp2
                go_ret
                exact ⟨ret_bool hfin3.out.symm, hbw2⟩
              have n6' : decide (gr < 1) = false := by simpa using n6
              by_cases n7 : 50000 < gr
              · have hfin3 := Lib.hid (show mailing ⟨cls, country, origin, ps⟩ = false from by rw [hfin2.out, hrl.out, hdr.out, piecesOk_no (.inr (.inr (.inr (.inr (.inr (.inr n7))))))])
                go_wp2
                go_ret
                exact ⟨ret_bool hfin3.out.symm, hbw2⟩
              have n7' : decide (50000 < gr) = false := by simpa using n7
              have hgood : ¬ pieceBad bf ⟨id, pt, cd, gr, ba⟩ := by unfold pieceBad; simp [n5]; omega
              have hfin3 := Lib.hid (show piecesOk 0 ps = piecesOk id (ps.drop (k + 1)) from by rw [hrl.out, hdr.out, piecesOk_yes hgood])
              clear hgood
              go_wp2
              go_roundw
              case rel => exact ⟨k + 1, id, by omega, by go_num, rfl, hbw2, hfin3⟩
              case measure => simp [intOf]; omega
            · have n5' : isCode cd = false := by simpa using n5
              have hfin3 := Lib.hid (show mailing ⟨cls, country, origin, ps⟩ = false from by rw [hfin2.out, hrl.out, hdr.out, piecesOk_no (.inr (.inr (.inr (.inr (.inl n5')))))])
              go_wp2
              go_ret
              exact ⟨ret_bool hfin3.out.symm, hbw2⟩
          · have hfin3 := Lib.hid (show mailing ⟨cls, country, origin, ps⟩ = true from by rw [hfin2.out, hrl.out, List.drop_of_length_le (by omega)]; rfl)
            go_wp2
            go_ret
            exact ⟨ret_bool hfin3.out.symm, hbw⟩
    · have h2' : isCode origin = false := by simpa using h2
      have hfin2 := Lib.hid (show mailing ⟨cls, country, origin, ps⟩ = false from by rw [hfin.out, if_pos (.inl h2')])
      go_wp2
      go_ret
      exact ⟨ret_bool hfin2.out.symm, hbw1⟩
end Go.Proofs.Ythbnbfeolfkkaaa
