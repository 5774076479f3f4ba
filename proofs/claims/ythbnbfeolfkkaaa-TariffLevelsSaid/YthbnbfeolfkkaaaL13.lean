/- The walk of levels: a plan for a mailing. -/
import Derived.Test.YthbnbfeolfkkaaaL7
namespace Go.Proofs.Ythbnbfeolfkkaaa
open Go.RowKit Go.Maps

def planAt (many : Nat) (l : List Int) (i : Nat) : Int := if l = [] then 0 else l.getD (i % l.length) 0 % (many : Int)
def planOf (k many : Nat) (l : List Int) : List Int := (List.range k).map (planAt many l)
theorem planOf_snoc (k many : Nat) (l : List Int) : planOf (k + 1) many l = planOf k many l ++ [planAt many l k] := by simp [planOf, List.range_succ]
theorem planOf_len (k many : Nat) (l : List Int) : (planOf k many l).length = k := by simp [planOf]
theorem planAt_bd (many : Nat) (l : List Int) (i : Nat) (hm : 1 ≤ many) : 0 ≤ planAt many l i ∧ planAt many l i < many := by
  unfold planAt
  split
  · omega
  · exact ⟨Int.emod_nonneg _ (by omega), Int.emod_lt_of_pos _ (by omega)⟩
set_option maxRecDepth 100000 in
set_option maxHeartbeats 2000000 in
theorem levels_any (cls country : Int) (origin : ByteArray) (pv lv : Value) (ps : List Piece) (many : Nat) (l : List Int) (w : World) (hp : IsPieces w pv ps) (hpl : ps.length ≤ 2000) (hm : 1 ≤ many) (hm2 : many ≤ 1000) (hl : IsKs .u8 w lv l) (hlb : ∀ x ∈ l, 0 ≤ x ∧ x ≤ 255) :
    Calls Try.prog 15 #[.agg #[.int .u8 cls, .int .u8 country, .string origin, pv], .int .i64 (many : Int), lv] w (IntsOwn w (planOf ps.length many l)) := by
  obtain ⟨A, c, rfl, _, _, hA⟩ := hp
  obtain ⟨B, d, rfl, hnd, hdm, hB⟩ := hl
  obtain ⟨i0, hi0, hz0, hz1, hz2⟩ := info_parts int_info3
  have hdm' : d ≤ 9223372036854775807 := hdm
  have hBB := Lib.hid hB
  have hlb' := Lib.hid hlb
  clear hA hB hlb
  have hW : Below w.heap.size w (w.alloc (.cells #[.int .u8 cls, .int .u8 country, .string origin, .slice A ps.length c] 36)) := (Below.refl _ _).alloc (Nat.le_refl _) _
  go_enter Try.func15, Try.ntmps15
  go_wp2
  generalize (w.alloc (.cells #[.int .u8 cls, .int .u8 country, .string origin, .slice A ps.length c] 36)) = W at *
  go_loopw [7, 13] (fun ov iv wr => ∃ (i : Nat) (xs : List Int), i ≤ ps.length ∧ iv = .int .i64 i ∧ Below w.heap.size w wr ∧ OwnInts w.heap.size wr ov xs ∧ Hid (xs = planOf i many l))
    (fun _ iv _ => ps.length - (intOf iv).toNat)
  case atStart => exact ⟨0, [], by omega, rfl, hW, OwnL.nil_, rfl⟩
  case round =>
    obtain ⟨i, xs, hi, rfl, hbr, hown, hxs⟩ := hrel
    have hxl : xs.length ≤ 2000 := by rw [hxs.out, planOf_len]; omega
    have hs := hbr.size
    by_cases hlt : i < ps.length
    · have hlt' : decide ((i : Int) < (ps.length : Int)) = true := by simp; omega
      have hxs2 : Hid (xs ++ [planAt many l i] = planOf (i + 1) many l) := by rw [planOf_snoc, ← hxs.out]; rfl
      have hown' := Lib.hid hown
      obtain ⟨A3, c3, rfl⟩ := hown.form_
      have sd1 : xs.length + 1 ≤ maxLen := by unfold maxLen; omega
      have sd4 : (xs.length + 1) * 8 ≤ 140737488355328 := by omega
      have n0 : (0 : Int) ≤ (i : Int) := by omega
      clear hown
      rcases Nat.eq_zero_or_pos l.length with h0 | h0
      · have hpa : planAt many l i = 0 := by unfold planAt; rw [if_pos (List.eq_nil_of_length_eq_zero h0)]
        rw [hpa] at hxs2
        have hl0 : decide ((0 : Int) < (l.length : Int)) = false := decide_eq_false (by omega)
        have h01 : (l.length : Int) ≤ 0 := by omega
        have hl2 : decide (0 < l.length) = false := decide_eq_false (by omega)
        clear hpa h0
        go_wp2_with (at_builtin; refine wpList_append_lies _ rfl (.tmp 29) (.tmp 31) 38 rfl w.heap.size 3 i0 (.int .i64 0) 1 8 Try.underlying38 hi0 hz0 hz1 hz2 rfl (by decide) (.slice A3 xs.length c3) xs.length (xs.flatMap intCells) rfl (by exact hown'.out.1.alloc _) ⟨wr.heap.size, 0, none⟩ 1 1 [.int .i64 0] rfl rfl (by exact World.news_of_block (cs := #[.int .i64 0]) (heap_alloc_new _ _)) (by simp [Value.oneCell']) Nat.one_pos sd1 sd4 (by simp; omega) (wr.heap.size + 1) (by simp) ?_; intro g cap w2 hown2 hgr2 hat2 hlt2)
        have hR := slot_append noInner_inner (a := (0 : Int)) hbr hown'.out ((Below.refl _ _).alloc (Nat.le_refl _) _) (Nat.le_refl _) hbr.size trivial hown2 rfl hgr2 (hat2.imp_right (fun e => by simp [e]))
        go_roundw
        case rel => exact ⟨i + 1, _, by omega, by go_num, hR.1, hR.2, hxs2⟩
        case measure => simp [intOf]; omega
      · obtain ⟨b, off, rfl, hb, hRw⟩ := hBB.out h0
        have hml : i % l.length < l.length := Nat.mod_lt _ h0
        have r0 : w.cell? ⟨b, off + i % l.length, none⟩ = some (.int .u8 (l.getD (i % l.length) 0)) := hRw _ hml
        rw [← hbr.cell (p := ⟨b, off + i % l.length, none⟩) hb] at r0
        obtain ⟨hx0, hx1⟩ := hlb'.out (l.getD (i % l.length) 0) (by rw [getD_of _ _ _ hml]; exact List.getElem_mem hml)
        have hpa : planAt many l i = l.getD (i % l.length) 0 % (many : Int) := by unfold planAt; rw [if_neg (by intro e; rw [e] at h0; simp at h0)]
        rw [hpa] at hxs2
        generalize l.getD (i % l.length) 0 = x at *
        have hl0 : decide ((0 : Int) < (l.length : Int)) = true := by simp; omega
        have hl1 : (1 : Int) ≤ (l.length : Int) := by omega
        have i3 : ((i : Int) % (l.length : Int)).toNat = i % l.length := by rw [← Int.natCast_emod]; rfl
        have hmm : (1 : Int) ≤ (many : Int) := by omega
        clear hpa hRw
        go_wp2_with (at_builtin; refine wpList_append_lies _ rfl (.tmp 29) (.tmp 31) 38 rfl w.heap.size 3 i0 (.int .i64 0) 1 8 Try.underlying38 hi0 hz0 hz1 hz2 rfl (by decide) (.slice A3 xs.length c3) xs.length (xs.flatMap intCells) rfl (by exact hown'.out.1.alloc _) ⟨wr.heap.size, 0, none⟩ 1 1 [.int .i64 (x % (many : Int))] rfl rfl (by exact World.news_of_block (cs := #[.int .i64 (x % (many : Int))]) (heap_alloc_new _ _)) (by simp [Value.oneCell']) Nat.one_pos sd1 sd4 (by simp; omega) (wr.heap.size + 1) (by simp) ?_; intro g cap w2 hown2 hgr2 hat2 hlt2)
        have hR := slot_append noInner_inner (a := x % (many : Int)) hbr hown'.out ((Below.refl _ _).alloc (Nat.le_refl _) _) (Nat.le_refl _) hbr.size trivial hown2 rfl hgr2 (hat2.imp_right (fun e => by simp [e]))
        go_roundw
        case rel => exact ⟨i + 1, _, by omega, by go_num, hR.1, hR.2, hxs2⟩
        case measure => simp [intOf]; omega
    · have hlt' : decide ((i : Int) < (ps.length : Int)) = false := by simp; omega
      have hm9 : xs = planOf ps.length many l := by rw [hxs.out]; congr 1; omega
      have hm' := Lib.hid hm9
      have ho := Lib.hid hown
      clear hm9 hown hxs
      go_wp2
      go_ret
      exact ⟨_, rfl, by rw [← hm'.out]; exact ho.out, hbr⟩
end Go.Proofs.Ythbnbfeolfkkaaa
