/- The walks of the scheme of the examples, of Piece and of SameInts. -/
import Derived.Test.YthbnbfeolfkkaaaL1
import Derived.Deep.QuietTactic
import Derived.BigQuiet
import Derived.Deep.AppendLies
namespace Go.Proofs.Ythbnbfeolfkkaaa
open Go.RowKit Go.Maps

def LevelsRes (w : World) (ls : List Level) (e : Ending) (w' : World) : Prop :=
  ∃ v, e = .returned v ∧ IsLevels w' v ls ∧ Below w.heap.size w w'
def exLevels : List Level := [⟨⟨#[53]⟩, 5, [], 10, 9⟩, ⟨⟨#[51]⟩, 3, [⟨⟨#[49, 48, 48]⟩, ⟨#[67, 73, 84, 89]⟩⟩, ⟨⟨#[49, 48, 49]⟩, ⟨#[67, 73, 84, 89]⟩⟩], 10, 5⟩, ⟨⟨#[97, 108, 108]⟩, 0, [], 0, 0⟩]
theorem small_text {l : Array UInt8} (h : l.size ≤ 1000) : (ByteArray.mk l).size ≤ maxLen := small_max (by show l.size ≤ 1000000; omega)
theorem exLevels_of {W : World} {b1 b2 : Nat} (h1 : Blk W b1 90 #[.string ⟨#[49, 48, 48]⟩, .string ⟨#[67, 73, 84, 89]⟩, .string ⟨#[49, 48, 49]⟩, .string ⟨#[67, 73, 84, 89]⟩])
    (h2 : Blk W b2 54 #[.string ⟨#[53]⟩, .int .i64 5, .slice none 0 0, .int .i64 10, .int .i64 9, .string ⟨#[51]⟩, .int .i64 3, .slice (some ⟨b1, 0, none⟩) 2 2, .int .i64 10, .int .i64 5, .string ⟨#[97, 108, 108]⟩, .int .i64 0, .slice none 0 0, .int .i64 0, .int .i64 0]) :
    IsLevels W (.slice (some ⟨b2, 0, none⟩) 3 3) exLevels := by
  refine Sl.mk_ h2.lt (Nat.le_refl _) (small_max (by omega)) (lt_three ⟨h2.cell 0, h2.cell 1, ⟨_, h2.cell 2, Sl.nil_⟩, h2.cell 3, h2.cell 4, small_text (by decide)⟩
    ⟨h2.cell 5, h2.cell 6, ⟨_, h2.cell 7, ?_⟩, h2.cell 8, h2.cell 9, small_text (by decide)⟩ ⟨h2.cell 10, h2.cell 11, ⟨_, h2.cell 12, Sl.nil_⟩, h2.cell 13, h2.cell 14, small_text (by decide)⟩)
  exact Sl.mk_ h1.lt (Nat.le_refl _) (small_max (by omega)) (lt_two ⟨h1.cell 0, h1.cell 1, small_text (by decide), small_text (by decide)⟩ ⟨h1.cell 2, h1.cell 3, small_text (by decide), small_text (by decide)⟩)
set_option maxHeartbeats 2000000 in
theorem example23_any (w : World) : Calls Try.prog 31 #[] w (LevelsRes w exLevels) := by
  go_enter Try.func31, Try.ntmps31
  go_wp2
  go_ret
  refine ⟨_, rfl, exLevels_of ((Blk.new_at _ _ _ _ rfl).alloc _) (Blk.new_at _ _ _ _ (by simp)), ?_⟩
  exact ((Below.refl _ _).alloc (Nat.le_refl _) _).alloc (by simp) _

def MailRes (w : World) (m : Mailing) (e : Ending) (w' : World) : Prop :=
  ∃ pv, e = .returned (.agg #[.int .u8 m.cls, .int .u8 m.country, .string m.origin, pv]) ∧ IsPieces w' pv m.pieces ∧ Below w.heap.size w w'
def onePiece (code : ByteArray) (grams : Int) (barred : Bool) : Mailing := ⟨1, 1, ⟨#[49, 48, 48, 50, 51]⟩, [⟨1, 0, code, grams, barred⟩]⟩
set_option maxHeartbeats 2000000 in
theorem piece_any (code : ByteArray) (grams : Int) (barred : Bool) (w : World) (hc : code.size ≤ maxLen) :
    Calls Try.prog 32 #[.string code, .int .i64 grams, .bool barred] w (MailRes w (onePiece code grams barred)) := by
  go_enter Try.func32, Try.ntmps32
  go_wp2
  have k0 := (Blk.new w 36 #[.int .u8 1, .int .u8 1, .string ⟨#[49, 48, 48, 50, 51]⟩, .slice (some ⟨w.heap.size + 1, 0, none⟩) 1 1]).alloc (.cells #[.int .i64 1, .int .i64 0, .string code, .int .i64 grams, .bool barred] 48)
  refine bodyPost_ret (results_cell_row Try.results32 _ _ _ _ _ (0, 0) _ rfl k0 Try.underlying36 rfl size36) rfl ⟨_, rfl, ?_, ?_⟩
  · have h : Blk ((w.alloc (.cells #[.int .u8 1, .int .u8 1, .string ⟨#[49, 48, 48, 50, 51]⟩, .slice (some ⟨w.heap.size + 1, 0, none⟩) 1 1] 36)).alloc (.cells #[.int .i64 1, .int .i64 0, .string code, .int .i64 grams, .bool barred] 48)) (w.heap.size + 1) 48 #[.int .i64 1, .int .i64 0, .string code, .int .i64 grams, .bool barred] := Blk.new_at _ _ _ _ (by simp)
    exact Sl.mk_ h.lt (Nat.le_refl _) (small_max (by omega)) (lt_one ⟨h.cell 0, h.cell 1, h.cell 2, h.cell 3, h.cell 4, hc⟩)
  · exact ((Below.refl _ _).alloc (Nat.le_refl _) _).alloc (by simp) _

theorem IsInts.of_own {w : World} {base : Nat} {v : Value} {xs : List Int} (h : w.ownsRow base 3 1 v xs.length (xs.map (Value.int .i64))) : IsInts w v xs := by
  rcases Nat.eq_zero_or_pos xs.length with h0 | h0
  · have hx : xs = [] := List.eq_nil_of_length_eq_zero h0
    subst hx
    rcases h.2 with ⟨rfl, _⟩ | ⟨g, cap, cur, rfl, _, _, _, hc, _⟩
    · exact Sl.nil_
    · exact ⟨_, _, rfl, Nat.zero_le _, hc, fun h => absurd h (by simp)⟩
  · obtain ⟨g, cap, rfl, hb, hlt⟩ := h.form h0
    have hc : xs.length ≤ cap ∧ cap ≤ maxLen := by
      rcases h.2 with ⟨he, _⟩ | ⟨g', cap', cur, he, _, _, h1, h2, _⟩
      · cases he
      · injection he with _ _ e; subst e; exact ⟨h1, h2⟩
    refine Sl.mk_ hlt hc.1 hc.2 fun i hi => ?_
    have := h.cellAt i (by omega)
    rw [Nat.zero_add, this, List.getElem?_map, List.getElem?_eq_getElem hi, List.getD_eq_getElem?_getD, List.getElem?_eq_getElem hi]; rfl

def sameGo : List Int → List Int → Bool
  | x :: xs, y :: ys => if x ≠ y then false else sameGo xs ys
  | _, _ => true
theorem sameGo_eq : ∀ (xs ys : List Int), xs.length = ys.length → sameGo xs ys = decide (xs = ys)
  | [], [], _ => rfl
  | x :: xs, y :: ys, h => by
    rw [sameGo]
    by_cases e : x = y
    · subst e
      rw [if_neg (by simp), sameGo_eq xs ys (by simpa using h)]
      simp
    · rw [if_pos e]
      simp [e]
  | [], _ :: _, h => by simp at h
  | _ :: _, [], h => by simp at h
set_option maxHeartbeats 2000000 in
theorem sameInts_any (a b : Value) (xs ys : List Int) (w : World) (ha : IsInts w a xs) (hb : IsInts w b ys) :
    Calls Try.prog 27 #[a, b] w fun e w' => e = .returned (.bool (decide (xs = ys))) ∧ Below w.heap.size w w' := by
  obtain ⟨A, c, rfl, hn, hc, hA⟩ := ha
  obtain ⟨A2, c2, rfl, hn2, hc2, hA2⟩ := hb
  have hc' : c ≤ 9223372036854775807 := hc
  have hA' := Lib.hid hA
  have hA2' := Lib.hid hA2
  clear hA hA2
  by_cases hl : xs.length = ys.length
  · have hl' : ((xs.length : Int) != (ys.length : Int)) = false := by simp [hl]
    have hl2 := Lib.hid hl
    have hfin := Lib.hid (sameGo_eq xs ys hl)
    clear hl
    go_enter Try.func27, Try.ntmps27
    go_wp2
    go_loopw [5] (fun iv wr => ∃ (k : Nat), k ≤ xs.length ∧ iv = .int .i64 k ∧ Below w.heap.size w wr ∧ Hid (sameGo xs ys = sameGo (xs.drop k) (ys.drop k)))
      (fun iv _ => xs.length - (intOf iv).toNat)
    case atStart => exact ⟨0, by omega, rfl, Below.refl _ _, rfl⟩
    case round =>
      obtain ⟨k, hk, rfl, hbw, hrl⟩ := hrel
      by_cases hlt : k < xs.length
      · have hlt2 : k < ys.length := by rw [← hl2.out]; exact hlt
        obtain ⟨b, off, rfl, hb, hi⟩ := hA'.out (by omega)
        obtain ⟨b2, off2, rfl, hb2, hi2⟩ := hA2'.out (by omega)
        have g0 : wr.cell? ⟨b, off + k, none⟩ = some (.int .i64 (xs.getD k 0)) := (hbw.cell hb).trans (hi k hlt)
        have g1 : wr.cell? ⟨b2, off2 + k, none⟩ = some (.int .i64 (ys.getD k 0)) := (hbw.cell hb2).trans (hi2 k hlt2)
        have hd1 := Lib.hid (drop_getD xs 0 k hlt)
        have hd2 := Lib.hid (drop_getD ys 0 k hlt2)
        clear hi hi2 hA' hA2'
        generalize xs.getD k 0 = x at g0 hd1
        generalize ys.getD k 0 = y at g1 hd2
        have i5 : (0 : Int) ≤ (k : Int) := by omega
        have i6 : (k : Int) < (xs.length : Int) := by omega
        have i7 : (k : Int) < (ys.length : Int) := by omega
        by_cases hxy : x = y
        · subst hxy
          have hfin2 := Lib.hid (show sameGo xs ys = sameGo (xs.drop (k + 1)) (ys.drop (k + 1)) from by rw [hrl.out, hd1.out, hd2.out, sameGo, if_neg (by simp)])
          have hne : (x != x) = false := by simp
          go_wp2
          go_quiet (fail)
          go_wp2
          go_roundw
          case rel => exact ⟨k + 1, by omega, by go_num, below_n hbw _, hfin2⟩
          case measure => simp [intOf]; omega
        · have hne : (x != y) = true := by simpa using hxy
          have hfin2 := Lib.hid (show decide (xs = ys) = false from by rw [← hfin.out, hrl.out, hd1.out, hd2.out, sameGo, if_pos hxy])
          clear hxy
          go_wp2
          go_quiet (fail)
          go_wp2
          go_ret
          exact ⟨ret_bool hfin2.out.symm, below_n hbw _⟩
      · have hfin2 := Lib.hid (show decide (xs = ys) = true from by rw [← hfin.out, hrl.out, List.drop_of_length_le (by omega)]; cases ys.drop k <;> rfl)
        go_wp2
        go_ret
        exact ⟨ret_bool hfin2.out.symm, hbw⟩
  · have hl' : ((xs.length : Int) != (ys.length : Int)) = true := by simp; omega
    have hfin := Lib.hid (show decide (xs = ys) = false from by simp; intro e; exact hl (by rw [e]))
    clear hl
    go_enter Try.func27, Try.ntmps27
    go_wp2
    go_ret
    exact ⟨ret_bool hfin.out.symm, Below.refl _ _⟩
end Go.Proofs.Ythbnbfeolfkkaaa
