/- The walk of Codes: codes of five digits. -/
import Derived.Test.YthbnbfeolfkkaaaL7
import Derived.Test.YthbnbfeolfkkaaaRowsP
namespace Go.Proofs.Ythbnbfeolfkkaaa
open Go.RowKit Go.Maps
def strCells (s : ByteArray) : List Value := [.string s]
def strIn (_ : Nat → Prop) (_ : World) (s : ByteArray) : Prop := s.size ≤ maxLen
theorem strIn_inner : Inner strIn := ⟨fun h _ _ => h⟩
abbrev OwnStrs := OwnL 9 1 strCells strIn
theorem str_info : (Try.prog.info? 9).map (fun i => (i.zero, i.size, i.bytes)) = some (some (.string ⟨#[]⟩), 1, 16) := by kernel_rfl
def CodesRes (w : World) (xs : List Int) (e : Ending) (w' : World) : Prop := ∃ v, e = .returned v ∧ OwnStrs w.heap.size w' v (xs.map codeOf) ∧ Below w.heap.size w w'

theorem conv5 (W : World) (a b c d e : Int) : (convert 29 9 (.slice (some ⟨W.heap.size, 0, none⟩) 5 5)).run Try.prog (W.alloc (.cells #[.int .u8 a, .int .u8 b, .int .u8 c, .int .u8 d, .int .u8 e] 5)) =
    .ok (.string ⟨#[UInt8.ofNat a.toNat, UInt8.ofNat b.toNat, UInt8.ofNat c.toNat, UInt8.ofNat d.toNat, UInt8.ofNat e.toNat]⟩) (W.alloc (.cells #[.int .u8 a, .int .u8 b, .int .u8 c, .int .u8 d, .int .u8 e] 5)) := by
  rw [run_convert_bytes_string _ 29 9 5 _ 5 5 Try.underlying29 Try.underlying5 Try.underlying9]
  have hl := run_loadCells_list (P := Try.prog) (W.alloc (.cells #[.int .u8 a, .int .u8 b, .int .u8 c, .int .u8 d, .int .u8 e] 5)) ⟨W.heap.size, 0, none⟩ ([a, b, c, d, e].map (Value.int .u8))
    (World.news_of_block (cs := #[.int .u8 a, .int .u8 b, .int .u8 c, .int .u8 d, .int .u8 e]) (heap_alloc_new W _))
  exact run_bytesToString _ _ 5 5 [a, b, c, d, e] hl
set_option maxRecDepth 100000 in
set_option maxHeartbeats 2000000 in
theorem codes_any (v : Value) (xs : List Int) (w : World) (h : IsKs .u8 w v xs) (hx : ∀ x ∈ xs, 0 ≤ x ∧ x ≤ 255) (hl : xs.length ≤ 2000) : Calls Try.prog 24 #[v] w (CodesRes w xs) := by
  obtain ⟨A, c, rfl, hnc, hcm, hA⟩ := h
  obtain ⟨i0, hi0, hz0, hz1, hz2⟩ := info_parts str_info
  have hAA := Lib.hid hA
  have hxx := Lib.hid hx
  clear hA hx
  go_enter Try.func24, Try.ntmps24
  go_wp2
  go_loopw [3, 4] (fun ov iv wr => ∃ (i : Nat) (ys : List ByteArray), i ≤ xs.length ∧ iv = .int .i64 i ∧ Below w.heap.size w wr ∧ OwnStrs w.heap.size wr ov ys ∧ Hid (ys = (xs.take i).map codeOf))
    (fun _ iv _ => xs.length - (intOf iv).toNat)
  case atStart => exact ⟨0, [], by omega, rfl, Below.refl _ _, OwnL.nil_, rfl⟩
  case round =>
    obtain ⟨i, ys, hi, rfl, hbr, hown, hys⟩ := hrel
    have hyl : ys.length ≤ 2000 := by rw [hys.out]; simp; omega
    by_cases hlt : i < xs.length
    · obtain ⟨b, off, rfl, hb, hR⟩ := hAA.out (by omega)
      have r0 : w.cell? ⟨b, off + i, none⟩ = some (.int .u8 (xs.getD i 0)) := hR i hlt
      rw [getD_of xs 0 i hlt, ← hbr.cell (p := ⟨b, off + i, none⟩) hb] at r0
      have hx2 := hxx.out xs[i] (List.getElem_mem hlt)
      have htake : (xs.take (i + 1)).map codeOf = (xs.take i).map codeOf ++ [codeOf xs[i]] := by rw [List.take_succ_eq_append_getElem hlt, List.map_append]; rfl
      have hT := Lib.hid htake
      clear htake hR
      generalize xs[i] = x at *
      obtain ⟨hx0, hx1⟩ := hx2
      have hlt' : decide ((i : Int) < (xs.length : Int)) = true := by simp; omega
      have hlt2 : decide ((i : Int) < 2000) = true := by simp; omega
      have n0 : (0 : Int) ≤ (i : Int) := by omega
      have hown' := Lib.hid hown
      obtain ⟨A3, c3, rfl⟩ := hown.form_
      clear hown
      have hcv := conv5 wr (49 + x % 3) (48 + x / 3 % 3) (48 + x / 9 % 3) (48 + x / 27 % 3) (48 + x / 81 % 3)
      have hco : Hid (codeOf x = ⟨#[UInt8.ofNat (49 + x % 3).toNat, UInt8.ofNat (48 + x / 3 % 3).toNat, UInt8.ofNat (48 + x / 9 % 3).toNat, UInt8.ofNat (48 + x / 27 % 3).toNat, UInt8.ofNat (48 + x / 81 % 3).toNat]⟩) := rfl
      rw [← hco.out] at hcv
      have hcs : (codeOf x).size ≤ maxLen := by rw [hco.out]; exact small_max (by show (5 : Nat) ≤ _; omega)
      generalize codeOf x = cx at *
      clear hco
      have hw1 : Below wr.heap.size wr ((wr.alloc (.cells #[.int .u8 (49 + x % 3), .int .u8 (48 + x / 3 % 3), .int .u8 (48 + x / 9 % 3), .int .u8 (48 + x / 27 % 3), .int .u8 (48 + x / 81 % 3)] 5)).alloc (.cells #[.string cx] 9)) := ((Below.refl _ _).alloc (Nat.le_refl _) _).alloc (by simp) _
      have hoA := Lib.hid (hown'.out.keep strIn_inner (Keeps.of_below hw1 _))
      have sd1 : ys.length + 1 ≤ maxLen := by unfold maxLen; omega
      have sd4 : (ys.length + 1) * 16 ≤ 140737488355328 := by omega
      have hs0 := hbr.size
      go_wp2_with (at_builtin; refine wpList_append_lies _ rfl (.tmp 21) (.tmp 48) 63 rfl w.heap.size 9 i0 (.string ⟨#[]⟩) 1 16 Try.underlying63 hi0 hz0 hz1 hz2 rfl (by decide) (.slice A3 ys.length c3) ys.length (ys.flatMap strCells) rfl (by exact hoA.out.1) ⟨wr.heap.size + 1, 0, none⟩ 1 1 [.string cx] rfl rfl (by exact World.news_of_block (cs := #[.string cx]) (Blk.new_at _ _ _ _ (by simp))) (by simp [Value.oneCell']) Nat.one_pos sd1 sd4 (by simp; omega) (wr.heap.size + 1 + 1) (by simp) ?_; intro g cap w2 hown2 hgr2 hat2 hlt2)
      have hR := slot_append strIn_inner (a := cx) hbr hown'.out hw1 (Nat.le_refl _) hbr.size hcs hown2 rfl hgr2 (hat2.imp_right (fun e => by simp [e]))
      have hys2 : Hid (ys ++ [cx] = (xs.take (i + 1)).map codeOf) := by rw [hT.out, ← hys.out]; rfl
      go_roundw
      case rel => exact ⟨i + 1, _, by omega, by go_num, hR.1, hR.2, hys2⟩
      case measure => simp [intOf]; omega
    · have hlt' : decide ((i : Int) < (xs.length : Int)) = false := by simp; omega
      have hm : ys = xs.map codeOf := by rw [hys.out, List.take_of_length_le (by omega)]
      have hm' := Lib.hid hm
      have ho := Lib.hid hown
      clear hm hown hys
      go_wp2
      go_ret
      exact ⟨_, rfl, by rw [← hm'.out]; exact ho.out, hbr⟩

def IsStrs (w : World) (v : Value) (ss : List ByteArray) : Prop :=
  Sl w v ss.length fun b off i => w.cell? ⟨b, off + i, none⟩ = some (.string (ss.getD i ⟨#[]⟩))
theorem IsStrs.stays {w w' : World} {v : Value} {ss : List ByteArray} (h : IsStrs w v ss) (hs : Stays w w') : IsStrs w' v ss :=
  Sl.stays h hs fun _ _ _ hb _ hc => (hs.2 _ hb).trans hc
theorem OwnStrs.strs {base : Nat} {w : World} {v : Value} {ss : List ByteArray} (h : OwnStrs base w v ss) : IsStrs w v ss := by
  have hsl := OwnL.sl h (fun _ => rfl)
  exact SlP.plain hsl fun b off i _ _ hi hr => by
    have := hr.2.2 hi 0 (by omega)
    rw [getD_of ss ⟨#[]⟩ i hi]
    simpa [strCells] using this
end Go.Proofs.Ythbnbfeolfkkaaa
