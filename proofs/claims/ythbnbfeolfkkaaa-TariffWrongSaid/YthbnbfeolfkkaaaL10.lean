/- The walk of Mail: the mailing that it makes. -/
import Derived.Test.YthbnbfeolfkkaaaL8
import Derived.Test.YthbnbfeolfkkaaaMailP
import Derived.Laws.BitsLemmas
namespace Go.Proofs.Ythbnbfeolfkkaaa
open Go.RowKit Go.Maps
attribute [local go_sem ↓] Go.wp_at_zero Go.wp_at_succ

theorem ofInt_nat64 (a : Nat) (ha : a < 9223372036854775808) : (BitVec.ofInt 64 (a : Int)).toNat = a := by
  rw [BitVec.ofInt_natCast, BitVec.toNat_ofNat]; exact Nat.mod_eq_of_lt (by omega)
theorem and_one_i64 (x : Int) (h0 : 0 ≤ x) (h1 : x ≤ 65535) : bits .and .i64 x 1 = x % 2 := by
  obtain ⟨a, rfl⟩ := Int.eq_ofNat_of_zero_le h0
  show IntKind.i64.wrap ((BitVec.ofInt 64 (a : Int) &&& BitVec.ofInt 64 ((1 : Nat) : Int)).toNat : Int) = _
  rw [BitVec.toNat_and, ofInt_nat64 a (by omega), ofInt_nat64 1 (by omega), IntKind.wrap_i64, Nat.and_one_is_mod]
  omega
def pieceCells (p : Piece) : List Value := [.int .i64 p.id, .int .i64 p.point, .string p.code, .int .i64 p.grams, .bool p.barred]
def pieceIn (_ : Nat → Prop) (_ : World) (p : Piece) : Prop := p.code.size ≤ maxLen
theorem pieceIn_inner : Inner pieceIn := ⟨fun h _ _ => h⟩
abbrev OwnPieces := OwnL 48 5 pieceCells pieceIn
theorem OwnPieces.pieces {base : Nat} {w : World} {v : Value} {ps : List Piece} (h : OwnPieces base w v ps) : IsPieces w v ps := by
  have hsl := OwnL.sl h (fun _ => rfl)
  exact SlP.plain hsl fun b off i hb _ hi hr => by
    have h0 := hr.2.2 hi 0 (by omega)
    have h1 := hr.2.2 hi 1 (by omega)
    have h2 := hr.2.2 hi 2 (by omega)
    have h3 := hr.2.2 hi 3 (by omega)
    have h4 := hr.2.2 hi 4 (by omega)
    rw [getD_of ps Piece.zero i hi]
    exact ⟨by simpa [pieceCells] using h0, by simpa [pieceCells] using h1, by simpa [pieceCells] using h2, by simpa [pieceCells] using h3, by simpa [pieceCells] using h4, h.2 ps[i] (List.getElem_mem hi)⟩
theorem piece_info : (Try.prog.info? 48).map (fun i => (i.zero, i.size, i.bytes)) = some (some (.agg #[.int .i64 0, .int .i64 0, .string ⟨#[]⟩, .int .i64 0, .bool false]), 5, 48) := by kernel_rfl
/-- a mailing in memory of the call's own -/
def MailOwn (w : World) (m : Mailing) (e : Ending) (w' : World) : Prop :=
  ∃ pv, e = .returned (.agg #[.int .u8 m.cls, .int .u8 m.country, .string m.origin, pv]) ∧ OwnPieces w.heap.size w' pv m.pieces ∧ Below w.heap.size w w'
theorem one5 {a b c d e : Value} (ha : a.oneCell' = true) (hb : b.oneCell' = true) (hc : c.oneCell' = true) (hd : d.oneCell' = true) (he : e.oneCell' = true) : ∀ u ∈ [a, b, c, d, e], u.oneCell' = true := by
  intro u hu; simp at hu; rcases hu with rfl | rfl | rfl | rfl | rfl <;> assumption

theorem strs_one {B : Nat} {w : World} {v : Value} {s : ByteArray} (h : OwnStrs B w v [s]) : ∃ bs os c, v = .slice (some ⟨bs, os, none⟩) 1 c ∧ bs < w.heap.size ∧ w.cell? ⟨bs, os, none⟩ = some (.string s) := by
  obtain ⟨A, c, rfl, _, _, hA⟩ := OwnStrs.strs h
  obtain ⟨bs, os, rfl, hb, hr⟩ := hA (by simp)
  exact ⟨bs, os, c, rfl, hb, by simpa using hr 0 (by simp)⟩
theorem isKs_one (k : IntKind) (W : World) (t : TypeId) (x : Int) : IsKs k (W.alloc (.cells #[.int k x] t)) (.slice (some ⟨W.heap.size, 0, none⟩) 1 1) [x] := by
  refine Sl.mk_ (Blk.new W t _).lt (Nat.le_refl _) (small_max (by omega)) fun i hi => ?_
  obtain rfl : i = 0 := by have : i < 1 := hi; omega
  exact (Blk.new W t #[.int k x]).cell 0

set_option maxRecDepth 100000 in
set_option maxHeartbeats 8000000 in
theorem mail_any (cls : Int) (v : Value) (l : List Int) (w : World) (hc0 : 0 ≤ cls) (hc1 : cls ≤ 255) (h : IsKs .u16 w v l) (hx : ∀ x ∈ l, 0 ≤ x ∧ x ≤ 65535) : Calls Try.prog 14 #[.int .u8 cls, v] w (MailOwn w (mailOf cls l)) := by
  obtain ⟨A, c, rfl, hnc, hcm, hA⟩ := h
  obtain ⟨i0, hi0, hz0, hz1, hz2⟩ := info_parts piece_info
  have hcm' : c ≤ 9223372036854775807 := hcm
  have hAA := Lib.hid hA
  have hxx := Lib.hid hx
  clear hA hx
  go_enter Try.func14, Try.ntmps14
  go_wp2
  have k0 : Blk ((w.alloc (.cells #[.int .u8 0, .int .u8 0, .string ⟨#[]⟩, .slice none 0 0] 36)).alloc (.cells #[.int .u8 (1 + cls % 3), .int .u8 1, .string ⟨#[49, 48, 48, 50, 51]⟩, .slice none 0 0] 36)) w.heap.size 36 #[.int .u8 0, .int .u8 0, .string ⟨#[]⟩, .slice none 0 0] := (Blk.new _ _ _).alloc _
  have k1 : Blk ((w.alloc (.cells #[.int .u8 0, .int .u8 0, .string ⟨#[]⟩, .slice none 0 0] 36)).alloc (.cells #[.int .u8 (1 + cls % 3), .int .u8 1, .string ⟨#[49, 48, 48, 50, 51]⟩, .slice none 0 0] 36)) (w.heap.size + 1) 36 #[.int .u8 (1 + cls % 3), .int .u8 1, .string ⟨#[49, 48, 48, 50, 51]⟩, .slice none 0 0] := Blk.new_at _ _ _ _ (by simp)
  have hb0 : Below w.heap.size w ((w.alloc (.cells #[.int .u8 0, .int .u8 0, .string ⟨#[]⟩, .slice none 0 0] 36)).alloc (.cells #[.int .u8 (1 + cls % 3), .int .u8 1, .string ⟨#[49, 48, 48, 50, 51]⟩, .slice none 0 0] 36)) := ((Below.refl _ _).alloc (Nat.le_refl _) _).alloc (by simp) _
  generalize (w.alloc (.cells #[.int .u8 0, .int .u8 0, .string ⟨#[]⟩, .slice none 0 0] 36)).alloc (.cells #[.int .u8 (1 + cls % 3), .int .u8 1, .string ⟨#[49, 48, 48, 50, 51]⟩, .slice none 0 0] 36) = W0 at *
  have hs0 : w.heap.size + 1 < W0.heap.size := k1.lt
  have hk0 := Lib.hid k0
  clear k0
  go_loopw [6, 7] (fun dv iv wr => ∃ (i : Nat) (d : Int) (ps : List Piece) (pv : Value), i ≤ l.length ∧ i ≤ 2000 ∧ iv = .int .i64 i ∧ dv = .int .i64 d ∧ 0 ≤ d ∧ d ≤ 3 * i ∧ Below (w.heap.size + 1) W0 wr ∧ Blk wr (w.heap.size + 1) 36 #[.int .u8 (1 + cls % 3), .int .u8 1, .string ⟨#[49, 48, 48, 50, 51]⟩, pv] ∧ OwnPieces (w.heap.size + 2) wr pv ps ∧ Hid (d = mailId 0 (l.take i)) ∧ Hid (ps = mailPieces 0 (l.take i)))
    (fun _ iv _ => l.length - (intOf iv).toNat)
  case atStart => exact ⟨0, 0, [], .slice none 0 0, by omega, by omega, rfl, rfl, by omega, by omega, Below.refl _ _, k1, OwnL.nil_, rfl, rfl⟩
  case round =>
    obtain ⟨i, d, ps, pv, hi, hi2, rfl, rfl, hd0, hd1, hbr, hbk, hown, hdd, hpp⟩ := hrel
    have hszr : w.heap.size + 1 < wr.heap.size := hbk.lt
    have hpl : ps.length = i := by rw [hpp.out, mailPieces_len, List.length_take]; omega
    have hpl2 : ps.length ≤ 2000 := by omega
    have hpl' := Lib.hid hpl
    clear hpl
    by_cases hlt : i < l.length ∧ i < 2000
    · obtain ⟨hlt, hlt2⟩ := hlt
      obtain ⟨b, off, rfl, hb, hR⟩ := hAA.out (by omega)
      have r0 : w.cell? ⟨b, off + i, none⟩ = some (.int .u16 (l.getD i 0)) := hR i hlt
      have hwr : Below w.heap.size w wr := hb0.trans (hbr.mono (by omega))
      rw [getD_of l 0 i hlt, ← hwr.cell (p := ⟨b, off + i, none⟩) hb] at r0
      obtain ⟨hx0, hx1⟩ := hxx.out l[i] (List.getElem_mem hlt)
      have htake : l.take (i + 1) = l.take i ++ [l[i]] := List.take_succ_eq_append_getElem hlt
      have hT := Lib.hid htake
      clear htake hR
      generalize l[i] = x at *
      have hlt' : decide ((i : Int) < (l.length : Int)) = true := by simp; omega
      have hlt2' : decide ((i : Int) < 2000) = true := by simp; omega
      have n0 : (0 : Int) ≤ (i : Int) := by omega
      have hown' := Lib.hid hown
      have hbk' := Lib.hid hbk
      obtain ⟨A3, c3, rfl⟩ := hown.form_
      have x3 := hbk.cell 3
      simp at x3
      have hand := and_one_i64 x hx0 hx1
      have xa : ∀ (o : Obj), (wr.alloc o).cell? ⟨w.heap.size + 1, 3, none⟩ = some (.slice A3 ps.length c3) := fun o => (World.cell?_alloc_lt _ _ _ (by exact hszr)).trans x3
      have sd1 : ps.length + 1 ≤ maxLen := by unfold maxLen; omega
      have sd4 : (ps.length + 1) * 48 ≤ 140737488355328 := by omega
      have hneq : some (w.heap.size + 1) ≠ (Value.slice A3 ps.length c3).ownBlock := fun e => by have := (hown.1.lt _ e.symm).1; omega
      have m3 : 0 ≤ x % 3 := Int.emod_nonneg _ (by omega)
      have m4 : x % 3 < 3 := Int.emod_lt_of_pos _ (by omega)
      have m5 : 0 ≤ x / 256 := by omega
      have m6 : x / 256 ≤ 255 := by omega
      have hcs : (codeOf (x / 256)).size ≤ maxLen := by rw [codeOf_size]; exact small_max (by omega)
      have hmp : Hid (mailPiece d x = ⟨d + (1 + x % 3), 0, codeOf (x / 256), 1 + x / 4 % 20, decide (0 < x % 2)⟩) := rfl
      generalize hcx : codeOf (x / 256) = cx at *
      have hcx' := Lib.hid hcx
      clear hcx hown hbk
      go_wp2
      have v1 : IntKind.u8.wrap (x / 256) = x / 256 := by rw [IntKind.wrap_u8]; omega
      have v2 : (x / 4).tmod 20 = x / 4 % 20 := Int.tmod_eq_emod_of_nonneg (by omega)
      have v3 : IntKind.i64.wrap (1 + x / 4 % 20) = 1 + x / 4 % 20 := IntWalk.i64_in _ (by omega)

      go_region_law (first | (go_simp; go_at_call 24; refine (codes_any _ [x / 256] _ (by exact isKs_one .u8 wr 5 (x / 256)) (by simp; omega) (by simp)).mono ?_; rintro e w' ⟨sv, rfl, hOs, hbw'⟩; rw [List.map_singleton, hcx'.out] at hOs; obtain ⟨bs, os, c5, rfl, hbs, hs0'⟩ := strs_one hOs; clear hOs; have hq1 : Below wr.heap.size wr w' := (((Below.refl _ _).alloc (Nat.le_refl _) _).drew).trans (hbw'.mono (by simp)); have hq2 := hq1.size; have z1 : w'.cell? ⟨w.heap.size + 1, 3, none⟩ = some (.slice A3 ps.length c3) := (hq1.cell (p := ⟨w.heap.size + 1, 3, none⟩) hszr).trans x3; have z2 : ∀ (o : Obj), (w'.alloc o).cell? ⟨w.heap.size + 1, 3, none⟩ = some (.slice A3 ps.length c3) := fun o => (World.cell?_alloc_lt _ _ _ (by exact Nat.lt_of_lt_of_le hszr hq2)).trans z1; have hoA := Lib.hid (hown'.out.keep pieceIn_inner (Keeps.of_below hq1 _)); have hbA := Lib.hid (hbk'.out.below hq1 hszr); dsimp only) | (refine step_append_lies _ (by rfl) (.tmp 34) (.tmp 51) 34 (by rfl) (w.heap.size + 2) 48 i0 (.agg #[.int .i64 0, .int .i64 0, .string ⟨#[]⟩, .int .i64 0, .bool false]) 5 48 Try.underlying34 hi0 hz0 hz1 hz2 rfl (by decide) (.slice A3 ps.length c3) ps.length _ (by rfl) (by exact hoA.out.1.alloc _) ⟨w'.heap.size, 0, none⟩ 1 1 [.int .i64 (d + (1 + x % 3)), .int .i64 0, .string cx, .int .i64 (1 + x / 4 % 20), .bool (decide (0 < x % 2))] (by rfl) rfl (by exact World.news_of_block (cs := #[.int .i64 (d + (1 + x % 3)), .int .i64 0, .string cx, .int .i64 (1 + x / 4 % 20), .bool (decide (0 < x % 2))]) (heap_alloc_new _ _)) (one5 rfl rfl rfl rfl rfl) Nat.one_pos sd1 sd4 (by simp; omega) (w'.heap.size + 1) (by simp) ?_; intro g cap w2 hown2 hgr2 hat2 hlt2; have hbk1 := Blk.grown (by exact hbA.out.alloc _) hgr2 hneq; have y1 := hbk1.cell 3; have yf := hbk1.frozen 3; simp only [List.getElem?_toArray, List.getElem?_cons_succ, List.getElem?_cons_zero] at y1; clear hbk1))
      all_goals
        have hR := field_append pieceIn_inner (i := 3) (a := ⟨d + (1 + x % 3), 0, cx, 1 + x / 4 % 20, decide (0 < x % 2)⟩) hbr hbk'.out hown'.out (hq1.alloc hq2 _) (by omega) (Nat.le_refl _) hcs hown2 rfl hgr2 (hat2.imp_right (fun e => by simp [e]))
        have hd2 : Hid (d + (1 + x % 3) = mailId 0 (l.take (i + 1))) := by rw [hT.out, mailId_snoc, ← hdd.out]; rfl
        have hp2 : Hid (ps ++ [⟨d + (1 + x % 3), 0, cx, 1 + x / 4 % 20, decide (0 < x % 2)⟩] = mailPieces 0 (l.take (i + 1))) := by rw [hT.out, mailPieces_snoc, ← hpp.out, ← hdd.out, hmp.out]; rfl
        clear hown2 hgr2 hat2 hlt2 v1 v2 v3
        go_wp2
        go_roundw
        case rel => exact ⟨i + 1, _, _, _, by omega, by omega, by go_num, rfl, by omega, by omega, hR.1, hR.2.1, hR.2.2, hd2, hp2⟩
        case measure => simp [intOf]; omega

    · have hm : ps = mailPieces 0 (l.take 2000) := by
        rw [hpp.out]
        by_cases h9 : i < 2000
        · have : i = l.length := by omega
          rw [this, List.take_of_length_le (Nat.le_refl _), List.take_of_length_le (by omega)]
        · rw [show i = 2000 from by omega]
      have hm' := Lib.hid hm
      have e0 := hbk.cell 0
      have e1 := hbk.cell 1
      have e2 := hbk.cell 2
      have e3 := hbk.cell 3
      have hr2 := hk0.out.below hbr (by omega)
      have f0 := hr2.cell 0
      have f1 := hr2.cell 1
      have f2 := hr2.cell 2
      have f3 := hr2.cell 3
      have g0 := hr2.frozen 0
      have g1 := hr2.frozen 1
      have g2 := hr2.frozen 2
      have g3 := hr2.frozen 3
      simp at e0 e1 e2 e3 f0 f1 f2 f3
      have ho := Lib.hid hown
      obtain ⟨A3, c3, rfl⟩ := hown.form_
      have hr2' := Lib.hid hr2
      have hwr : Below w.heap.size w wr := hb0.trans (hbr.mono (by omega))
      clear hm hown hpp hdd hr2 hbk
      have hfin : ∀ W', W' = ((((wr.setCell ⟨w.heap.size, 0, none⟩ (.int .u8 (1 + cls % 3))).setCell ⟨w.heap.size, 1, none⟩ (.int .u8 1)).setCell ⟨w.heap.size, 2, none⟩ (.string ⟨#[49, 48, 48, 50, 51]⟩)).setCell ⟨w.heap.size, 3, none⟩ (.slice A3 ps.length c3)) →
          Blk W' w.heap.size 36 #[.int .u8 (1 + cls % 3), .int .u8 1, .string ⟨#[49, 48, 48, 50, 51]⟩, .slice A3 ps.length c3] ∧ MailOwn w (mailOf cls l) (.returned (.agg #[.int .u8 (1 + cls % 3), .int .u8 1, .string ⟨#[49, 48, 48, 50, 51]⟩, .slice A3 ps.length c3])) W' := by
        rintro W' rfl
        refine ⟨(((hr2'.out.set_ 0 _).set_ 1 _).set_ 2 _).set_ 3 _, .slice A3 ps.length c3, rfl, ?_, ?_⟩
        · have hk := (((Keeps.set_ (P := fun b => w.heap.size + 2 ≤ b) wr ⟨w.heap.size, 0, none⟩ (.int .u8 (1 + cls % 3)) (by simp)).trans (Keeps.set_ _ ⟨w.heap.size, 1, none⟩ (.int .u8 1) (by simp))).trans (Keeps.set_ _ ⟨w.heap.size, 2, none⟩ (.string ⟨#[49, 48, 48, 50, 51]⟩) (by simp))).trans (Keeps.set_ _ ⟨w.heap.size, 3, none⟩ (.slice A3 ps.length c3) (by simp))
          have := (ho.out.keep pieceIn_inner hk).base pieceIn_inner (B' := w.heap.size) (by omega)
          rw [hm'.out] at this ⊢
          exact this
        · exact (((hwr.setCell (by simp) _).setCell (by simp) _).setCell (by simp) _).setCell (by simp) _
      have hfin' := Lib.hid hfin
      clear hfin
      by_cases hl : i < l.length
      · have hl1 : decide ((i : Int) < (l.length : Int)) = true := by simp; omega
        have hl2 : decide ((i : Int) < 2000) = false := by simp; omega
        go_wp2
        refine bodyPost_ret (results_cell_row Try.results14 _ _ _ _ _ (0, 0) _ rfl (hfin'.out _ rfl).1 Try.underlying36 rfl size36) rfl (hfin'.out _ rfl).2
      · have hl1 : decide ((i : Int) < (l.length : Int)) = false := by simp; omega
        go_wp2
        refine bodyPost_ret (results_cell_row Try.results14 _ _ _ _ _ (0, 0) _ rfl (hfin'.out _ rfl).1 Try.underlying36 rfl size36) rfl (hfin'.out _ rfl).2
end Go.Proofs.Ythbnbfeolfkkaaa
