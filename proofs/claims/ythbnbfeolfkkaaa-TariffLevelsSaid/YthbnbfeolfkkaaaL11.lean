/- Levels in memory of the call's own; the walk of the closure of law23.Made, which adds a level. -/
import Derived.Test.YthbnbfeolfkkaaaL7
namespace Go.Proofs.Ythbnbfeolfkkaaa
open Go.RowKit Go.Maps

def IsLabelsP (P : Nat → Prop) (w : World) (v : Value) (ls : List Label) : Prop :=
  SlP P w v ls.length fun b off i => IsLabel w b (off + i * 2) (ls.getD i Label.zero)
theorem IsLabelsP.plain {P : Nat → Prop} {w : World} {v : Value} {ls : List Label} (h : IsLabelsP P w v ls) : IsLabels w v ls := SlP.plain h fun _ _ _ _ _ _ hc => hc
theorem IsLabelsP.keep {P Q : Nat → Prop} {w w' : World} {v : Value} {ls : List Label} (h : IsLabelsP P w v ls) (k : Keeps P w w') (hPQ : ∀ b, b < w.heap.size → P b → Q b) : IsLabelsP Q w' v ls :=
  SlP.map h k.size hPQ fun _ _ _ hb hp _ ⟨h1, h2, h3⟩ => ⟨(k.cell hb hp).trans h1, (k.cell hb hp).trans h2, h3⟩
def labelCells (l : Label) : List Value := [.string l.pre, .string l.group]
def labelIn (_ : Nat → Prop) (_ : World) (l : Label) : Prop := l.pre.size ≤ maxLen ∧ l.group.size ≤ maxLen
theorem labelIn_inner : Inner labelIn := ⟨fun h _ _ => h⟩
abbrev OwnLabels := OwnL 90 2 labelCells labelIn
def levelCells (p : Level × Value) : List Value := [.string p.1.name, .int .i64 p.1.pre, p.2, .int .i64 p.1.least, .int .i64 p.1.cents]
def levelIn (P : Nat → Prop) (w : World) (p : Level × Value) : Prop := IsLabelsP P w p.2 p.1.labels ∧ p.1.name.size ≤ maxLen
theorem levelIn_inner : Inner levelIn := ⟨fun h k hPQ => ⟨IsLabelsP.keep h.1 k hPQ, h.2⟩⟩
abbrev OwnLevels := OwnL 54 5 levelCells levelIn
theorem label_info : (Try.prog.info? 90).map (fun i => (i.zero, i.size, i.bytes)) = some (some (.agg #[.string ⟨#[]⟩, .string ⟨#[]⟩]), 2, 32) := by kernel_rfl
theorem level_info : (Try.prog.info? 54).map (fun i => (i.zero, i.size, i.bytes)) = some (some (.agg #[.string ⟨#[]⟩, .int .i64 0, .slice none 0 0, .int .i64 0, .int .i64 0]), 5, 64) := by kernel_rfl
theorem OwnLabels.labels {base : Nat} {w : World} {v : Value} {ls : List Label} (h : OwnLabels base w v ls) : IsLabelsP (fun b => base ≤ b) w v ls := by
  have hsl := OwnL.sl h (fun _ => rfl)
  exact SlP.map hsl (Nat.le_refl _) (fun _ _ h => h) fun b off i _ _ hi hr => by
    have h0 := hr.2.2 hi 0 (by omega)
    have h1 := hr.2.2 hi 1 (by omega)
    rw [getD_of ls Label.zero i hi]
    exact ⟨by simpa [labelCells] using h0, by simpa [labelCells] using h1, h.2 ls[i] (List.getElem_mem hi)⟩
theorem OwnLevels.levels {base : Nat} {w : World} {v : Value} {ps : List (Level × Value)} (h : OwnLevels base w v ps) : IsLevels w v (ps.map (·.1)) := by
  have hl : (ps.map (·.1)).length = ps.length := by simp
  unfold IsLevels
  rw [hl]
  have hsl := OwnL.sl h (fun _ => rfl)
  refine SlP.plain hsl fun b off i hb _ hi hr => ?_
  have h0 := hr.2.2 hi 0 (by omega)
  have h1 := hr.2.2 hi 1 (by omega)
  have h2 := hr.2.2 hi 2 (by omega)
  have h3 := hr.2.2 hi 3 (by omega)
  have h4 := hr.2.2 hi 4 (by omega)
  rw [getD_of _ _ i (by rw [hl]; exact hi), List.getElem_map]
  have hin := h.2 ps[i] (List.getElem_mem hi)
  exact ⟨by simpa [levelCells] using h0, by simpa [levelCells] using h1, ⟨ps[i].2, by simpa [levelCells] using h2, hin.1.plain⟩, by simpa [levelCells] using h3, by simpa [levelCells] using h4, hin.2⟩
/-- what the closure leaves: the list of levels is one longer -/
def Added (w : World) (O B : Nat) (lps : List (Level × Value)) (e : Ending) (w' : World) : Prop :=
  e = .returned (.tuple #[]) ∧ ∃ ov, Blk w' O 32 #[ov] ∧ OwnLevels B w' ov lps ∧ Below O w w'

theorem one5v {a b c d e : Value} (ha : a.oneCell' = true) (hb : b.oneCell' = true) (hc : c.oneCell' = true) (hd : d.oneCell' = true) (he : e.oneCell' = true) : ∀ u ∈ [a, b, c, d, e], u.oneCell' = true := by
  intro u hu; simp at hu; rcases hu with rfl | rfl | rfl | rfl | rfl <;> assumption
set_option maxRecDepth 100000 in
set_option maxHeartbeats 4000000 in
theorem addLevel_any (name : ByteArray) (pre : Int) (labels : List Label) (lv ov cv : Value) (lps : List (Level × Value)) (cents : List Int) (O B L C : Nat) (w : World)
    (hO : Blk w O 32 #[ov]) (hown : OwnLevels B w ov lps) (hL : Blk w L 29 #[.slice none 0 0]) (hC : Blk w C 29 #[cv]) (hcv : IsKs .u8 w cv cents) (hcb : ∀ x ∈ cents, 0 ≤ x ∧ x ≤ 255)
    (hlv : IsLabelsP (fun b => B ≤ b ∧ some b ≠ ov.ownBlock) w lv labels) (hn : name.size ≤ maxLen) (hOB : O < B) (hBw : B ≤ w.heap.size) (hll : lps.length ≤ 10) :
    Calls Try.prog 40 #[.agg #[.string name, .int .i64 pre, lv, .int .i64 0, .int .i64 0], .pointer (some ⟨O, 0, none⟩), .pointer (some ⟨L, 0, none⟩), .pointer (some ⟨C, 0, none⟩)] w
      (Added w O B (lps ++ [(⟨name, pre, labels, 1, cents.getD lps.length 0⟩, lv)])) := by
  have hlv' := Lib.hid hlv
  obtain ⟨Al, cl, rfl, _, _, hAl⟩ := hlv
  have hown' := Lib.hid hown
  obtain ⟨Ao, co, rfl⟩ := hown.form_
  obtain ⟨Ac, cc, rfl, hcn, hcm, hAc⟩ := hcv
  obtain ⟨i0, hi0, hz0, hz1, hz2⟩ := info_parts level_info
  have hOl := hO.lt
  have hLl := hL.lt
  have hCl := hC.lt
  clear hAl
  by_cases hk : lps.length < cents.length
  · obtain ⟨b, off, rfl, hb, hR⟩ := hAc (by omega)
    have r0 : w.cell? ⟨b, off + lps.length, none⟩ = some (.int .u8 (cents.getD lps.length 0)) := hR _ hk
    obtain ⟨hx0, hx1⟩ := hcb (cents.getD lps.length 0) (by rw [getD_of _ _ _ hk]; exact List.getElem_mem hk)
    generalize cents.getD lps.length 0 = ck at *
    have aO : ∀ (o : Obj), (w.alloc o).cell? ⟨O, 0, none⟩ = some (.slice Ao lps.length co) := fun o => (World.cell?_alloc_lt _ _ _ (by exact hOl)).trans (hO.cell 0)
    have aL : ∀ (o : Obj), (w.alloc o).cell? ⟨L, 0, none⟩ = some (.slice none 0 0) := fun o => (World.cell?_alloc_lt _ _ _ (by exact hLl)).trans (hL.cell 0)
    have aC : ∀ (o : Obj), (w.alloc o).cell? ⟨C, 0, none⟩ = some (.slice (some ⟨b, off, none⟩) cents.length cc) := fun o => (World.cell?_alloc_lt _ _ _ (by exact hCl)).trans (hC.cell 0)
    have aR : ∀ (o : Obj), (w.alloc o).cell? ⟨b, off + lps.length, none⟩ = some (.int .u8 ck) := fun o => (World.cell?_alloc_lt _ _ _ (by exact hb)).trans r0
    have hk' : decide ((lps.length : Int) < (cents.length : Int)) = true := by simp; omega
    have n0 : (0 : Int) ≤ (lps.length : Int) := by omega
    clear hR hAc
    have hW2 : Below w.heap.size w ((w.alloc (.cells #[.string name, .int .i64 pre, .slice Al labels.length cl, .int .i64 1, .int .i64 ck] 54)).alloc (.cells #[.string name, .int .i64 pre, .slice Al labels.length cl, .int .i64 1, .int .i64 ck] 54)) := ((Below.refl _ _).alloc (Nat.le_refl _) _).alloc (by simp) _
    have hoA := Lib.hid (hown'.out.keep levelIn_inner (Keeps.of_below hW2 _))
    have hOA := Lib.hid (hO.below hW2 hOl)
    have hin : levelIn (fun b => B ≤ b ∧ some b ≠ (Value.slice Ao lps.length co).ownBlock) ((w.alloc (.cells #[.string name, .int .i64 pre, .slice Al labels.length cl, .int .i64 1, .int .i64 ck] 54)).alloc (.cells #[.string name, .int .i64 pre, .slice Al labels.length cl, .int .i64 1, .int .i64 ck] 54)) (⟨name, pre, labels, 1, ck⟩, .slice Al labels.length cl) := ⟨hlv'.out.keep (Keeps.of_below hW2 _) (fun _ _ h => h), hn⟩
    have hneq : some O ≠ (Value.slice Ao lps.length co).ownBlock := fun e => by have := (hown.1.lt _ e.symm).1; omega
    have sd1 : lps.length + 1 ≤ maxLen := by unfold maxLen; omega
    have sd4 : (lps.length + 1) * 64 ≤ 140737488355328 := by omega
    have hO' := Lib.hid hO
    clear hown hO hL hC hcb
    go_enter Try.func40, Try.ntmps40
    go_wp2_with (at_builtin; refine wpList_append_lies _ rfl (.tmp 30) (.tmp 32) 32 rfl B 54 i0 (.agg #[.string ⟨#[]⟩, .int .i64 0, .slice none 0 0, .int .i64 0, .int .i64 0]) 5 64 Try.underlying32 hi0 hz0 hz1 hz2 rfl (by decide) (.slice Ao lps.length co) lps.length (lps.flatMap levelCells) rfl (by exact hoA.out.1) ⟨w.heap.size + 1, 0, none⟩ 1 1 [.string name, .int .i64 pre, .slice Al labels.length cl, .int .i64 1, .int .i64 ck] rfl rfl (by exact World.news_of_block (cs := #[.string name, .int .i64 pre, .slice Al labels.length cl, .int .i64 1, .int .i64 ck]) (Blk.new_at _ _ _ _ (by simp))) (one5v rfl rfl rfl rfl rfl) Nat.one_pos sd1 sd4 (by simp; omega) (w.heap.size + 1 + 1) (by simp) ?_; intro g cap w1 hown1 hgr1 hat1 hlt1; have hbk1 := Blk.grown (by exact hOA.out) hgr1 hneq; have y1 := hbk1.cell 0; have yf := hbk1.frozen 0; simp only [List.getElem?_toArray, List.getElem?_cons_zero] at y1; clear hbk1; have hR := field_append levelIn_inner (i := 0) (a := (⟨name, pre, labels, 1, ck⟩, .slice Al labels.length cl)) (Below.refl O w) hO'.out hown'.out hW2 hOB (Nat.le_refl _) hin hown1 rfl hgr1 (hat1.imp_right (fun e => by simp [e])); clear hown1 hgr1 hat1 hlt1)
    go_end0
    exact ⟨rfl, _, hR.2.1, hR.2.2, hR.1⟩
  · have hc0 : cents.getD lps.length 0 = 0 := by rw [List.getD_eq_getElem?_getD, List.getElem?_eq_none (by omega)]; rfl
    have hk' : decide ((lps.length : Int) < (cents.length : Int)) = false := by simp; omega
    rw [hc0]
    clear hAc hc0
    have aO : ∀ (o : Obj), (w.alloc o).cell? ⟨O, 0, none⟩ = some (.slice Ao lps.length co) := fun o => (World.cell?_alloc_lt _ _ _ (by exact hOl)).trans (hO.cell 0)
    have aL : ∀ (o : Obj), (w.alloc o).cell? ⟨L, 0, none⟩ = some (.slice none 0 0) := fun o => (World.cell?_alloc_lt _ _ _ (by exact hLl)).trans (hL.cell 0)
    have aC : ∀ (o : Obj), (w.alloc o).cell? ⟨C, 0, none⟩ = some (.slice Ac cents.length cc) := fun o => (World.cell?_alloc_lt _ _ _ (by exact hCl)).trans (hC.cell 0)
    have hW2 : Below w.heap.size w ((w.alloc (.cells #[.string name, .int .i64 pre, .slice Al labels.length cl, .int .i64 1, .int .i64 0] 54)).alloc (.cells #[.string name, .int .i64 pre, .slice Al labels.length cl, .int .i64 1, .int .i64 0] 54)) := ((Below.refl _ _).alloc (Nat.le_refl _) _).alloc (by simp) _
    have hoA := Lib.hid (hown'.out.keep levelIn_inner (Keeps.of_below hW2 _))
    have hOA := Lib.hid (hO.below hW2 hOl)
    have hin : levelIn (fun b => B ≤ b ∧ some b ≠ (Value.slice Ao lps.length co).ownBlock) ((w.alloc (.cells #[.string name, .int .i64 pre, .slice Al labels.length cl, .int .i64 1, .int .i64 0] 54)).alloc (.cells #[.string name, .int .i64 pre, .slice Al labels.length cl, .int .i64 1, .int .i64 0] 54)) (⟨name, pre, labels, 1, 0⟩, .slice Al labels.length cl) := ⟨hlv'.out.keep (Keeps.of_below hW2 _) (fun _ _ h => h), hn⟩
    have hneq : some O ≠ (Value.slice Ao lps.length co).ownBlock := fun e => by have := (hown.1.lt _ e.symm).1; omega
    have sd1 : lps.length + 1 ≤ maxLen := by unfold maxLen; omega
    have sd4 : (lps.length + 1) * 64 ≤ 140737488355328 := by omega
    have hO' := Lib.hid hO
    clear hown hO hL hC hcb
    go_enter Try.func40, Try.ntmps40
    go_wp2_with (at_builtin; refine wpList_append_lies _ rfl (.tmp 30) (.tmp 32) 32 rfl B 54 i0 (.agg #[.string ⟨#[]⟩, .int .i64 0, .slice none 0 0, .int .i64 0, .int .i64 0]) 5 64 Try.underlying32 hi0 hz0 hz1 hz2 rfl (by decide) (.slice Ao lps.length co) lps.length (lps.flatMap levelCells) rfl (by exact hoA.out.1) ⟨w.heap.size + 1, 0, none⟩ 1 1 [.string name, .int .i64 pre, .slice Al labels.length cl, .int .i64 1, .int .i64 0] rfl rfl (by exact World.news_of_block (cs := #[.string name, .int .i64 pre, .slice Al labels.length cl, .int .i64 1, .int .i64 0]) (Blk.new_at _ _ _ _ (by simp))) (one5v rfl rfl rfl rfl rfl) Nat.one_pos sd1 sd4 (by simp; omega) (w.heap.size + 1 + 1) (by simp) ?_; intro g cap w1 hown1 hgr1 hat1 hlt1; have hbk1 := Blk.grown (by exact hOA.out) hgr1 hneq; have y1 := hbk1.cell 0; have yf := hbk1.frozen 0; simp only [List.getElem?_toArray, List.getElem?_cons_zero] at y1; clear hbk1; have hR := field_append levelIn_inner (i := 0) (a := (⟨name, pre, labels, 1, 0⟩, .slice Al labels.length cl)) (Below.refl O w) hO'.out hown'.out hW2 hOB (Nat.le_refl _) hin hown1 rfl hgr1 (hat1.imp_right (fun e => by simp [e])); clear hown1 hgr1 hat1 hlt1)
    go_end0
    exact ⟨rfl, _, hR.2.1, hR.2.2, hR.1⟩
end Go.Proofs.Ythbnbfeolfkkaaa
