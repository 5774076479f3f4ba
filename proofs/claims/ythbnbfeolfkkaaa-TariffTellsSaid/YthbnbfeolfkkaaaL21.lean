/- Copies of rates and steps whose first element's own memory lies apart from that of the others. -/
import Derived.Test.YthbnbfeolfkkaaaL7
import Derived.Test.YthbnbfeolfkkaaaSto
namespace Go.Proofs.Ythbnbfeolfkkaaa
open Go.RowKit Go.Maps
attribute [local go_sem ↓] Go.wp_at_zero Go.wp_at_succ

/-- a row whose first element has blocks of its own below H; the row and all behind the others lie from H on, below U -/
def HeadOwn {α : Type} (J : Nat → Nat → World → α → Prop) (I : (Nat → Prop) → World → α → Prop) (B U : Nat) (w : World) (v : Value) (ps : List α) : Prop :=
  ∃ a t H, ps = a :: t ∧ J B H w a ∧ B ≤ H ∧ H ≤ U ∧ (∀ g, v.ownBlock = some g → H ≤ g ∧ g < U) ∧ ∀ p ∈ t, I (fun b => H ≤ b ∧ b < U ∧ some b ≠ v.ownBlock) w p
structure JInner {α : Type} (J : Nat → Nat → World → α → Prop) : Prop where
  keep : ∀ {B H : Nat} {w w' : World} {a : α}, J B H w a → Keeps (fun b => B ≤ b ∧ b < H) w w' → J B H w' a
  base : ∀ {B B' H : Nat} {w : World} {a : α}, J B H w a → B' ≤ B → J B' H w a
section
variable {α : Type} {J : Nat → Nat → World → α → Prop} {I : (Nat → Prop) → World → α → Prop}
theorem HeadOwn.keep (hI : Inner I) (hJ : JInner J) {B U : Nat} {w w' : World} {v : Value} {ps : List α} (h : HeadOwn J I B U w v ps) (k : Keeps (fun b => B ≤ b ∧ b < U) w w') : HeadOwn J I B U w' v ps := by
  obtain ⟨a, t, H, e, h1, h2, h3, h4, h5⟩ := h
  exact ⟨a, t, H, e, hJ.keep h1 ⟨k.size, fun b hb hp => k.block b hb ⟨hp.1, by omega⟩⟩, h2, h3, h4, fun p hp => hI.keep (h5 p hp) ⟨k.size, fun b hb hp => k.block b hb ⟨by omega, hp.2.1⟩⟩ fun _ _ h => h⟩
theorem HeadOwn.base (hJ : JInner J) {B B' U : Nat} {w : World} {v : Value} {ps : List α} (h : HeadOwn J I B U w v ps) (hB : B' ≤ B) : HeadOwn J I B' U w v ps := by
  obtain ⟨a, t, H, e, h1, h2, h3, h4, h5⟩ := h
  exact ⟨a, t, H, e, hJ.base h1 hB, by omega, h3, h4, h5⟩
theorem HeadOwn.upto (hI : Inner I) {B U U' : Nat} {w : World} {v : Value} {ps : List α} (h : HeadOwn J I B U w v ps) (hU : U ≤ U') : HeadOwn J I B U' w v ps := by
  obtain ⟨a, t, H, e, h1, h2, h3, h4, h5⟩ := h
  exact ⟨a, t, H, e, h1, h2, by omega, fun g e => ⟨(h4 g e).1, by have := (h4 g e).2; omega⟩, fun p hp => hI.keep (h5 p hp) ⟨Nat.le_refl _, fun _ _ _ => rfl⟩ fun b _ h => ⟨h.1, by have := h.2.1; omega, h.2.2⟩⟩
theorem head_append (hI : Inner I) (hJ : JInner J) {B g : Nat} {wr wA w1 : World} {v v' : Value} {ps : List α} {a' : α} (h : (ps = [] ∧ v.ownBlock = none) ∨ HeadOwn J I B wr.heap.size wr v ps) (hB : B ≤ wr.heap.size)
    (hA : Below wr.heap.size wr wA) (hgr : wA.grownBy w1 v.ownBlock) (ha : I (fun b => wr.heap.size ≤ b) wA a') (hJa : J B wA.heap.size wA a') (hat : v.ownBlock = some g ∨ wA.heap.size ≤ g) (hv' : v'.ownBlock = some g) (hlt : g < w1.heap.size) :
    HeadOwn J I B w1.heap.size w1 v' (ps ++ [a']) := by
  have sA := hA.size
  have s1 := hgr.size
  rcases h with ⟨rfl, hn⟩ | ⟨a, t, H, rfl, h1, h2, h3, h4, h5⟩
  · refine ⟨a', [], wA.heap.size, rfl, hJ.keep hJa ⟨s1, fun b hb _ => hgr.block b hb (by rw [hn]; simp)⟩, by omega, s1, fun g' e => ?_, fun p hp => by cases hp⟩
    rw [hv'] at e
    injection e with e
    subst e
    rw [hn] at hat
    rcases hat with e | e
    · cases e
    · exact ⟨e, hlt⟩
  · have k0 : ∀ b, b < wr.heap.size → some b ≠ v.ownBlock → w1.heap[b]? = wr.heap[b]? := fun b hb hn => (hgr.block b (by omega) hn).trans (hA.block b hb)
    refine ⟨a, t ++ [a'], H, rfl, hJ.keep h1 ⟨by omega, fun b hb hp => k0 b hb fun e => by have := (h4 b e.symm).1; omega⟩, h2, by omega, fun g' e => ?_, fun p hp => ?_⟩
    · rw [hv'] at e
      injection e with e
      subst e
      refine ⟨?_, hlt⟩
      rcases hat with e | e
      · exact (h4 _ e).1
      · omega
    · rcases List.mem_append.1 hp with hp | hp
      · refine hI.keep (h5 p hp) ⟨by omega, fun b hb hp => k0 b hb hp.2.2⟩ fun b hb hp => ⟨hp.1, by omega, fun e => ?_⟩
        rw [hv'] at e
        injection e with e
        subst e
        rcases hat with e | e
        · exact hp.2.2 e.symm
        · omega
      · rw [List.mem_singleton.1 hp]
        refine hI.keep ha ⟨s1, fun b hb hp => hgr.block b hb fun e => by have := (h4 b e.symm).2; omega⟩ fun b hb hp => ⟨by omega, by omega, fun e => ?_⟩
        rw [hv'] at e
        injection e with e
        subst e
        rcases hat with e | e
        · have := (h4 _ e).2; omega
        · omega
end
/-- the cents of a step in a block of their own below H -/
def JS (B H : Nat) (w : World) (p : Step × Value) : Prop := OwnInts B w p.2 p.1.cents ∧ ∀ g, p.2.ownBlock = some g → g < H
theorem ownsRow_keepAt {w w' : World} {B : Nat} {E : TypeId} {k : Nat} {v : Value} {n : Nat} {xs : List Value} (h : w.ownsRow B E k v n xs) (hw : ∀ g, v.ownBlock = some g → B ≤ g → g < w.heap.size → w'.heap[g]? = w.heap[g]?) : w'.ownsRow B E k v n xs := by
  refine ⟨h.1, ?_⟩
  rcases h.2 with h0 | ⟨g, cap, cur, e, hb, hg, h1⟩
  · exact .inl h0
  · exact .inr ⟨g, cap, cur, e, hb, (hw g (by rw [e]; rfl) hb (Array.getElem?_eq_some_iff.1 hg).1).trans hg, h1⟩
theorem ownsRow_base {w : World} {B B' : Nat} {E : TypeId} {k : Nat} {v : Value} {n : Nat} {xs : List Value} (h : w.ownsRow B E k v n xs) (hB : B' ≤ B) : w.ownsRow B' E k v n xs := by
  refine ⟨h.1, ?_⟩
  rcases h.2 with h0 | ⟨g, cap, cur, e, hb, h1⟩
  · exact .inl h0
  · exact .inr ⟨g, cap, cur, e, by omega, h1⟩
theorem JS_inner : JInner JS := ⟨fun h k => ⟨⟨ownsRow_keepAt h.1.1 fun g e hb hl => k.block g hl ⟨hb, h.2 g e⟩, h.1.2⟩, h.2⟩, fun h hB => ⟨h.1.base noInner_inner hB, h.2⟩⟩
/-- the steps of a rate, all below H -/
def JR (B H : Nat) (w : World) (p : Rate × Value) : Prop := ∃ sps, w.ownsRow B 61 2 p.2 sps.length (sps.flatMap stepCells) ∧ sps.map (·.1) = p.1.steps ∧ HeadOwn JS stepIn B H w p.2 sps ∧ 0 ≤ p.1.cls ∧ p.1.cls ≤ 255
theorem HeadOwn.own_lt {α : Type} {J : Nat → Nat → World → α → Prop} {I : (Nat → Prop) → World → α → Prop} {B U : Nat} {w : World} {v : Value} {ps : List α} (h : HeadOwn J I B U w v ps) {g : Nat} (hg : v.ownBlock = some g) : g < U := by
  obtain ⟨a, t, H, e, h1, h2, h3, h4, h5⟩ := h
  exact (h4 g hg).2
theorem JR_inner : JInner JR := ⟨fun ⟨sps, h1, h2, h3, h4⟩ k => ⟨sps, ownsRow_keepAt h1 fun g e hb hl => k.block g hl ⟨hb, h3.own_lt e⟩, h2, h3.keep stepIn_inner JS_inner k, h4⟩, fun ⟨sps, h1, h2, h3, h4⟩ hB => ⟨sps, ownsRow_base h1 hB, h2, h3.base JS_inner hB, h4⟩⟩
def StepsHead (w : World) (ss : List Step) (e : Ending) (w' : World) : Prop := ∃ v sps, e = .returned v ∧ OwnSteps w.heap.size w' v sps ∧ sps.map (·.1) = ss ∧ Below w.heap.size w w' ∧ HeadOwn JS stepIn w.heap.size w'.heap.size w' v sps
set_option maxHeartbeats 2000000 in
theorem copySteps_own (v : Value) (ss : List Step) (w : World) (h : IsSteps w v ss) (h0 : 0 < ss.length) (hl : ss.length ≤ 1000000) (hc : ∀ s ∈ ss, 0 < s.cents.length ∧ s.cents.length ≤ 1000000) : Calls Try.prog 87 #[v] w (StepsHead w ss) := by
  obtain ⟨A, c, rfl, _, _, hA⟩ := h
  obtain ⟨i0, hi0, hz0, hz1, hz2⟩ := info_parts step_info
  obtain ⟨b, off, rfl, hb, hR⟩ := hA h0
  have hR' : ∀ i (hi : i < ss.length), IsStep w b (off + i * 2) ss[i] := fun i hi => by
    have := hR i hi
    rw [← getD_of ss Step.zero i hi]
    exact this
  have hH := Lib.hid hR'
  have hcc := Lib.hid hc
  clear hA hR hR' hc
  go_enter Try.func87, Try.ntmps87
  go_wp2
  go_loopw [3, 4] (fun ov iv wr => ∃ (i : Nat) (sps : List (Step × Value)), i ≤ ss.length ∧ iv = .int .i64 i ∧ Below w.heap.size w wr ∧ OwnSteps w.heap.size wr ov sps ∧ Hid (sps.map (·.1) = ss.take i) ∧ Hid ((sps = [] ∧ ov.ownBlock = none) ∨ HeadOwn JS stepIn w.heap.size wr.heap.size wr ov sps))
    (fun _ iv _ => ss.length - (intOf iv).toNat)
  case atStart => exact ⟨0, [], by omega, rfl, Below.refl _ _, OwnL.nil_, rfl, Lib.hid (.inl ⟨rfl, rfl⟩)⟩
  case round =>
    obtain ⟨i, sps, hi, rfl, hbr, hown, hmap, hhd⟩ := hrel
    have hsl : sps.length = i := by have := congrArg List.length hmap.out; simp at this; omega
    have hsl1 : sps.length ≤ 1000000 := by omega
    have hsl2 := Lib.hid hsl
    clear hsl
    by_cases hlt : i < ss.length
    · obtain ⟨s0, cv, s1, hI⟩ := (hH.out i hlt).stays (Stays.of hbr) hb
      obtain ⟨hc0, hc1⟩ := hcc.out ss[i] (List.getElem_mem hlt)
      have htake : ss.take (i + 1) = ss.take i ++ [ss[i]] := List.take_succ_eq_append_getElem hlt
      have hT := Lib.hid htake
      clear htake
      generalize ss[i] = s at *
      obtain ⟨gr, cs⟩ := s
      have hI2 := Lib.hid hI
      obtain ⟨A2, c2, rfl, _, _, hA2⟩ := hI
      clear hA2
      have hlt' : decide ((i : Int) < (ss.length : Int)) = true := by simp; omega
      have n0 : (0 : Int) ≤ (i : Int) := by omega
      have hown' := Lib.hid hown
      obtain ⟨A3, c3, rfl⟩ := hown.form_
      clear hown
      simp only at s0 s1 hc0 hc1
      go_wp2_with fail
      refine (copyStep_any _ _ cs _ hI2.out hc0 hc1).mono ?_
      rintro e w1 ⟨v1, rfl, hown1, hb1⟩
      have ho1 := Lib.hid hown1
      simp only at ho1
      obtain ⟨A5, c5, rfl⟩ := hown1.form_
      clear hown1
      have hk1 := Lib.hid (Blk.new w1 61 #[.int .i64 gr, (.slice A5 cs.length c5)])
      have hw1 : Below wr.heap.size wr ((w1.alloc (.cells #[.int .i64 gr, (.slice A5 cs.length c5)] 61)).alloc (.cells #[.int .i64 gr, (.slice A5 cs.length c5)] 61)) := (hb1.alloc hb1.size _).alloc (by have := hb1.size; simp; omega) _
      have hin : stepIn (fun b => w.heap.size ≤ b ∧ some b ≠ (Value.slice A3 sps.length c3).ownBlock) ((w1.alloc (.cells #[.int .i64 gr, (.slice A5 cs.length c5)] 61)).alloc (.cells #[.int .i64 gr, (.slice A5 cs.length c5)] 61)) (⟨gr, cs⟩, (.slice A5 cs.length c5)) := by
        refine IsIntsP.keep (OwnInts.ints ho1.out) (Keeps.of_below (((Below.refl _ _).alloc (Nat.le_refl _) _).alloc (by simp) _) _) fun b hb hp => ⟨by have := hbr.size; omega, fun e => ?_⟩
        have := (hown'.out.block_lt e.symm).2
        omega
      have hownA : OwnSteps w.heap.size ((w1.alloc (.cells #[.int .i64 gr, (.slice A5 cs.length c5)] 61)).alloc (.cells #[.int .i64 gr, (.slice A5 cs.length c5)] 61)) (.slice A3 sps.length c3) sps := hown'.out.keep stepIn_inner (Keeps.of_below hw1 _)
      have hoA := Lib.hid hownA
      have sd1 : sps.length + 1 ≤ maxLen := by unfold maxLen; omega
      have sd4 : (sps.length + 1) * 32 ≤ 140737488355328 := by omega
      have hs1 := hb1.size
      have hs0 := hbr.size
      clear hownA
      go_wp2_with (at_builtin; refine wpList_append_lies _ rfl (.tmp 17) (.tmp 19) 55 rfl w.heap.size 61 i0 (.agg #[.int .i64 0, .slice none 0 0]) 2 32 Try.underlying55 hi0 hz0 hz1 hz2 rfl (by decide) (.slice A3 sps.length c3) sps.length (sps.flatMap stepCells) rfl (by exact hoA.out.1) ⟨w1.heap.size + 1, 0, none⟩ 1 1 [.int .i64 gr, (.slice A5 cs.length c5)] rfl rfl (by exact World.news_of_block (cs := #[.int .i64 gr, (.slice A5 cs.length c5)]) (Blk.new_at _ _ _ _ (by simp))) (one2 rfl rfl) Nat.one_pos sd1 sd4 (by simp; omega) (w1.heap.size + 1 + 1) (by simp) ?_; intro g cap w2 hown2 hgr2 hat2 hlt2)
      have hR := slot_append stepIn_inner (a := (⟨gr, cs⟩, .slice A5 cs.length c5)) hbr hown'.out hw1 (Nat.le_refl _) hbr.size hin hown2 rfl hgr2 (hat2.imp_right (fun e => by simp [e]))
      have hHd := Lib.hid (head_append (g := g) (v' := .slice (some ⟨g, 0, none⟩) (sps.length + 1) cap) (a' := ((⟨gr, cs⟩ : Step), Value.slice A5 cs.length c5)) stepIn_inner JS_inner hhd.out hs0 hw1 hgr2 (IsIntsP.keep (OwnInts.ints ho1.out) (Keeps.of_below (((Below.refl _ _).alloc (Nat.le_refl _) _).alloc (by simp) _) _) fun b hb hp => hp)
        ⟨(ho1.out.keep noInner_inner (Keeps.of_below (((Below.refl _ _).alloc (Nat.le_refl _) _).alloc (by simp) _) _)).base noInner_inner hs0, fun g' e => by have := (ho1.out.block_lt e).2; simp; omega⟩ (hat2.imp_right (fun e => by simp [e])) rfl hlt2)
      have hmap2 : Hid ((sps ++ [((⟨gr, cs⟩ : Step), Value.slice A5 cs.length c5)]).map (·.1) = ss.take (i + 1)) := by
        rw [hT.out, ← hmap.out]
        simp [Hid]
      go_roundw
      case rel => exact ⟨i + 1, _, by omega, by go_num, hR.1, hR.2, hmap2, Lib.hid (.inr hHd.out)⟩
      case measure => simp [intOf]; omega
    · have hlt' : decide ((i : Int) < (ss.length : Int)) = false := by simp; omega
      have hm : sps.map (·.1) = ss := by rw [hmap.out]; exact List.take_of_length_le (by omega)
      have hm' := Lib.hid hm
      have ho := Lib.hid hown
      clear hm hown hmap
      go_wp2
      go_ret
      exact ⟨_, sps, rfl, ho.out, hm'.out, hbr, by
        rcases hhd.out with ⟨rfl, _⟩ | h
        · have := congrArg List.length hm'.out; simp at this; omega
        · exact h⟩

def RateHead (w : World) (r : Rate) (e : Ending) (w' : World) : Prop := ∃ v sps, e = .returned (.agg #[.int .u8 r.cls, v, .int .i64 r.bar]) ∧ OwnSteps w.heap.size w' v sps ∧ sps.map (·.1) = r.steps ∧ Below w.heap.size w w' ∧ HeadOwn JS stepIn w.heap.size w'.heap.size w' v sps
set_option maxHeartbeats 1000000 in
theorem copyRate_own (cl : Int) (v : Value) (ss : List Step) (br : Int) (w : World) (h : IsSteps w v ss) (h0 : 0 < ss.length) (hl : ss.length ≤ 1000000) (hc : ∀ s ∈ ss, 0 < s.cents.length ∧ s.cents.length ≤ 1000000) : Calls Try.prog 72 #[.agg #[.int .u8 cl, v, .int .i64 br]] w (RateHead w ⟨cl, ss, br⟩) := by
  have hh := Lib.hid h
  obtain ⟨A, c, rfl, _, _, hA⟩ := h
  clear hA
  have hW : Below w.heap.size w ((w.alloc (.cells #[.int .u8 cl, .slice A ss.length c, .int .i64 br] 57)).alloc (.cells #[.int .u8 0, .slice none 0 0, .int .i64 0] 57)) := ((Below.refl _ _).alloc (Nat.le_refl _) _).alloc (by simp) _
  have k0 : Blk ((w.alloc (.cells #[.int .u8 cl, .slice A ss.length c, .int .i64 br] 57)).alloc (.cells #[.int .u8 0, .slice none 0 0, .int .i64 0] 57)) w.heap.size 57 #[.int .u8 cl, .slice A ss.length c, .int .i64 br] := (Blk.new _ _ _).alloc _
  have k1 : Blk ((w.alloc (.cells #[.int .u8 cl, .slice A ss.length c, .int .i64 br] 57)).alloc (.cells #[.int .u8 0, .slice none 0 0, .int .i64 0] 57)) (w.heap.size + 1) 57 #[.int .u8 0, .slice none 0 0, .int .i64 0] := Blk.new_at _ _ _ _ (by simp)
  go_enter Try.func72, Try.ntmps72
  go_wp2_with fail
  refine (copySteps_own _ ss _ (hh.out.stays (Stays.of hW)) h0 hl hc).mono ?_
  rintro e w1 ⟨v', sps, rfl, hown, hmp, hb1, hHd⟩
  have hHd' := Lib.hid hHd
  clear hHd
  have hmp' := Lib.hid hmp
  clear hmp
  generalize (w.alloc (.cells #[.int .u8 cl, .slice A ss.length c, .int .i64 br] 57)).alloc (.cells #[.int .u8 0, .slice none 0 0, .int .i64 0] 57) = W at *
  have hs1 : w.heap.size + 1 < W.heap.size := k1.lt
  have j0 := k0.below hb1 (by omega)
  have j1 := k1.below hb1 (by omega)
  have x0 := j0.cell 0
  have x1 := j0.cell 1
  have x2 := j1.cell 0
  have x3 := j1.cell 1
  have x4 := j0.cell 2
  have x5 := j1.cell 2
  have f4 := j1.frozen 2
  have f1 := j0.frozen 1
  have f2 := j1.frozen 0
  have f3 := j1.frozen 1
  simp at x0 x1 x2 x3 x4 x5
  have hown' := Lib.hid hown
  obtain ⟨A', n', c', rfl⟩ : ∃ A n c, v' = .slice A n c := by rcases hown.1.2 with ⟨rfl, _⟩ | ⟨g, cap, cur, rfl, _⟩ <;> exact ⟨_, _, _, rfl⟩
  have hj1 := Lib.hid j1
  have hbW := hW.trans (hb1.mono hW.size)
  clear hown j0 j1 k0 k1 hb1 hW
  go_wp2
  refine bodyPost_ret (results_cell_row Try.results72 _ _ _ _ _ (0, 0) _ rfl (((((hj1.out.far (by simp) _).set_ 0 _).set_ 1 _).set_ 2 _) : Blk ((((w1.setCell ⟨w.heap.size, 1, none⟩ (.slice A' n' c')).setCell ⟨w.heap.size + 1, 0, none⟩ (.int .u8 cl)).setCell ⟨w.heap.size + 1, 1, none⟩ (.slice A' n' c')).setCell ⟨w.heap.size + 1, 2, none⟩ (.int .i64 br)) (w.heap.size + 1) 57 #[.int .u8 cl, .slice A' n' c', .int .i64 br]) Try.underlying57 rfl size57) rfl ⟨_, sps, rfl, ?_, hmp'.out, ?_, ?_⟩
  · exact (hown'.out.keep stepIn_inner ((((Keeps.set_ _ _ _ (by simp; omega)).trans (Keeps.set_ _ _ _ (by simp; omega))).trans (Keeps.set_ _ _ _ (by simp; omega))).trans (Keeps.set_ _ _ _ (by simp; omega)))).base stepIn_inner (by omega)
  · exact (((hbW.setCell (by simp) _).setCell (by simp) _).setCell (by simp) _).setCell (by simp) _
  · exact (((hHd'.out.keep stepIn_inner JS_inner ((((Keeps.set_ _ _ _ (by simp; omega)).trans (Keeps.set_ _ _ _ (by simp; omega))).trans (Keeps.set_ _ _ _ (by simp; omega))).trans (Keeps.set_ _ _ _ (by simp; omega))))).base JS_inner (by omega)).upto stepIn_inner (by simp [World.setCell])

def RatesHead (w : World) (rs : List Rate) (e : Ending) (w' : World) : Prop := ∃ v rps, e = .returned v ∧ OwnRates w.heap.size w' v rps ∧ rps.map (·.1) = rs ∧ Below w.heap.size w w' ∧ HeadOwn JR rateIn w.heap.size w'.heap.size w' v rps
set_option maxHeartbeats 2000000 in
theorem copyRates_own (v : Value) (ss : List Rate) (w : World) (h : IsRates w v ss) (h0 : 0 < ss.length) (hl : ss.length ≤ 1000000) (hc : ∀ s ∈ ss, RateSmall s) : Calls Try.prog 50 #[v] w (RatesHead w ss) := by
  obtain ⟨A, c, rfl, _, _, hA⟩ := h
  obtain ⟨i0, hi0, hz0, hz1, hz2⟩ := info_parts rate_info
  obtain ⟨b, off, rfl, hb, hR⟩ := hA h0
  have hR' : ∀ i (hi : i < ss.length), IsRate w b (off + i * 3) ss[i] := fun i hi => by
    have := hR i hi
    rw [← getD_of ss Rate.zero i hi]
    exact this
  have hH := Lib.hid hR'
  have hcc := Lib.hid hc
  clear hA hR hR' hc
  go_enter Try.func50, Try.ntmps50
  go_wp2
  go_loopw [3, 4] (fun ov iv wr => ∃ (i : Nat) (sps : List (Rate × Value)), i ≤ ss.length ∧ iv = .int .i64 i ∧ Below w.heap.size w wr ∧ OwnRates w.heap.size wr ov sps ∧ Hid (sps.map (·.1) = ss.take i) ∧ Hid ((sps = [] ∧ ov.ownBlock = none) ∨ HeadOwn JR rateIn w.heap.size wr.heap.size wr ov sps))
    (fun _ iv _ => ss.length - (intOf iv).toNat)
  case atStart => exact ⟨0, [], by omega, rfl, Below.refl _ _, OwnL.nil_, rfl, Lib.hid (.inl ⟨rfl, rfl⟩)⟩
  case round =>
    obtain ⟨i, sps, hi, rfl, hbr, hown, hmap, hhd⟩ := hrel
    have hsl : sps.length = i := by have := congrArg List.length hmap.out; simp at this; omega
    have hsl1 : sps.length ≤ 1000000 := by omega
    have hsl2 := Lib.hid hsl
    clear hsl
    by_cases hlt : i < ss.length
    · obtain ⟨s0, ⟨cv, s1, hI⟩, s2, hb0, hb1x⟩ := (hH.out i hlt).stays (Stays.of hbr) hb
      obtain ⟨hc0, hc1, hc2⟩ := hcc.out ss[i] (List.getElem_mem hlt)
      have htake : ss.take (i + 1) = ss.take i ++ [ss[i]] := List.take_succ_eq_append_getElem hlt
      have hT := Lib.hid htake
      clear htake
      generalize ss[i] = s at *
      obtain ⟨cl, cs, br⟩ := s
      have hI2 := Lib.hid hI
      obtain ⟨A2, c2, rfl, _, _, hA2⟩ := hI
      clear hA2
      have hlt' : decide ((i : Int) < (ss.length : Int)) = true := by simp; omega
      have n0 : (0 : Int) ≤ (i : Int) := by omega
      have hown' := Lib.hid hown
      obtain ⟨A3, c3, rfl⟩ := hown.form_
      clear hown
      simp only at s0 s1 s2 hc0 hc1 hc2 hb0 hb1x
      have hcs := Lib.hid hc2
      clear hc2
      go_wp2_with fail
      refine (copyRate_own _ _ cs _ _ hI2.out hc0 hc1 hcs.out).mono ?_
      rintro e w1 ⟨v1, sq, rfl, hown1, hsq, hb1, hhq⟩
      have hhq' := Lib.hid hhq
      clear hhq
      have hsq' := Lib.hid hsq
      have hsl9 : sq.length = cs.length := by have := congrArg List.length hsq; simpa using this
      clear hsq
      have ho1 := Lib.hid hown1
      obtain ⟨A5, c5, rfl⟩ := hown1.form_
      rw [hsl9] at ho1 hhq' ⊢
      clear hown1 hsl9
      have hk1 := Lib.hid (Blk.new w1 57 #[.int .u8 cl, (.slice A5 cs.length c5), .int .i64 br])
      have hw1 : Below wr.heap.size wr ((w1.alloc (.cells #[.int .u8 cl, (.slice A5 cs.length c5), .int .i64 br] 57)).alloc (.cells #[.int .u8 cl, (.slice A5 cs.length c5), .int .i64 br] 57)) := (hb1.alloc hb1.size _).alloc (by have := hb1.size; simp; omega) _
      have hin : rateIn (fun b => w.heap.size ≤ b ∧ some b ≠ (Value.slice A3 sps.length c3).ownBlock) ((w1.alloc (.cells #[.int .u8 cl, (.slice A5 cs.length c5), .int .i64 br] 57)).alloc (.cells #[.int .u8 cl, (.slice A5 cs.length c5), .int .i64 br] 57)) (⟨cl, cs, br⟩, (.slice A5 cs.length c5)) := by
        have hst := OwnSteps.steps ho1.out
        rw [hsq'.out] at hst
        refine ⟨IsStepsP.keep hst (Keeps.of_below (((Below.refl _ _).alloc (Nat.le_refl _) _).alloc (by simp) _) _) fun b hb hp => ⟨by have := hbr.size; omega, fun e => ?_⟩, hb0, hb1x⟩
        have := (hown'.out.block_lt e.symm).2
        omega
      have hownA : OwnRates w.heap.size ((w1.alloc (.cells #[.int .u8 cl, (.slice A5 cs.length c5), .int .i64 br] 57)).alloc (.cells #[.int .u8 cl, (.slice A5 cs.length c5), .int .i64 br] 57)) (.slice A3 sps.length c3) sps := hown'.out.keep rateIn_inner (Keeps.of_below hw1 _)
      have hoA := Lib.hid hownA
      have sd1 : sps.length + 1 ≤ maxLen := by unfold maxLen; omega
      have sd4 : (sps.length + 1) * 40 ≤ 140737488355328 := by omega
      have hs1 := hb1.size
      have hs0 := hbr.size
      clear hownA
      go_wp2_with (at_builtin; refine wpList_append_lies _ rfl (.tmp 17) (.tmp 19) 22 rfl w.heap.size 57 i0 (.agg #[.int .u8 0, .slice none 0 0, .int .i64 0]) 3 40 Try.underlying22 hi0 hz0 hz1 hz2 rfl (by decide) (.slice A3 sps.length c3) sps.length (sps.flatMap rateCells) rfl (by exact hoA.out.1) ⟨w1.heap.size + 1, 0, none⟩ 1 1 [.int .u8 cl, (.slice A5 cs.length c5), .int .i64 br] rfl rfl (by exact World.news_of_block (cs := #[.int .u8 cl, (.slice A5 cs.length c5), .int .i64 br]) (Blk.new_at _ _ _ _ (by simp))) (one3 rfl rfl rfl) Nat.one_pos sd1 sd4 (by simp; omega) (w1.heap.size + 1 + 1) (by simp) ?_; intro g cap w2 hown2 hgr2 hat2 hlt2)
      have hR := slot_append rateIn_inner (a := (⟨cl, cs, br⟩, .slice A5 cs.length c5)) hbr hown'.out hw1 (Nat.le_refl _) hbr.size hin hown2 rfl hgr2 (hat2.imp_right (fun e => by simp [e]))
      have hBx : Below w1.heap.size w1 ((w1.alloc (.cells #[.int .u8 cl, (.slice A5 cs.length c5), .int .i64 br] 57)).alloc (.cells #[.int .u8 cl, (.slice A5 cs.length c5), .int .i64 br] 57)) := ((Below.refl _ _).alloc (Nat.le_refl _) _).alloc (by simp) _
      have hJa : JR w.heap.size ((w1.alloc (.cells #[.int .u8 cl, (.slice A5 cs.length c5), .int .i64 br] 57)).alloc (.cells #[.int .u8 cl, (.slice A5 cs.length c5), .int .i64 br] 57)).heap.size ((w1.alloc (.cells #[.int .u8 cl, (.slice A5 cs.length c5), .int .i64 br] 57)).alloc (.cells #[.int .u8 cl, (.slice A5 cs.length c5), .int .i64 br] 57)) (⟨cl, cs, br⟩, .slice A5 cs.length c5) := ⟨sq, ((ho1.out.keep stepIn_inner (Keeps.of_below hBx _)).base stepIn_inner hs0).1, hsq'.out, (((hhq'.out.keep stepIn_inner JS_inner (Keeps.of_below hBx _))).base JS_inner hs0).upto stepIn_inner (by simp; omega), hb0, hb1x⟩
      have hHd := Lib.hid (head_append (g := g) (v' := .slice (some ⟨g, 0, none⟩) (sps.length + 1) cap) (a' := ((⟨cl, cs, br⟩ : Rate), Value.slice A5 cs.length c5)) rateIn_inner JR_inner hhd.out hs0 hw1 hgr2 (by
          have hst := OwnSteps.steps ho1.out
          rw [hsq'.out] at hst
          exact ⟨IsStepsP.keep hst (Keeps.of_below hBx _) fun b hb hp => hp, hb0, hb1x⟩) hJa (hat2.imp_right (fun e => by simp [e])) rfl hlt2)
      clear hJa
      have hmap2 : Hid ((sps ++ [((⟨cl, cs, br⟩ : Rate), Value.slice A5 cs.length c5)]).map (·.1) = ss.take (i + 1)) := by
        rw [hT.out, ← hmap.out]
        simp [Hid]
      go_roundw
      case rel => exact ⟨i + 1, _, by omega, by go_num, hR.1, hR.2, hmap2, Lib.hid (.inr hHd.out)⟩
      case measure => simp [intOf]; omega
    · have hlt' : decide ((i : Int) < (ss.length : Int)) = false := by simp; omega
      have hm : sps.map (·.1) = ss := by rw [hmap.out]; exact List.take_of_length_le (by omega)
      have hm' := Lib.hid hm
      have ho := Lib.hid hown
      clear hm hown hmap
      go_wp2
      go_ret
      exact ⟨_, sps, rfl, ho.out, hm'.out, hbr, by
        rcases hhd.out with ⟨rfl, _⟩ | h
        · have := congrArg List.length hm'.out; simp at this; omega
        · exact h⟩

def TariffHead (w : World) (rs : List Rate) (zs : List Zone) (e : Ending) (w' : World) : Prop :=
  ∃ rv zv rps M, e = .returned (.agg #[rv, zv]) ∧ OwnRates w.heap.size w' rv rps ∧ rps.map (·.1) = rs ∧ HeadOwn JR rateIn w.heap.size M w' rv rps ∧ OwnZones M w' zv zs ∧ w.heap.size ≤ M ∧ M ≤ w'.heap.size ∧ Below w.heap.size w w'
set_option maxHeartbeats 2000000 in
theorem copyTariff_own (rv zv : Value) (rs : List Rate) (zs : List Zone) (w : World) (h : IsRates w rv rs) (hz : IsZones w zv zs) (h0 : 0 < rs.length) (hl : rs.length ≤ 1000000) (hc : ∀ s ∈ rs, RateSmall s) (h0z : 0 < zs.length) (hlz : zs.length ≤ 1000000) :
    Calls Try.prog 25 #[.agg #[rv, zv]] w (TariffHead w rs zs) := by
  have hh := Lib.hid h
  have hhz := Lib.hid hz
  have hcc := Lib.hid hc
  obtain ⟨A, c, rfl, _, _, hA⟩ := h
  obtain ⟨B, d, rfl, _, _, hB⟩ := hz
  clear hA hB hc
  have hW : Below w.heap.size w ((w.alloc (.cells #[.slice A rs.length c, .slice B zs.length d] 25)).alloc (.cells #[.slice none 0 0, .slice none 0 0] 25)) := ((Below.refl _ _).alloc (Nat.le_refl _) _).alloc (by simp) _
  have k0 : Blk ((w.alloc (.cells #[.slice A rs.length c, .slice B zs.length d] 25)).alloc (.cells #[.slice none 0 0, .slice none 0 0] 25)) w.heap.size 25 #[.slice A rs.length c, .slice B zs.length d] := (Blk.new _ _ _).alloc _
  have k1 : Blk ((w.alloc (.cells #[.slice A rs.length c, .slice B zs.length d] 25)).alloc (.cells #[.slice none 0 0, .slice none 0 0] 25)) (w.heap.size + 1) 25 #[.slice none 0 0, .slice none 0 0] := Blk.new_at _ _ _ _ (by simp)
  go_enter Try.func25, Try.ntmps25
  go_wp2_with fail
  refine (copyRates_own _ rs _ (hh.out.stays (Stays.of hW)) h0 hl hcc.out).mono ?_
  rintro e w1 ⟨v', rps, rfl, hown, hmp, hb1, hHd⟩
  have hHd' := Lib.hid hHd
  clear hHd
  generalize (w.alloc (.cells #[.slice A rs.length c, .slice B zs.length d] 25)).alloc (.cells #[.slice none 0 0, .slice none 0 0] 25) = W at *
  have hs1 : w.heap.size + 1 < W.heap.size := k1.lt
  have j0 := k0.below hb1 (by omega)
  have j1 := k1.below hb1 (by omega)
  have x0 := j0.cell 0
  have x1 := j0.cell 1
  have f0 := j0.frozen 0
  simp at x0 x1
  have hown' := Lib.hid hown
  obtain ⟨A', c', rfl⟩ := hown.form_
  have hmp' := Lib.hid hmp
  clear hmp hown k0 k1
  have hj0 := Lib.hid (j0.set_ 0 (.slice A' rps.length c'))
  have hj1 := Lib.hid (j1.far (p := ⟨w.heap.size, 0, none⟩) (by simp) (.slice A' rps.length c'))
  clear j0 j1
  have hbW := hW.trans (hb1.mono hW.size)
  have hbS := hbW.setCell (p := ⟨w.heap.size, 0, none⟩) (by simp) (.slice A' rps.length c')
  have hsz := hb1.size
  go_wp2_with fail
  refine (copyZones_any _ zs _ (hhz.out.stays (Stays.of hbS)) h0z hlz).mono ?_
  rintro e w2 ⟨v2, rfl, hown2, hb2⟩
  obtain ⟨A2, c2, hv2⟩ := hown2.form_
  subst hv2
  have ho1 := Lib.hid (hown'.out.keep rateIn_inner (Keeps.set_ _ ⟨w.heap.size, 0, none⟩ (.slice A' rps.length c') (by simp; omega)))
  have hHd2 := Lib.hid ((hHd'.out.keep rateIn_inner JR_inner (Keeps.set_ _ ⟨w.heap.size, 0, none⟩ (.slice A' rps.length c') (by simp; omega))).upto (U' := (w1.setCell ⟨w.heap.size, 0, none⟩ (.slice A' rps.length c')).heap.size) rateIn_inner (by simp [World.setCell]))
  clear hHd'
  have hsz2 : (w1.setCell ⟨w.heap.size, 0, none⟩ (.slice A' rps.length c')).heap.size = w1.heap.size := by simp [World.setCell]
  generalize w1.setCell ⟨w.heap.size, 0, none⟩ (.slice A' rps.length c') = w3 at *
  have hs3 : W.heap.size ≤ w3.heap.size := by omega
  have hs3' := Lib.hid hsz2
  clear hsz2
  have i0 := hj0.out.below hb2 (by omega)
  have i1 := hj1.out.below hb2 (by omega)
  have y0 := i0.cell 0
  have y1 := i0.cell 1
  have y2 := i1.cell 0
  have y3 := i1.cell 1
  have g1 := i0.frozen 1
  have g2 := i1.frozen 0
  have g3 := i1.frozen 1
  simp at y0 y1 y2 y3
  have hi0 := Lib.hid i0
  have hi1 := Lib.hid i1
  have ho2 := Lib.hid hown2
  have hsz4 := hb2.size
  have hbX := hbS.trans (hb2.mono (by omega))
  clear i0 i1 hown2 hj0 hj1
  go_wp2
  refine bodyPost_ret (results_cell_row Try.results25 _ _ _ _ _ (0, 0) _ rfl ((((hi1.out.far (by simp) _).set_ 0 _).set_ 1 _) : Blk (((w2.setCell ⟨w.heap.size, 1, none⟩ (.slice A2 zs.length c2)).setCell ⟨w.heap.size + 1, 0, none⟩ (.slice A' rps.length c')).setCell ⟨w.heap.size + 1, 1, none⟩ (.slice A2 zs.length c2)) (w.heap.size + 1) 25 #[.slice A' rps.length c', .slice A2 zs.length c2]) Try.underlying25 rfl size25) rfl ?_
  have hkk : Keeps (fun b => W.heap.size ≤ b) w2 (((w2.setCell ⟨w.heap.size, 1, none⟩ (.slice A2 zs.length c2)).setCell ⟨w.heap.size + 1, 0, none⟩ (.slice A' rps.length c')).setCell ⟨w.heap.size + 1, 1, none⟩ (.slice A2 zs.length c2)) := ((Keeps.set_ _ _ _ (by simp; omega)).trans (Keeps.set_ _ _ _ (by simp; omega))).trans (Keeps.set_ _ _ _ (by simp; omega))
  have hoR : OwnRates W.heap.size w2 (.slice A' rps.length c') rps := ho1.out.keep rateIn_inner (Keeps.of_below hb2 _)
  refine ⟨_, _, rps, w3.heap.size, rfl, (hoR.keep rateIn_inner hkk).base rateIn_inner (by omega), hmp'.out, ?_, ?_, by omega, ?_, ?_⟩
  · exact ((hHd2.out.keep rateIn_inner JR_inner (Keeps.of_below hb2 _)).keep rateIn_inner JR_inner ⟨hkk.size, fun b hb hp => hkk.block b hb hp.1⟩).base JR_inner (by omega)
  · exact ho2.out.keep zoneIn_inner ⟨hkk.size, fun b hb hp => hkk.block b hb (by omega)⟩
  · have := hkk.size; omega
  · exact ((hbX.setCell (by simp) _).setCell (by simp) _).setCell (by simp) _
end Go.Proofs.Ythbnbfeolfkkaaa
