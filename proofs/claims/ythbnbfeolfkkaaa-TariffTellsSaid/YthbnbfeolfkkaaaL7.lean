/- The walks of CopyInts, CopyStep, CopySteps, CopyRate, CopyRates, CopyZones, CopyTariff. -/
import Derived.Test.YthbnbfeolfkkaaaMadeW
import Derived.Laws.AppendOwnNone
namespace Go.Proofs.Ythbnbfeolfkkaaa
open Go.RowKit Go.Maps

theorem len_flat {α : Type} {cells : α → List Value} {k : Nat} (hf : ∀ a, (cells a).length = k) : ∀ ps : List α, (ps.flatMap cells).length = ps.length * k
  | [] => by simp
  | a :: t => by rw [List.flatMap_cons, List.length_append, len_flat hf t, hf, List.length_cons, Nat.succ_mul]; omega
/-- the cells of a row, out of what its elements are -/
theorem news_of_cells {α : Type} {cells : α → List Value} {k : Nat} (hk : 0 < k) (hf : ∀ a, (cells a).length = k) {w : World} {b off : Nat} {ps : List α}
    (h : ∀ i (hi : i < ps.length) j, j < k → w.cell? ⟨b, off + i * k + j, none⟩ = (cells ps[i])[j]?) : ∀ j u, (ps.flatMap cells)[j]? = some u → w.cell? ((⟨b, off, none⟩ : Addr).add j) = some u := by
  intro j u hu
  have hadd : (⟨b, off, none⟩ : Addr).add j = ⟨b, off + j, none⟩ := by unfold Addr.add; split <;> simp_all
  rw [hadd]
  have hm : j % k < k := Nat.mod_lt _ hk
  have hlen : (ps.flatMap cells).length = ps.length * k := len_flat hf ps
  have hj : j < ps.length * k := by
    rw [← hlen]
    exact (List.getElem?_eq_some_iff.1 hu).1
  have hi : j / k < ps.length := by rw [Nat.div_lt_iff_lt_mul hk]; exact hj
  have e : j / k * k + j % k = j := by rw [Nat.mul_comm]; exact Nat.div_add_mod j k
  have h1 := h (j / k) hi (j % k) hm
  have h2 := flat_get cells k hf ps (j / k) (j % k) hi hm
  rw [e] at h2
  rw [Nat.add_assoc, e] at h1
  rw [h1, ← h2, hu]
theorem flat_ints (xs : List Int) : xs.flatMap intCells = xs.map (Value.int .i64) := by
  induction xs with
  | nil => rfl
  | cons x t ih => rw [List.flatMap_cons, ih]; rfl
theorem oneInts (xs : List Int) : ∀ u ∈ xs.flatMap intCells, u.oneCell' = true := by
  intro u hu
  obtain ⟨x, _, hx⟩ := List.mem_flatMap.1 hu
  rw [List.mem_singleton.1 hx]
  rfl
theorem oneZones (zs : List Zone) : ∀ u ∈ zs.flatMap zoneCells, u.oneCell' = true := by
  intro u hu
  obtain ⟨x, _, hx⟩ := List.mem_flatMap.1 hu
  exact one3 rfl rfl rfl u hx
/-- integers in a row of the call's own -/
def IntsOwn (w : World) (xs : List Int) (e : Ending) (w' : World) : Prop := ∃ v, e = .returned v ∧ OwnInts w.heap.size w' v xs ∧ Below w.heap.size w w'
def ZonesRes (w : World) (zs : List Zone) (e : Ending) (w' : World) : Prop := ∃ v, e = .returned v ∧ OwnZones w.heap.size w' v zs ∧ Below w.heap.size w w'

set_option maxHeartbeats 1000000 in
theorem copyInts_any (v : Value) (xs : List Int) (w : World) (h : IsInts w v xs) (h0 : 0 < xs.length) (hl : xs.length ≤ 1000000) : Calls Try.prog 104 #[v] w (IntsOwn w xs) := by
  obtain ⟨A, c, rfl, _, _, hA⟩ := h
  obtain ⟨i0, hi0, hz0, hz1, hz2⟩ := info_parts int_info3
  have own0 : w.ownsRow w.heap.size 3 1 (.slice none 0 0) 0 [] := ⟨by simp, .inl ⟨rfl, rfl⟩⟩
  obtain ⟨b, off, rfl, hb, hR⟩ := hA h0
  have hnews : ∀ j u, (xs.flatMap intCells)[j]? = some u → w.cell? ((⟨b, off, none⟩ : Addr).add j) = some u := news_of_cells (k := 1) (by omega) (fun _ => rfl) fun i hi j hj => by
    obtain rfl : j = 0 := by omega
    have h1 : w.cell? ⟨b, off + i, none⟩ = some (.int .i64 (xs.getD i 0)) := hR i hi
    rw [getD_of xs 0 i hi] at h1
    simpa [intCells] using h1
  have hfl : (xs.flatMap intCells).length = xs.length * 1 := len_flat (cells := intCells) (k := 1) (fun _ => rfl) xs
  have hone := oneInts xs
  have sd1 : 0 + xs.length ≤ maxLen := by unfold maxLen; omega
  have sd2 : (0 + xs.length) * 8 ≤ 140737488355328 := by omega
  have hN := Lib.hid hnews
  have hF := Lib.hid hfl
  have hO := Lib.hid hone
  clear hnews hfl hone hA hR
  go_enter Try.func104, Try.ntmps104
  go_wp2_with (at_builtin; refine wpList_append_own_at _ rfl _ _ 38 rfl w.heap.size 3 i0 (.int .i64 0) 1 8 Try.underlying38 hi0 hz0 hz1 hz2 rfl (by decide) (.slice none 0 0) 0 [] rfl own0 ⟨b, off, none⟩ xs.length c (xs.flatMap intCells) rfl hF.out hN.out hO.out sd1 sd2 (Nat.le_refl _) ?_; intro v' w1 hown1 hgr1 hnil1 hat1)
  go_ret
  refine ⟨v', rfl, ⟨by simpa using hown1, fun _ _ => trivial⟩, (Below.refl _ _).grown hgr1 (Nat.le_refl _) (fun k e => by cases e)⟩

set_option maxHeartbeats 1000000 in
theorem copyZones_any (v : Value) (zs : List Zone) (w : World) (h : IsZones w v zs) (h0 : 0 < zs.length) (hl : zs.length ≤ 1000000) : Calls Try.prog 51 #[v] w (ZonesRes w zs) := by
  obtain ⟨A, c, rfl, _, _, hA⟩ := h
  obtain ⟨i0, hi0, hz0, hz1, hz2⟩ := info_parts zone_info
  have own0 : w.ownsRow w.heap.size 67 3 (.slice none 0 0) 0 [] := ⟨by simp, .inl ⟨rfl, rfl⟩⟩
  obtain ⟨b, off, rfl, hb, hR⟩ := hA h0
  have hR' : ∀ i (hi : i < zs.length), IsZone w b (off + i * 3) zs[i] := fun i hi => by
    have := hR i hi
    rw [← getD_of zs Zone.zero i hi]
    exact this
  have hin : ∀ z ∈ zs, zoneIn (fun b => w.heap.size ≤ b) w z := fun z hz => by
    obtain ⟨i, hi, rfl⟩ := List.getElem_of_mem hz
    exact (hR' i hi).2.2.2
  have hnews : ∀ j u, (zs.flatMap zoneCells)[j]? = some u → w.cell? ((⟨b, off, none⟩ : Addr).add j) = some u := news_of_cells (k := 3) (by omega) (fun _ => rfl) fun i hi j hj => by
    obtain ⟨e0, e1, e2, _⟩ := hR' i hi
    have : j = 0 ∨ j = 1 ∨ j = 2 := by omega
    rcases this with rfl | rfl | rfl
    · simpa [zoneCells] using e0
    · simpa [zoneCells] using e1
    · simpa [zoneCells] using e2
  have hfl : (zs.flatMap zoneCells).length = zs.length * 3 := len_flat (cells := zoneCells) (k := 3) (fun _ => rfl) zs
  have hone := oneZones zs
  have sd1 : 0 + zs.length ≤ maxLen := by unfold maxLen; omega
  have sd2 : (0 + zs.length) * 40 ≤ 140737488355328 := by omega
  have hN := Lib.hid hnews
  have hF := Lib.hid hfl
  have hO := Lib.hid hone
  have hI := Lib.hid hin
  clear hnews hfl hone hA hR hR' hin
  go_enter Try.func51, Try.ntmps51
  go_wp2_with (at_builtin; refine wpList_append_own_at _ rfl _ _ 23 rfl w.heap.size 67 i0 (.agg #[.string ⟨#[]⟩, .string ⟨#[]⟩, .int .i64 0]) 3 40 Try.underlying23 hi0 hz0 hz1 hz2 rfl (by decide) (.slice none 0 0) 0 [] rfl own0 ⟨b, off, none⟩ zs.length c (zs.flatMap zoneCells) rfl hF.out hN.out hO.out sd1 sd2 (Nat.le_refl _) ?_; intro v' w1 hown1 hgr1 hnil1 hat1)
  go_ret
  exact ⟨v', rfl, ⟨by simpa using hown1, fun z hz => hI.out z hz⟩, (Below.refl _ _).grown hgr1 (Nat.le_refl _) (fun k e => by cases e)⟩

theorem size61 : (Try.prog.info? 61).map (·.size) = some 2 := by kernel_rfl
def StepRes (w : World) (s : Step) (e : Ending) (w' : World) : Prop := ∃ v, e = .returned (.agg #[.int .i64 s.grams, v]) ∧ OwnInts w.heap.size w' v s.cents ∧ Below w.heap.size w w'
set_option maxHeartbeats 1000000 in
theorem copyStep_any (g : Int) (v : Value) (xs : List Int) (w : World) (h : IsInts w v xs) (h0 : 0 < xs.length) (hl : xs.length ≤ 1000000) : Calls Try.prog 97 #[.agg #[.int .i64 g, v]] w (StepRes w ⟨g, xs⟩) := by
  have hh := Lib.hid h
  obtain ⟨A, c, rfl, _, _, hA⟩ := h
  clear hA
  have hW : Below w.heap.size w ((w.alloc (.cells #[.int .i64 g, .slice A xs.length c] 61)).alloc (.cells #[.int .i64 0, .slice none 0 0] 61)) := ((Below.refl _ _).alloc (Nat.le_refl _) _).alloc (by simp) _
  have k0 : Blk ((w.alloc (.cells #[.int .i64 g, .slice A xs.length c] 61)).alloc (.cells #[.int .i64 0, .slice none 0 0] 61)) w.heap.size 61 #[.int .i64 g, .slice A xs.length c] := (Blk.new _ _ _).alloc _
  have k1 : Blk ((w.alloc (.cells #[.int .i64 g, .slice A xs.length c] 61)).alloc (.cells #[.int .i64 0, .slice none 0 0] 61)) (w.heap.size + 1) 61 #[.int .i64 0, .slice none 0 0] := Blk.new_at _ _ _ _ (by simp)
  go_enter Try.func97, Try.ntmps97
  go_wp2_with fail
  refine (copyInts_any _ xs _ (hh.out.stays (Stays.of hW)) h0 hl).mono ?_
  rintro e w1 ⟨v', rfl, hown, hb1⟩
  generalize (w.alloc (.cells #[.int .i64 g, .slice A xs.length c] 61)).alloc (.cells #[.int .i64 0, .slice none 0 0] 61) = W at *
  have hs1 : w.heap.size + 1 < W.heap.size := k1.lt
  have j0 := k0.below hb1 (by omega)
  have j1 := k1.below hb1 (by omega)
  have x0 := j0.cell 0
  have x1 := j0.cell 1
  have x2 := j1.cell 0
  have x3 := j1.cell 1
  have f1 := j0.frozen 1
  have f2 := j1.frozen 0
  have f3 := j1.frozen 1
  simp at x0 x1 x2 x3
  have hown' := Lib.hid hown
  obtain ⟨A', n', c', rfl⟩ : ∃ A n c, v' = .slice A n c := by rcases hown.1.2 with ⟨rfl, _⟩ | ⟨g, cap, cur, rfl, _⟩ <;> exact ⟨_, _, _, rfl⟩
  have hj1 := Lib.hid j1
  have hbW := hW.trans (hb1.mono hW.size)
  clear hown j0 j1 k0 k1 hb1 hW
  go_wp2
  refine bodyPost_ret (results_cell_row Try.results97 _ _ _ _ _ (0, 0) _ rfl ((((hj1.out.far (by simp) _).set_ 0 _).set_ 1 _) : Blk (((w1.setCell ⟨w.heap.size, 1, none⟩ (.slice A' n' c')).setCell ⟨w.heap.size + 1, 0, none⟩ (.int .i64 g)).setCell ⟨w.heap.size + 1, 1, none⟩ (.slice A' n' c')) (w.heap.size + 1) 61 #[.int .i64 g, .slice A' n' c']) Try.underlying61 rfl size61) rfl ⟨_, rfl, ?_, ?_⟩
  · exact (hown'.out.keep noInner_inner (((Keeps.set_ _ _ _ (by simp; omega)).trans (Keeps.set_ _ _ _ (by simp; omega))).trans (Keeps.set_ _ _ _ (by simp; omega)))).base noInner_inner (by omega)
  · exact ((hbW.setCell (by simp) _).setCell (by simp) _).setCell (by simp) _

def StepsRes (w : World) (ss : List Step) (e : Ending) (w' : World) : Prop := ∃ v sps, e = .returned v ∧ OwnSteps w.heap.size w' v sps ∧ sps.map (·.1) = ss ∧ Below w.heap.size w w'
theorem OwnL.form_ {α : Type} {E : TypeId} {k : Nat} {cells : α → List Value} {I : (Nat → Prop) → World → α → Prop} {B : Nat} {w : World} {v : Value} {ps : List α} (h : OwnL E k cells I B w v ps) : ∃ A c, v = .slice A ps.length c := by
  rcases h.1.2 with ⟨rfl, h0⟩ | ⟨g, cap, cur, rfl, _⟩
  · exact ⟨none, 0, by rw [h0]⟩
  · exact ⟨_, _, rfl⟩
set_option maxHeartbeats 2000000 in
theorem copySteps_any (v : Value) (ss : List Step) (w : World) (h : IsSteps w v ss) (h0 : 0 < ss.length) (hl : ss.length ≤ 1000000) (hc : ∀ s ∈ ss, 0 < s.cents.length ∧ s.cents.length ≤ 1000000) : Calls Try.prog 87 #[v] w (StepsRes w ss) := by
  obtain ⟨A, c, rfl, _, _, hA⟩ := h
  obtain ⟨i0, hi0, hz0, hz1, hz2⟩ := info_parts step_info
  obtain ⟨b, off, rfl, hb, hR⟩ := hA h0
  have hR' : ∀ i (hi : i < ss.length), IsStep w b (off + i * 2) ss[i] := fun i hi => by
    have := hR i hi
    rw [← getD_of ss Step.zero i hi]
    exact this
  have hH := Lib.hid hR'
  have hcc := Lib.hid hc
  clear hA hR hR' hc
  go_enter Try.func87, Try.ntmps87
  go_wp2
  go_loopw [3, 4] (fun ov iv wr => ∃ (i : Nat) (sps : List (Step × Value)), i ≤ ss.length ∧ iv = .int .i64 i ∧ Below w.heap.size w wr ∧ OwnSteps w.heap.size wr ov sps ∧ Hid (sps.map (·.1) = ss.take i))
    (fun _ iv _ => ss.length - (intOf iv).toNat)
  case atStart => exact ⟨0, [], by omega, rfl, Below.refl _ _, OwnL.nil_, rfl⟩
  case round =>
    obtain ⟨i, sps, hi, rfl, hbr, hown, hmap⟩ := hrel
    have hsl : sps.length = i := by have := congrArg List.length hmap.out; simp at this; omega
    have hsl1 : sps.length ≤ 1000000 := by omega
    have hsl2 := Lib.hid hsl
    clear hsl
    by_cases hlt : i < ss.length
    · obtain ⟨s0, cv, s1, hI⟩ := (hH.out i hlt).stays (Stays.of hbr) hb
      obtain ⟨hc0, hc1⟩ := hcc.out ss[i] (List.getElem_mem hlt)
      have htake : ss.take (i + 1) = ss.take i ++ [ss[i]] := List.take_succ_eq_append_getElem hlt
      have hT := Lib.hid htake
      clear htake
      generalize ss[i] = s at *
      obtain ⟨gr, cs⟩ := s
      have hI2 := Lib.hid hI
      obtain ⟨A2, c2, rfl, _, _, hA2⟩ := hI
      clear hA2
      have hlt' : decide ((i : Int) < (ss.length : Int)) = true := by simp; omega
      have n0 : (0 : Int) ≤ (i : Int) := by omega
      have hown' := Lib.hid hown
      obtain ⟨A3, c3, rfl⟩ := hown.form_
      clear hown
      simp only at s0 s1 hc0 hc1
      go_wp2_with fail
      refine (copyStep_any _ _ cs _ hI2.out hc0 hc1).mono ?_
      rintro e w1 ⟨v1, rfl, hown1, hb1⟩
      have ho1 := Lib.hid hown1
      simp only at ho1
      obtain ⟨A5, c5, rfl⟩ := hown1.form_
      clear hown1
      have hk1 := Lib.hid (Blk.new w1 61 #[.int .i64 gr, (.slice A5 cs.length c5)])
      have hw1 : Below wr.heap.size wr ((w1.alloc (.cells #[.int .i64 gr, (.slice A5 cs.length c5)] 61)).alloc (.cells #[.int .i64 gr, (.slice A5 cs.length c5)] 61)) := (hb1.alloc hb1.size _).alloc (by have := hb1.size; simp; omega) _
      have hin : stepIn (fun b => w.heap.size ≤ b ∧ some b ≠ (Value.slice A3 sps.length c3).ownBlock) ((w1.alloc (.cells #[.int .i64 gr, (.slice A5 cs.length c5)] 61)).alloc (.cells #[.int .i64 gr, (.slice A5 cs.length c5)] 61)) (⟨gr, cs⟩, (.slice A5 cs.length c5)) := by
        refine IsIntsP.keep (OwnInts.ints ho1.out) (Keeps.of_below (((Below.refl _ _).alloc (Nat.le_refl _) _).alloc (by simp) _) _) fun b hb hp => ⟨by have := hbr.size; omega, fun e => ?_⟩
        have := (hown'.out.block_lt e.symm).2
        omega
      have hownA : OwnSteps w.heap.size ((w1.alloc (.cells #[.int .i64 gr, (.slice A5 cs.length c5)] 61)).alloc (.cells #[.int .i64 gr, (.slice A5 cs.length c5)] 61)) (.slice A3 sps.length c3) sps := hown'.out.keep stepIn_inner (Keeps.of_below hw1 _)
      have hoA := Lib.hid hownA
      have sd1 : sps.length + 1 ≤ maxLen := by unfold maxLen; omega
      have sd4 : (sps.length + 1) * 32 ≤ 140737488355328 := by omega
      have hs1 := hb1.size
      have hs0 := hbr.size
      clear hownA
      go_wp2_with (at_builtin; refine wpList_append_lies _ rfl (.tmp 17) (.tmp 19) 55 rfl w.heap.size 61 i0 (.agg #[.int .i64 0, .slice none 0 0]) 2 32 Try.underlying55 hi0 hz0 hz1 hz2 rfl (by decide) (.slice A3 sps.length c3) sps.length (sps.flatMap stepCells) rfl (by exact hoA.out.1) ⟨w1.heap.size + 1, 0, none⟩ 1 1 [.int .i64 gr, (.slice A5 cs.length c5)] rfl rfl (by exact World.news_of_block (cs := #[.int .i64 gr, (.slice A5 cs.length c5)]) (Blk.new_at _ _ _ _ (by simp))) (one2 rfl rfl) Nat.one_pos sd1 sd4 (by simp; omega) (w1.heap.size + 1 + 1) (by simp) ?_; intro g cap w2 hown2 hgr2 hat2 hlt2)
      have hR := slot_append stepIn_inner (a := (⟨gr, cs⟩, .slice A5 cs.length c5)) hbr hown'.out hw1 (Nat.le_refl _) hbr.size hin hown2 rfl hgr2 (hat2.imp_right (fun e => by simp [e]))
      have hmap2 : Hid ((sps ++ [((⟨gr, cs⟩ : Step), Value.slice A5 cs.length c5)]).map (·.1) = ss.take (i + 1)) := by
        rw [hT.out, ← hmap.out]
        simp [Hid]
      go_roundw
      case rel => exact ⟨i + 1, _, by omega, by go_num, hR.1, hR.2, hmap2⟩
      case measure => simp [intOf]; omega
    · have hlt' : decide ((i : Int) < (ss.length : Int)) = false := by simp; omega
      have hm : sps.map (·.1) = ss := by rw [hmap.out]; exact List.take_of_length_le (by omega)
      have hm' := Lib.hid hm
      have ho := Lib.hid hown
      clear hm hown hmap
      go_wp2
      go_ret
      exact ⟨_, sps, rfl, ho.out, hm'.out, hbr⟩

def RateRes (w : World) (r : Rate) (e : Ending) (w' : World) : Prop := ∃ v sps, e = .returned (.agg #[.int .u8 r.cls, v, .int .i64 r.bar]) ∧ OwnSteps w.heap.size w' v sps ∧ sps.map (·.1) = r.steps ∧ Below w.heap.size w w'
def RatesRes (w : World) (rs : List Rate) (e : Ending) (w' : World) : Prop := ∃ v rps, e = .returned v ∧ OwnRates w.heap.size w' v rps ∧ rps.map (·.1) = rs ∧ Below w.heap.size w w'
def RateSmall (r : Rate) : Prop := 0 < r.steps.length ∧ r.steps.length ≤ 1000000 ∧ ∀ s ∈ r.steps, 0 < s.cents.length ∧ s.cents.length ≤ 1000000
set_option maxHeartbeats 1000000 in
theorem copyRate_any (cl : Int) (v : Value) (ss : List Step) (br : Int) (w : World) (h : IsSteps w v ss) (h0 : 0 < ss.length) (hl : ss.length ≤ 1000000) (hc : ∀ s ∈ ss, 0 < s.cents.length ∧ s.cents.length ≤ 1000000) : Calls Try.prog 72 #[.agg #[.int .u8 cl, v, .int .i64 br]] w (RateRes w ⟨cl, ss, br⟩) := by
  have hh := Lib.hid h
  obtain ⟨A, c, rfl, _, _, hA⟩ := h
  clear hA
  have hW : Below w.heap.size w ((w.alloc (.cells #[.int .u8 cl, .slice A ss.length c, .int .i64 br] 57)).alloc (.cells #[.int .u8 0, .slice none 0 0, .int .i64 0] 57)) := ((Below.refl _ _).alloc (Nat.le_refl _) _).alloc (by simp) _
  have k0 : Blk ((w.alloc (.cells #[.int .u8 cl, .slice A ss.length c, .int .i64 br] 57)).alloc (.cells #[.int .u8 0, .slice none 0 0, .int .i64 0] 57)) w.heap.size 57 #[.int .u8 cl, .slice A ss.length c, .int .i64 br] := (Blk.new _ _ _).alloc _
  have k1 : Blk ((w.alloc (.cells #[.int .u8 cl, .slice A ss.length c, .int .i64 br] 57)).alloc (.cells #[.int .u8 0, .slice none 0 0, .int .i64 0] 57)) (w.heap.size + 1) 57 #[.int .u8 0, .slice none 0 0, .int .i64 0] := Blk.new_at _ _ _ _ (by simp)
  go_enter Try.func72, Try.ntmps72
  go_wp2_with fail
  refine (copySteps_any _ ss _ (hh.out.stays (Stays.of hW)) h0 hl hc).mono ?_
  rintro e w1 ⟨v', sps, rfl, hown, hmp, hb1⟩
  have hmp' := Lib.hid hmp
  clear hmp
  generalize (w.alloc (.cells #[.int .u8 cl, .slice A ss.length c, .int .i64 br] 57)).alloc (.cells #[.int .u8 0, .slice none 0 0, .int .i64 0] 57) = W at *
  have hs1 : w.heap.size + 1 < W.heap.size := k1.lt
  have j0 := k0.below hb1 (by omega)
  have j1 := k1.below hb1 (by omega)
  have x0 := j0.cell 0
  have x1 := j0.cell 1
  have x2 := j1.cell 0
  have x3 := j1.cell 1
  have x4 := j0.cell 2
  have x5 := j1.cell 2
  have f4 := j1.frozen 2
  have f1 := j0.frozen 1
  have f2 := j1.frozen 0
  have f3 := j1.frozen 1
  simp at x0 x1 x2 x3 x4 x5
  have hown' := Lib.hid hown
  obtain ⟨A', n', c', rfl⟩ : ∃ A n c, v' = .slice A n c := by rcases hown.1.2 with ⟨rfl, _⟩ | ⟨g, cap, cur, rfl, _⟩ <;> exact ⟨_, _, _, rfl⟩
  have hj1 := Lib.hid j1
  have hbW := hW.trans (hb1.mono hW.size)
  clear hown j0 j1 k0 k1 hb1 hW
  go_wp2
  refine bodyPost_ret (results_cell_row Try.results72 _ _ _ _ _ (0, 0) _ rfl (((((hj1.out.far (by simp) _).set_ 0 _).set_ 1 _).set_ 2 _) : Blk ((((w1.setCell ⟨w.heap.size, 1, none⟩ (.slice A' n' c')).setCell ⟨w.heap.size + 1, 0, none⟩ (.int .u8 cl)).setCell ⟨w.heap.size + 1, 1, none⟩ (.slice A' n' c')).setCell ⟨w.heap.size + 1, 2, none⟩ (.int .i64 br)) (w.heap.size + 1) 57 #[.int .u8 cl, .slice A' n' c', .int .i64 br]) Try.underlying57 rfl size57) rfl ⟨_, sps, rfl, ?_, hmp'.out, ?_⟩
  · exact (hown'.out.keep stepIn_inner ((((Keeps.set_ _ _ _ (by simp; omega)).trans (Keeps.set_ _ _ _ (by simp; omega))).trans (Keeps.set_ _ _ _ (by simp; omega))).trans (Keeps.set_ _ _ _ (by simp; omega)))).base stepIn_inner (by omega)
  · exact (((hbW.setCell (by simp) _).setCell (by simp) _).setCell (by simp) _).setCell (by simp) _

set_option maxHeartbeats 2000000 in
theorem copyRates_any (v : Value) (ss : List Rate) (w : World) (h : IsRates w v ss) (h0 : 0 < ss.length) (hl : ss.length ≤ 1000000) (hc : ∀ s ∈ ss, RateSmall s) : Calls Try.prog 50 #[v] w (RatesRes w ss) := by
  obtain ⟨A, c, rfl, _, _, hA⟩ := h
  obtain ⟨i0, hi0, hz0, hz1, hz2⟩ := info_parts rate_info
  obtain ⟨b, off, rfl, hb, hR⟩ := hA h0
  have hR' : ∀ i (hi : i < ss.length), IsRate w b (off + i * 3) ss[i] := fun i hi => by
    have := hR i hi
    rw [← getD_of ss Rate.zero i hi]
    exact this
  have hH := Lib.hid hR'
  have hcc := Lib.hid hc
  clear hA hR hR' hc
  go_enter Try.func50, Try.ntmps50
  go_wp2
  go_loopw [3, 4] (fun ov iv wr => ∃ (i : Nat) (sps : List (Rate × Value)), i ≤ ss.length ∧ iv = .int .i64 i ∧ Below w.heap.size w wr ∧ OwnRates w.heap.size wr ov sps ∧ Hid (sps.map (·.1) = ss.take i))
    (fun _ iv _ => ss.length - (intOf iv).toNat)
  case atStart => exact ⟨0, [], by omega, rfl, Below.refl _ _, OwnL.nil_, rfl⟩
  case round =>
    obtain ⟨i, sps, hi, rfl, hbr, hown, hmap⟩ := hrel
    have hsl : sps.length = i := by have := congrArg List.length hmap.out; simp at this; omega
    have hsl1 : sps.length ≤ 1000000 := by omega
    have hsl2 := Lib.hid hsl
    clear hsl
    by_cases hlt : i < ss.length
    · obtain ⟨s0, ⟨cv, s1, hI⟩, s2, hb0, hb1x⟩ := (hH.out i hlt).stays (Stays.of hbr) hb
      obtain ⟨hc0, hc1, hc2⟩ := hcc.out ss[i] (List.getElem_mem hlt)
      have htake : ss.take (i + 1) = ss.take i ++ [ss[i]] := List.take_succ_eq_append_getElem hlt
      have hT := Lib.hid htake
      clear htake
      generalize ss[i] = s at *
      obtain ⟨cl, cs, br⟩ := s
      have hI2 := Lib.hid hI
      obtain ⟨A2, c2, rfl, _, _, hA2⟩ := hI
      clear hA2
      have hlt' : decide ((i : Int) < (ss.length : Int)) = true := by simp; omega
      have n0 : (0 : Int) ≤ (i : Int) := by omega
      have hown' := Lib.hid hown
      obtain ⟨A3, c3, rfl⟩ := hown.form_
      clear hown
      simp only at s0 s1 s2 hc0 hc1 hc2 hb0 hb1x
      have hcs := Lib.hid hc2
      clear hc2
      go_wp2_with fail
      refine (copyRate_any _ _ cs _ _ hI2.out hc0 hc1 hcs.out).mono ?_
      rintro e w1 ⟨v1, sq, rfl, hown1, hsq, hb1⟩
      have hsq' := Lib.hid hsq
      have hsl9 : sq.length = cs.length := by have := congrArg List.length hsq; simpa using this
      clear hsq
      have ho1 := Lib.hid hown1
      obtain ⟨A5, c5, rfl⟩ := hown1.form_
      rw [hsl9] at ho1 ⊢
      clear hown1 hsl9
      have hk1 := Lib.hid (Blk.new w1 57 #[.int .u8 cl, (.slice A5 cs.length c5), .int .i64 br])
      have hw1 : Below wr.heap.size wr ((w1.alloc (.cells #[.int .u8 cl, (.slice A5 cs.length c5), .int .i64 br] 57)).alloc (.cells #[.int .u8 cl, (.slice A5 cs.length c5), .int .i64 br] 57)) := (hb1.alloc hb1.size _).alloc (by have := hb1.size; simp; omega) _
      have hin : rateIn (fun b => w.heap.size ≤ b ∧ some b ≠ (Value.slice A3 sps.length c3).ownBlock) ((w1.alloc (.cells #[.int .u8 cl, (.slice A5 cs.length c5), .int .i64 br] 57)).alloc (.cells #[.int .u8 cl, (.slice A5 cs.length c5), .int .i64 br] 57)) (⟨cl, cs, br⟩, (.slice A5 cs.length c5)) := by
        have hst := OwnSteps.steps ho1.out
        rw [hsq'.out] at hst
        refine ⟨IsStepsP.keep hst (Keeps.of_below (((Below.refl _ _).alloc (Nat.le_refl _) _).alloc (by simp) _) _) fun b hb hp => ⟨by have := hbr.size; omega, fun e => ?_⟩, hb0, hb1x⟩
        have := (hown'.out.block_lt e.symm).2
        omega
      have hownA : OwnRates w.heap.size ((w1.alloc (.cells #[.int .u8 cl, (.slice A5 cs.length c5), .int .i64 br] 57)).alloc (.cells #[.int .u8 cl, (.slice A5 cs.length c5), .int .i64 br] 57)) (.slice A3 sps.length c3) sps := hown'.out.keep rateIn_inner (Keeps.of_below hw1 _)
      have hoA := Lib.hid hownA
      have sd1 : sps.length + 1 ≤ maxLen := by unfold maxLen; omega
      have sd4 : (sps.length + 1) * 40 ≤ 140737488355328 := by omega
      have hs1 := hb1.size
      have hs0 := hbr.size
      clear hownA
      go_wp2_with (at_builtin; refine wpList_append_lies _ rfl (.tmp 17) (.tmp 19) 22 rfl w.heap.size 57 i0 (.agg #[.int .u8 0, .slice none 0 0, .int .i64 0]) 3 40 Try.underlying22 hi0 hz0 hz1 hz2 rfl (by decide) (.slice A3 sps.length c3) sps.length (sps.flatMap rateCells) rfl (by exact hoA.out.1) ⟨w1.heap.size + 1, 0, none⟩ 1 1 [.int .u8 cl, (.slice A5 cs.length c5), .int .i64 br] rfl rfl (by exact World.news_of_block (cs := #[.int .u8 cl, (.slice A5 cs.length c5), .int .i64 br]) (Blk.new_at _ _ _ _ (by simp))) (one3 rfl rfl rfl) Nat.one_pos sd1 sd4 (by simp; omega) (w1.heap.size + 1 + 1) (by simp) ?_; intro g cap w2 hown2 hgr2 hat2 hlt2)
      have hR := slot_append rateIn_inner (a := (⟨cl, cs, br⟩, .slice A5 cs.length c5)) hbr hown'.out hw1 (Nat.le_refl _) hbr.size hin hown2 rfl hgr2 (hat2.imp_right (fun e => by simp [e]))
      have hmap2 : Hid ((sps ++ [((⟨cl, cs, br⟩ : Rate), Value.slice A5 cs.length c5)]).map (·.1) = ss.take (i + 1)) := by
        rw [hT.out, ← hmap.out]
        simp [Hid]
      go_roundw
      case rel => exact ⟨i + 1, _, by omega, by go_num, hR.1, hR.2, hmap2⟩
      case measure => simp [intOf]; omega
    · have hlt' : decide ((i : Int) < (ss.length : Int)) = false := by simp; omega
      have hm : sps.map (·.1) = ss := by rw [hmap.out]; exact List.take_of_length_le (by omega)
      have hm' := Lib.hid hm
      have ho := Lib.hid hown
      clear hm hown hmap
      go_wp2
      go_ret
      exact ⟨_, sps, rfl, ho.out, hm'.out, hbr⟩

def IsRateP (P : Nat → Prop) (w : World) (b o : Nat) (r : Rate) : Prop :=
  w.cell? ⟨b, o, none⟩ = some (.int .u8 r.cls) ∧ (∃ sv, w.cell? ⟨b, o + 1, none⟩ = some sv ∧ IsStepsP P w sv r.steps) ∧ w.cell? ⟨b, o + 2, none⟩ = some (.int .i64 r.bar) ∧ 0 ≤ r.cls ∧ r.cls ≤ 255
/-- rates whose memory lies in blocks of P -/
def IsRatesP (P : Nat → Prop) (w : World) (v : Value) (rs : List Rate) : Prop :=
  SlP P w v rs.length fun b off i => IsRateP P w b (off + i * 3) (rs.getD i Rate.zero)
theorem IsRatesP.plain {P : Nat → Prop} {w : World} {v : Value} {rs : List Rate} (h : IsRatesP P w v rs) : IsRates w v rs :=
  SlP.plain h fun _ _ _ _ _ _ ⟨h1, ⟨sv, h2, h3⟩, h4⟩ => ⟨h1, ⟨sv, h2, h3.plain⟩, h4⟩
theorem IsRatesP.keep {P Q : Nat → Prop} {w w' : World} {v : Value} {rs : List Rate} (h : IsRatesP P w v rs) (k : Keeps P w w') (hPQ : ∀ b, b < w.heap.size → P b → Q b) : IsRatesP Q w' v rs :=
  SlP.map h k.size hPQ fun _ _ _ hb hp _ ⟨h1, ⟨sv, h2, h3⟩, h4, h5⟩ => ⟨(k.cell hb hp).trans h1, ⟨sv, (k.cell hb hp).trans h2, h3.keep k hPQ⟩, (k.cell hb hp).trans h4, h5⟩
theorem OwnRates.ratesP {base : Nat} {w : World} {v : Value} {ps : List (Rate × Value)} (h : OwnRates base w v ps) : IsRatesP (fun b => base ≤ b ∧ b < w.heap.size) w v (ps.map (·.1)) := by
  have hl : (ps.map (·.1)).length = ps.length := by simp
  unfold IsRatesP
  rw [hl]
  have hsl := OwnL.sl h (fun _ => rfl)
  refine SlP.map hsl (Nat.le_refl _) (fun b hb hp => ⟨hp, hb⟩) fun b off i hb _ hi hr => ?_
  have h0 := hr.2.2 hi 0 (by omega)
  have h1 := hr.2.2 hi 1 (by omega)
  have h2 := hr.2.2 hi 2 (by omega)
  rw [getD_of _ _ i (by rw [hl]; exact hi), List.getElem_map]
  have hin := h.2 ps[i] (List.getElem_mem hi)
  exact ⟨by simpa [rateCells] using h0, ⟨ps[i].2, by simpa [rateCells] using h1, hin.1.weak fun b hb hp => ⟨hp.1, hb⟩⟩, by simpa [rateCells] using h2, hin.2⟩

/-- a tariff in memory of the call's own: the rates below block M, the rows from M on -/
def TariffOwn (w : World) (rs : List Rate) (zs : List Zone) (e : Ending) (w' : World) : Prop :=
  ∃ rv zv rps M, e = .returned (.agg #[rv, zv]) ∧ OwnRates w.heap.size w' rv rps ∧ rps.map (·.1) = rs ∧ IsRatesP (fun b => w.heap.size ≤ b ∧ b < M) w' rv rs ∧ OwnZones M w' zv zs ∧ w.heap.size ≤ M ∧ M ≤ w'.heap.size ∧ Below w.heap.size w w'
set_option maxHeartbeats 2000000 in
theorem copyTariff_any (rv zv : Value) (rs : List Rate) (zs : List Zone) (w : World) (h : IsRates w rv rs) (hz : IsZones w zv zs) (h0 : 0 < rs.length) (hl : rs.length ≤ 1000000) (hc : ∀ s ∈ rs, RateSmall s) (h0z : 0 < zs.length) (hlz : zs.length ≤ 1000000) :
    Calls Try.prog 25 #[.agg #[rv, zv]] w (TariffOwn w rs zs) := by
  have hh := Lib.hid h
  have hhz := Lib.hid hz
  have hcc := Lib.hid hc
  obtain ⟨A, c, rfl, _, _, hA⟩ := h
  obtain ⟨B, d, rfl, _, _, hB⟩ := hz
  clear hA hB hc
  have hW : Below w.heap.size w ((w.alloc (.cells #[.slice A rs.length c, .slice B zs.length d] 25)).alloc (.cells #[.slice none 0 0, .slice none 0 0] 25)) := ((Below.refl _ _).alloc (Nat.le_refl _) _).alloc (by simp) _
  have k0 : Blk ((w.alloc (.cells #[.slice A rs.length c, .slice B zs.length d] 25)).alloc (.cells #[.slice none 0 0, .slice none 0 0] 25)) w.heap.size 25 #[.slice A rs.length c, .slice B zs.length d] := (Blk.new _ _ _).alloc _
  have k1 : Blk ((w.alloc (.cells #[.slice A rs.length c, .slice B zs.length d] 25)).alloc (.cells #[.slice none 0 0, .slice none 0 0] 25)) (w.heap.size + 1) 25 #[.slice none 0 0, .slice none 0 0] := Blk.new_at _ _ _ _ (by simp)
  go_enter Try.func25, Try.ntmps25
  go_wp2_with fail
  refine (copyRates_any _ rs _ (hh.out.stays (Stays.of hW)) h0 hl hcc.out).mono ?_
  rintro e w1 ⟨v', rps, rfl, hown, hmp, hb1⟩
  generalize (w.alloc (.cells #[.slice A rs.length c, .slice B zs.length d] 25)).alloc (.cells #[.slice none 0 0, .slice none 0 0] 25) = W at *
  have hs1 : w.heap.size + 1 < W.heap.size := k1.lt
  have j0 := k0.below hb1 (by omega)
  have j1 := k1.below hb1 (by omega)
  have x0 := j0.cell 0
  have x1 := j0.cell 1
  have f0 := j0.frozen 0
  simp at x0 x1
  have hown' := Lib.hid hown
  obtain ⟨A', c', rfl⟩ := hown.form_
  have hmp' := Lib.hid hmp
  clear hmp hown k0 k1
  have hj0 := Lib.hid (j0.set_ 0 (.slice A' rps.length c'))
  have hj1 := Lib.hid (j1.far (p := ⟨w.heap.size, 0, none⟩) (by simp) (.slice A' rps.length c'))
  clear j0 j1
  have hbW := hW.trans (hb1.mono hW.size)
  have hbS := hbW.setCell (p := ⟨w.heap.size, 0, none⟩) (by simp) (.slice A' rps.length c')
  have hsz := hb1.size
  go_wp2_with fail
  refine (copyZones_any _ zs _ (hhz.out.stays (Stays.of hbS)) h0z hlz).mono ?_
  rintro e w2 ⟨v2, rfl, hown2, hb2⟩
  obtain ⟨A2, c2, hv2⟩ := hown2.form_
  subst hv2
  have ho1 := Lib.hid (hown'.out.keep rateIn_inner (Keeps.set_ _ ⟨w.heap.size, 0, none⟩ (.slice A' rps.length c') (by simp; omega)))
  have hsz2 : (w1.setCell ⟨w.heap.size, 0, none⟩ (.slice A' rps.length c')).heap.size = w1.heap.size := by simp [World.setCell]
  generalize w1.setCell ⟨w.heap.size, 0, none⟩ (.slice A' rps.length c') = w3 at *
  have hs3 : W.heap.size ≤ w3.heap.size := by omega
  have hs3' := Lib.hid hsz2
  clear hsz2
  have i0 := hj0.out.below hb2 (by omega)
  have i1 := hj1.out.below hb2 (by omega)
  have y0 := i0.cell 0
  have y1 := i0.cell 1
  have y2 := i1.cell 0
  have y3 := i1.cell 1
  have g1 := i0.frozen 1
  have g2 := i1.frozen 0
  have g3 := i1.frozen 1
  simp at y0 y1 y2 y3
  have hi0 := Lib.hid i0
  have hi1 := Lib.hid i1
  have ho2 := Lib.hid hown2
  have hsz4 := hb2.size
  have hbX := hbS.trans (hb2.mono (by omega))
  clear i0 i1 hown2 hj0 hj1
  go_wp2
  refine bodyPost_ret (results_cell_row Try.results25 _ _ _ _ _ (0, 0) _ rfl ((((hi1.out.far (by simp) _).set_ 0 _).set_ 1 _) : Blk (((w2.setCell ⟨w.heap.size, 1, none⟩ (.slice A2 zs.length c2)).setCell ⟨w.heap.size + 1, 0, none⟩ (.slice A' rps.length c')).setCell ⟨w.heap.size + 1, 1, none⟩ (.slice A2 zs.length c2)) (w.heap.size + 1) 25 #[.slice A' rps.length c', .slice A2 zs.length c2]) Try.underlying25 rfl size25) rfl ?_
  have hkk : Keeps (fun b => W.heap.size ≤ b) w2 (((w2.setCell ⟨w.heap.size, 1, none⟩ (.slice A2 zs.length c2)).setCell ⟨w.heap.size + 1, 0, none⟩ (.slice A' rps.length c')).setCell ⟨w.heap.size + 1, 1, none⟩ (.slice A2 zs.length c2)) := ((Keeps.set_ _ _ _ (by simp; omega)).trans (Keeps.set_ _ _ _ (by simp; omega))).trans (Keeps.set_ _ _ _ (by simp; omega))
  have hoR : OwnRates W.heap.size w2 (.slice A' rps.length c') rps := ho1.out.keep rateIn_inner (Keeps.of_below hb2 _)
  have hP := OwnRates.ratesP ho1.out
  rw [hmp'.out] at hP
  refine ⟨_, _, rps, w3.heap.size, rfl, (hoR.keep rateIn_inner hkk).base rateIn_inner (by omega), hmp'.out, ?_, ?_, by omega, ?_, ?_⟩
  · exact (hP.keep (Q := fun b => W.heap.size ≤ b ∧ b < w3.heap.size) (Keeps.of_below hb2 _) (fun b hb hp => hp)).keep ⟨hkk.size, fun b hb hp => hkk.block b hb hp.1⟩ (fun b hb hp => ⟨by omega, hp.2⟩)
  · exact ho2.out.keep zoneIn_inner ⟨hkk.size, fun b hb hp => hkk.block b hb (by omega)⟩
  · have := hkk.size; omega
  · exact ((hbX.setCell (by simp) _).setCell (by simp) _).setCell (by simp) _
end Go.Proofs.Ythbnbfeolfkkaaa
