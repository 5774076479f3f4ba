/- The walks of markStep, markRate, markZone, LentZones. -/
import Derived.Test.YthbnbfeolfkkaaaL24
import Derived.Test.YthbnbfeolfkkaaaL21
namespace Go.Proofs.Ythbnbfeolfkkaaa
open Go.RowKit Go.Maps
attribute [local go_sem ↓] Go.wp_at_zero Go.wp_at_succ

theorem size67 : (Try.prog.info? 67).map (·.size) = some 3 := by kernel_rfl
set_option maxHeartbeats 400000 in
theorem markStep_any (j : Nat) (w : World) (hj : j < 12) : Calls Try.prog 99 #[.int .i64 1, .int .i64 (j : Int)] w fun e w' => e = .returned (.agg #[.int .i64 (mk j), .slice none 0 0]) ∧ Below w.heap.size w w' := by
  go_enter Try.func99, Try.ntmps99
  go_wp2_with fail
  refine (mark_any j _ hj).mono ?_
  rintro e w' ⟨rfl, rfl⟩
  go_wp2
  refine bodyPost_ret (results_cell_row Try.results99 _ _ _ _ _ (0, 0) _ rfl (Blk.new w 61 #[.int .i64 (mk j), .slice none 0 0]) Try.underlying61 rfl size61) rfl ⟨rfl, ?_⟩
  exact (Below.refl _ _).alloc (Nat.le_refl _) _
set_option maxHeartbeats 400000 in
theorem markRate_any (j : Nat) (w : World) (hj : j < 12) : Calls Try.prog 74 #[.int .i64 1, .int .i64 (j : Int)] w fun e w' => e = .returned (.agg #[.int .u8 0, .slice none 0 0, .int .i64 (mk j)]) ∧ Below w.heap.size w w' := by
  go_enter Try.func74, Try.ntmps74
  go_wp2_with fail
  refine (mark_any j _ hj).mono ?_
  rintro e w' ⟨rfl, rfl⟩
  go_wp2
  refine bodyPost_ret (results_cell_row Try.results74 _ _ _ _ _ (0, 0) _ rfl (Blk.new w 57 #[.int .u8 0, .slice none 0 0, .int .i64 (mk j)]) Try.underlying57 rfl size57) rfl ⟨rfl, ?_⟩
  exact (Below.refl _ _).alloc (Nat.le_refl _) _
set_option maxHeartbeats 400000 in
theorem markZone_any (j : Nat) (w : World) (hj : j < 12) : Calls Try.prog 75 #[.int .i64 1, .int .i64 (j : Int)] w fun e w' => e = .returned (.agg #[.string ⟨#[]⟩, .string ⟨#[]⟩, .int .i64 (mk j)]) ∧ Below w.heap.size w w' := by
  go_enter Try.func75, Try.ntmps75
  go_wp2_with fail
  refine (mark_any j _ hj).mono ?_
  rintro e w' ⟨rfl, rfl⟩
  go_wp2
  refine bodyPost_ret (results_cell_row Try.results75 _ _ _ _ _ (0, 0) _ rfl (Blk.new w 67 #[.string ⟨#[]⟩, .string ⟨#[]⟩, .int .i64 (mk j)]) Try.underlying67 rfl size67) rfl ⟨rfl, ?_⟩
  exact (Below.refl _ _).alloc (Nat.le_refl _) _
theorem marks_zones (zs : List Zone) (j : Nat) : (zs ++ (marks (j + 1)).map markZ).flatMap zoneCells = (zs ++ (marks j).map markZ).flatMap zoneCells ++ [.string ⟨#[]⟩, .string ⟨#[]⟩, .int .i64 (mk j)] := by
  rw [marks_succ]
  simp [zoneCells, markZ]
def ZonesLent (w : World) (zs : List Zone) (e : Ending) (w' : World) : Prop := ∃ v, e = .returned v ∧ LtZones (fun b => w.heap.size ≤ b) w' v zs ∧ Below w.heap.size w w'
theorem news_zones {w : World} {b off : Nat} {zs : List Zone} (hR : ∀ i (hi : i < zs.length), IsZone w b (off + i * 3) zs[i]) : ∀ j u, (zs.flatMap zoneCells)[j]? = some u → w.cell? ((⟨b, off, none⟩ : Addr).add j) = some u :=
  news_of_cells (k := 3) (by omega) (fun _ => rfl) fun i hi j hj => by
    obtain ⟨e0, e1, e2, _⟩ := hR i hi
    have : j = 0 ∨ j = 1 ∨ j = 2 := by omega
    rcases this with rfl | rfl | rfl
    · simpa [zoneCells] using e0
    · simpa [zoneCells] using e1
    · simpa [zoneCells] using e2
set_option maxHeartbeats 1000000 in
theorem lentZones_any (v : Value) (zs : List Zone) (w : World) (h : IsZones w v zs) (hn : NilOk v) (hl : zs.length ≤ 1000000) : Calls Try.prog 54 #[v] w (ZonesLent w zs) := by
  obtain ⟨A, c, rfl, _, _, hA⟩ := h
  obtain ⟨i0, hi0, hz0, hz1, hz2⟩ := info_parts zone_info
  obtain ⟨wM, hmk, hownM, hgrM⟩ := run_make_own (P := Try.prog) w w.heap.size 23 67 i0 _ 3 Try.underlying23 hi0 hz0 hz1 .i64 .i64 (zs.length + 12) (by rw [hz2]; omega) (by unfold maxLen; omega) (Nat.le_refl _)
  rw [show ((zs.length + 12 : Nat) : Int) = (zs.length : Int) + 12 from by omega] at hmk
  have hbM : Below w.heap.size w wM := (Below.refl _ _).grown hgrM (Nat.le_refl _) (fun _ e => by cases e)
  have hl3 : (zs.length : Int) ≤ 1000000 := by omega
  have sd1 : 0 + zs.length ≤ maxLen := by unfold maxLen; omega
  have sd2 : (0 + zs.length) * 40 ≤ 140737488355328 := by omega
  have hfl := Lib.hid (len_flat (cells := zoneCells) (k := 3) (fun _ => rfl) zs)
  have hone := Lib.hid (oneZones zs)
  have hown' := Lib.hid hownM
  have hbM' := Lib.hid hbM
  have hsM : w.heap.size ≤ wM.heap.size := hbM.size
  have hA' := Lib.hid hA
  have hn' := Lib.hid hn
  have hzin : Hid (∀ z ∈ zs, z.frm.size ≤ maxLen ∧ z.dst.size ≤ maxLen) := Lib.hid fun z hz => by
    obtain ⟨i, hi, rfl⟩ := List.getElem_of_mem hz
    obtain ⟨b, off, _, _, hR⟩ := hA (by omega)
    have this : IsZone w b (off + i * 3) (zs.getD i Zone.zero) := hR i hi
    rw [getD_of zs Zone.zero i hi] at this
    exact this.2.2.2
  clear hA hownM hgrM hbM hn
  go_enter Try.func54, Try.ntmps54
  go_upto_region 2 with fail
  go_cut [3] (fun s3 wx => ∃ g cap, s3 = .slice (some ⟨g, 0, none⟩) zs.length cap ∧ Hid (wx.ownsRow w.heap.size 67 3 s3 zs.length (zs.flatMap zoneCells)) ∧ Below w.heap.size w wx)
  case first =>
    cases A with
    | none =>
      obtain rfl : c = 0 := hn'.out _ _ rfl
      have hx0 : zs = [] := by
        rcases Nat.eq_zero_or_pos zs.length with h | h
        · exact List.eq_nil_of_length_eq_zero h
        · obtain ⟨b, off, e2, _⟩ := hA'.out h
          cases e2
      subst hx0
      clear hmk
      go_wp2_with (at_builtin; refine wpList_append_own_none rfl _ _ 23 rfl w.heap.size 67 i0 3 Try.underlying23 hi0 (.slice (some ⟨w.heap.size, 0, none⟩) 0 12) 0 [] rfl hown'.out rfl ?_)
      go_meet
      exact ⟨_, _, rfl, hown', hbM'.out⟩
    | some ad =>
      have hN : Hid (∀ j u, (zs.flatMap zoneCells)[j]? = some u → wM.cell? (ad.add j) = some u) := Lib.hid fun j u hu => by
        have hj : 0 < zs.length := by have := (List.getElem?_eq_some_iff.1 hu).1; rw [hfl.out] at this; omega
        obtain ⟨b, off, e2, hb, hr⟩ := hA'.out hj
        obtain rfl : ad = ⟨b, off, none⟩ := Option.some.inj e2
        refine news_zones (fun i hi => ?_) j u hu
        have h9 : IsZone w b (off + i * 3) (zs.getD i Zone.zero) := hr i hi
        rw [getD_of zs Zone.zero i hi] at h9
        exact h9.stays (Stays.of hbM'.out) hb
      clear hmk
      go_wp2_with (at_builtin; refine wpList_append_own_at _ rfl _ _ 23 rfl w.heap.size 67 i0 (.agg #[.string ⟨#[]⟩, .string ⟨#[]⟩, .int .i64 0]) 3 40 Try.underlying23 hi0 hz0 hz1 hz2 rfl (by decide) (.slice (some ⟨w.heap.size, 0, none⟩) 0 (zs.length + 12)) 0 [] rfl hown'.out ad zs.length c (zs.flatMap zoneCells) rfl hfl.out hN.out hone.out sd1 sd2 hsM ?_; intro v' w1 hown1 hgr1 hnil1 hat1)
      obtain ⟨g, cap, rfl, hg1, hg2, hg3, hg4⟩ := ownsRow_some hown1 (fun e => by have := hnil1.1 e; cases this.1)
      have ho : Hid (w1.ownsRow w.heap.size 67 3 (.slice (some ⟨g, 0, none⟩) zs.length cap) zs.length (zs.flatMap zoneCells)) := Lib.hid (by simpa using hown1)
      have hb1 : Below w.heap.size w w1 := hbM'.out.grown hgr1 hsM (fun k e => by simp [Value.ownBlock] at e; omega)
      rw [Nat.zero_add]
      clear hown1 hgr1 hnil1 hat1
      go_meet
      exact ⟨_, _, rfl, ho, hb1⟩
  case rest =>
    obtain ⟨g, cap, rfl, ho, hb⟩ := hcut
    rename World => w1
    clear hmk hown' hbM' hsM hA' hn' sd1 sd2 hl3
    go_wp2_with fail
    go_loopw [3, 4] (fun ov iv wr => ∃ (j g cap : Nat), j ≤ 12 ∧ iv = .int .i64 j ∧ ov = .slice (some ⟨g, 0, none⟩) (zs.length + j) cap ∧ Below w.heap.size w wr ∧ Hid (wr.ownsRow w.heap.size 67 3 ov (zs.length + j) ((zs ++ (marks j).map markZ).flatMap zoneCells)))
      (fun _ iv _ => 12 - (intOf iv).toNat)
    case atStart => exact ⟨0, g, cap, by omega, rfl, rfl, hb, by simpa [marks] using ho⟩
    case round =>
      obtain ⟨j, g, cap, hj, rfl, rfl, hbr, hown⟩ := hrel
      rename World => wr
      by_cases hlt : j < 12
      · have n0 : (0 : Int) ≤ (j : Int) := by omega
        have n1 : (j : Int) < 12 := by omega
        have sd1 : zs.length + j + 1 ≤ maxLen := by unfold maxLen; omega
        have sd4 : (zs.length + j + 1) * 40 ≤ 140737488355328 := by omega
        have hs0 := hbr.size
        have hcells := Lib.hid (marks_zones zs j)
        go_wp2_with fail
        refine (markZone_any j _ hlt).mono ?_
        rintro e w2 ⟨rfl, hb2⟩
        have hownA := Lib.hid (ownsRow_keepAt hown.out (w' := w2) fun g e _ hl => hb2.block g hl)
        have hsz2 := hb2.size
        have hbw2 : Below w.heap.size w w2 := hbr.trans (hb2.mono hs0)
        go_wp2_with (at_builtin; refine wpList_append_lies _ rfl (.tmp 16) (.tmp 19) 23 rfl w.heap.size 67 i0 (.agg #[.string ⟨#[]⟩, .string ⟨#[]⟩, .int .i64 0]) 3 40 Try.underlying23 hi0 hz0 hz1 hz2 rfl (by decide) (.slice (some ⟨g, 0, none⟩) (zs.length + j) cap) (zs.length + j) _ rfl (by exact hownA.out.alloc _) ⟨w2.heap.size, 0, none⟩ 1 1 [.string ⟨#[]⟩, .string ⟨#[]⟩, .int .i64 (mk j)] rfl rfl (by exact World.news_of_block (cs := #[.string ⟨#[]⟩, .string ⟨#[]⟩, .int .i64 (mk j)]) (heap_alloc_new _ _)) (one3 rfl rfl rfl) Nat.one_pos sd1 sd4 (by simp; omega) (w2.heap.size + 1) (by simp) ?_; intro g2 cap2 w3 hown2 hgr2 hat2 hlt2)
        have hR : Hid (w3.ownsRow w.heap.size 67 3 (.slice (some ⟨g2, 0, none⟩) (zs.length + (j + 1)) cap2) (zs.length + (j + 1)) ((zs ++ (marks (j + 1)).map markZ).flatMap zoneCells)) := Lib.hid (by rw [hcells.out, ← Nat.add_assoc]; exact hown2)
        have hb3 : Below w.heap.size w w3 := (hbw2.alloc (by omega) _).grown hgr2 (by simp; omega) (fun k e => (hown.out.lt k e).1)
        rw [Nat.add_assoc]
        clear hown2 hgr2 hat2 hlt2
        go_roundw
        case rel => exact ⟨j + 1, g2, cap2, by omega, by go_num, rfl, hb3, hR⟩
        case measure => simp [intOf]; omega
      · obtain rfl : j = 12 := by omega
        obtain ⟨g', cap', e, hg1, hg2, hg3, hg4⟩ := ownsRow_some hown.out (fun e => by cases e)
        injection e with e1 _ e3
        injection e1 with e1
        injection e1 with e1
        subst e1 e3
        have i1 : (zs.length : Int) ≤ (cap : Int) := by omega
        have i2 : (cap : Int) ≤ 9223372036854775807 := by unfold maxLen at hg4; omega
        go_wp2
        go_ret
        refine ⟨_, rfl, lent_zones (n := zs.length + 12) ⟨by simpa [marks_len] using hown.out, fun z hz => ?_⟩, hbr⟩
        rcases List.mem_append.1 hz with hz | hz
        · exact hzin.out z hz
        · obtain ⟨j, _, rfl⟩ := List.mem_map.1 hz
          exact ⟨small_max (by show (0 : Nat) ≤ 1000000; omega), small_max (by show (0 : Nat) ≤ 1000000; omega)⟩
end Go.Proofs.Ythbnbfeolfkkaaa
