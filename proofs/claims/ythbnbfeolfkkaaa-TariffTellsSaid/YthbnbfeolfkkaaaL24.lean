/- The walks of mark, LentInts, LentStep, LentSteps, LentRate, LentRates, LentZones, LentTariff. -/
import Derived.Test.YthbnbfeolfkkaaaL23
import Derived.Laws.MakeOwn
import Derived.Laws.AppendOwnNone
import Derived.Deep.DeepCutAuto
import Derived.Deep.CutBlock
import Derived.Deep.OwnRows
namespace Go.Proofs.Ythbnbfeolfkkaaa
open Go.RowKit Go.Maps
attribute [local go_sem ↓] Go.wp_at_zero Go.wp_at_succ

/-- a slice that came in: nil has no room -/
def NilOk (v : Value) : Prop := ∀ n c, v = .slice none n c → c = 0
theorem mark_any (j : Nat) (w : World) (hj : j < 12) : Calls Try.prog 89 #[.int .i64 1, .int .i64 (j : Int)] w fun e w' => e = .returned (.int .i64 (mk j)) ∧ w' = w := by
  have h0 : (0 : Int) ≤ (j : Int) := by omega
  have h1 : (j : Int) < 12 := by omega
  go_enter Try.func89, Try.ntmps89
  go_wp2
  go_ret
  exact ⟨rfl, rfl⟩
theorem news_ints {w : World} {b off : Nat} {xs : List Int} (hR : ∀ i, i < xs.length → w.cell? ⟨b, off + i, none⟩ = some (.int .i64 (xs.getD i 0))) : ∀ j u, (xs.flatMap intCells)[j]? = some u → w.cell? ((⟨b, off, none⟩ : Addr).add j) = some u :=
  news_of_cells (k := 1) (by omega) (fun _ => rfl) fun i hi j hj => by
    obtain rfl : j = 0 := by omega
    have h1 := hR i hi
    rw [getD_of xs 0 i hi] at h1
    simpa [intCells] using h1
theorem ownsRow_some {w : World} {B : Nat} {E : TypeId} {k : Nat} {v : Value} {n : Nat} {xs : List Value} (h : w.ownsRow B E k v n xs) (hn : v ≠ .slice none 0 0) : ∃ g cap, v = .slice (some ⟨g, 0, none⟩) n cap ∧ B ≤ g ∧ g < w.heap.size ∧ n ≤ cap ∧ cap ≤ maxLen := by
  rcases h.2 with ⟨h0, _⟩ | ⟨g, cap, cur, e, hb, hg, hnc, hcm, _⟩
  · exact absurd h0 hn
  · exact ⟨g, cap, e, hb, (Array.getElem?_eq_some_iff.1 hg).1, hnc, hcm⟩
theorem marks_ints (xs : List Int) (j : Nat) : (xs ++ (marks (j + 1)).map mk).flatMap intCells = (xs ++ (marks j).map mk).flatMap intCells ++ [.int .i64 (mk j)] := by
  rw [marks_succ]
  simp [intCells]
def IntsLent (w : World) (xs : List Int) (e : Ending) (w' : World) : Prop := ∃ v, e = .returned v ∧ LtInts (fun b => w.heap.size ≤ b) w' v xs ∧ Below w.heap.size w w'
set_option maxHeartbeats 1000000 in
theorem lentInts_any (v : Value) (xs : List Int) (w : World) (h : IsInts w v xs) (hn : NilOk v) (hl : xs.length * 8 ≤ 140737488351232) : Calls Try.prog 105 #[v] w (IntsLent w xs) := by
  obtain ⟨A, c, rfl, _, _, hA⟩ := h
  obtain ⟨i0, hi0, hz0, hz1, hz2⟩ := info_parts int_info3
  obtain ⟨wM, hmk, hownM, hgrM⟩ := run_make_own (P := Try.prog) w w.heap.size 38 3 i0 _ 1 Try.underlying38 hi0 hz0 hz1 .i64 .i64 (xs.length + 12) (by rw [hz2]; omega) (by unfold maxLen; omega) (Nat.le_refl _)
  rw [show ((xs.length + 12 : Nat) : Int) = (xs.length : Int) + 12 from by omega] at hmk
  have hbM : Below w.heap.size w wM := (Below.refl _ _).grown hgrM (Nat.le_refl _) (fun _ e => by cases e)
  have hl2 : xs.length ≤ 17592186043904 := by omega
  have hl3 : (xs.length : Int) ≤ 17592186043904 := by omega
  have sd1 : 0 + xs.length ≤ maxLen := by unfold maxLen; omega
  have sd2 : (0 + xs.length) * 8 ≤ 140737488355328 := by omega
  have hfl := Lib.hid (len_flat (cells := intCells) (k := 1) (fun _ => rfl) xs)
  have hone := Lib.hid (oneInts xs)
  have hown' := Lib.hid hownM
  have hbM' := Lib.hid hbM
  have hsM : w.heap.size ≤ wM.heap.size := hbM.size
  have hA' := Lib.hid hA
  have hn' := Lib.hid hn
  clear hA hownM hgrM hbM hn
  go_enter Try.func105, Try.ntmps105
  go_upto_region 2 with fail
  go_cut [3] (fun s3 wx => ∃ g cap, s3 = .slice (some ⟨g, 0, none⟩) xs.length cap ∧ Hid (wx.ownsRow w.heap.size 3 1 s3 xs.length (xs.flatMap intCells)) ∧ Below w.heap.size w wx)
  case first =>
    cases A with
    | none =>
      obtain rfl : c = 0 := hn'.out _ _ rfl
      have hx0 : xs = [] := by
        rcases Nat.eq_zero_or_pos xs.length with h | h
        · exact List.eq_nil_of_length_eq_zero h
        · obtain ⟨b, off, e2, _⟩ := hA'.out h
          cases e2
      subst hx0
      clear hmk
      go_wp2_with (at_builtin; refine wpList_append_own_none rfl _ _ 38 rfl w.heap.size 3 i0 1 Try.underlying38 hi0 (.slice (some ⟨w.heap.size, 0, none⟩) 0 12) 0 [] rfl hown'.out rfl ?_)
      go_meet
      exact ⟨_, _, rfl, hown', hbM'.out⟩
    | some ad =>
      have hN : Hid (∀ j u, (xs.flatMap intCells)[j]? = some u → wM.cell? (ad.add j) = some u) := Lib.hid fun j u hu => by
        have hj : j < xs.length := by have := (List.getElem?_eq_some_iff.1 hu).1; rw [hfl.out] at this; omega
        obtain ⟨b, off, e2, hb, hr⟩ := hA'.out (by omega)
        obtain rfl : ad = ⟨b, off, none⟩ := Option.some.inj e2
        exact news_ints (fun i hi => (hbM'.out.cell hb).trans (hr i hi)) j u hu
      clear hmk
      go_wp2_with (at_builtin; refine wpList_append_own_at _ rfl _ _ 38 rfl w.heap.size 3 i0 (.int .i64 0) 1 8 Try.underlying38 hi0 hz0 hz1 hz2 rfl (by decide) (.slice (some ⟨w.heap.size, 0, none⟩) 0 (xs.length + 12)) 0 [] rfl hown'.out ad xs.length c (xs.flatMap intCells) rfl hfl.out hN.out hone.out sd1 sd2 hsM ?_; intro v' w1 hown1 hgr1 hnil1 hat1)
      obtain ⟨g, cap, rfl, hg1, hg2, hg3, hg4⟩ := ownsRow_some hown1 (fun e => by have := hnil1.1 e; cases this.1)
      have ho : Hid (w1.ownsRow w.heap.size 3 1 (.slice (some ⟨g, 0, none⟩) xs.length cap) xs.length (xs.flatMap intCells)) := Lib.hid (by simpa using hown1)
      have hb1 : Below w.heap.size w w1 := hbM'.out.grown hgr1 hsM (fun k e => by simp [Value.ownBlock] at e; omega)
      rw [Nat.zero_add]
      clear hown1 hgr1 hnil1 hat1
      go_meet
      exact ⟨_, _, rfl, ho, hb1⟩
  case rest =>
    obtain ⟨g, cap, rfl, ho, hb⟩ := hcut
    rename World => w1
    have hL := Lib.hid hl2
    clear hmk hown' hbM' hsM hA' hn' sd1 sd2 hl hl2 hl3
    go_wp2_with fail
    go_loopw [3, 4] (fun ov iv wr => ∃ (j g cap : Nat), j ≤ 12 ∧ iv = .int .i64 j ∧ ov = .slice (some ⟨g, 0, none⟩) (xs.length + j) cap ∧ Below w.heap.size w wr ∧ Hid (wr.ownsRow w.heap.size 3 1 ov (xs.length + j) ((xs ++ (marks j).map mk).flatMap intCells)))
      (fun _ iv _ => 12 - (intOf iv).toNat)
    case atStart => exact ⟨0, g, cap, by omega, rfl, rfl, hb, by simpa [marks] using ho⟩
    case round =>
      obtain ⟨j, g, cap, hj, rfl, rfl, hbr, hown⟩ := hrel
      by_cases hlt : j < 12
      · have n0 : (0 : Int) ≤ (j : Int) := by omega
        have n1 : (j : Int) < 12 := by omega
        have sd1 : xs.length + j + 1 ≤ maxLen := by have := hL.out; unfold maxLen; omega
        have sd4 : Hid ((xs.length + j + 1) * 8 ≤ 140737488355328) := Lib.hid (by have := hL.out; omega)
        have hs0 := hbr.size
        have hcells := Lib.hid (marks_ints xs j)
        go_wp2_with fail
        refine (mark_any j _ hlt).mono ?_
        rintro e w2 ⟨rfl, rfl⟩
        go_wp2_with (at_builtin; refine wpList_append_lies _ rfl (.tmp 16) (.tmp 19) 38 rfl w.heap.size 3 i0 (.int .i64 0) 1 8 Try.underlying38 hi0 hz0 hz1 hz2 rfl (by decide) (.slice (some ⟨g, 0, none⟩) (xs.length + j) cap) (xs.length + j) _ rfl (by exact hown.out.alloc _) ⟨w2.heap.size, 0, none⟩ 1 1 [.int .i64 (mk j)] rfl rfl (by exact World.news_of_block (cs := #[.int .i64 (mk j)]) (heap_alloc_new _ _)) (by intro u hu; rw [List.mem_singleton.1 hu]; rfl) Nat.one_pos sd1 sd4.out (by simp; omega) (w2.heap.size + 1) (by simp) ?_; intro g2 cap2 w3 hown2 hgr2 hat2 hlt2)
        have hR : Hid (w3.ownsRow w.heap.size 3 1 (.slice (some ⟨g2, 0, none⟩) (xs.length + (j + 1)) cap2) (xs.length + (j + 1)) ((xs ++ (marks (j + 1)).map mk).flatMap intCells)) := Lib.hid (by rw [hcells.out, ← Nat.add_assoc]; exact hown2)
        have hb3 : Below w.heap.size w w3 := (hbr.alloc hs0 _).grown hgr2 (by simp; omega) (fun k e => (hown.out.lt k e).1)
        rw [Nat.add_assoc]
        clear hown2 hgr2 hat2 hlt2
        go_roundw
        case rel => exact ⟨j + 1, g2, cap2, by omega, by go_num, rfl, hb3, hR⟩
        case measure => simp [intOf]; omega
      · obtain rfl : j = 12 := by omega
        obtain ⟨g', cap', e, hg1, hg2, hg3, hg4⟩ := ownsRow_some hown.out (fun e => by cases e)
        injection e with e1 _ e3
        injection e1 with e1
        injection e1 with e1
        subst e1 e3
        have i1 : (xs.length : Int) ≤ (cap : Int) := by omega
        have i2 : (cap : Int) ≤ 9223372036854775807 := by unfold maxLen at hg4; omega
        go_wp2
        go_ret
        exact ⟨_, rfl, lent_ints (n := xs.length + 12) ⟨by simpa [marks_len] using hown.out, fun _ _ => trivial⟩, hbr⟩
end Go.Proofs.Ythbnbfeolfkkaaa
