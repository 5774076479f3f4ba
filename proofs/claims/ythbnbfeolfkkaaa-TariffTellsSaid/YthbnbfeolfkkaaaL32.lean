/- The walks of few and of the reference's Right. -/
import Derived.Test.YthbnbfeolfkkaaaL30
import Derived.Lib.Strings
namespace Go.Proofs.Ythbnbfeolfkkaaa
open Go.RowKit

theorem tl_inj {a b : ByteArray} (h : a.toList = b.toList) : a = b := by
  rw [Lib.toList_data, Lib.toList_data] at h
  exact ByteArray.ext (Array.toList_inj.1 h)
theorem tl_ne {a b : ByteArray} (h : a ≠ b) : (a.toList == b.toList) = false := by
  cases e : a.toList == b.toList
  · rfl
  · exact absurd (tl_inj (by simpa using e)) h
theorem tl_nil {a : ByteArray} (h : a.toList.isEmpty = true) : a = ⟨#[]⟩ := by
  refine tl_inj ?_
  rw [List.isEmpty_iff.1 h, Lib.toList_data]
theorem tl_nn {a : ByteArray} (h : a.toList.isEmpty = false) : a ≠ ⟨#[]⟩ := by
  rintro rfl
  rw [Lib.toList_data] at h
  cases h
def FewRes (w : World) (rs : List Rate) (zs : List Zone) (e : Ending) (w' : World) : Prop := ∃ b, e = .returned (.bool b) ∧ (b = true → rs.length ≤ 30 ∧ zs.length ≤ 520 ∧ ∀ r ∈ rs, r.steps.length ≤ 30) ∧ Below w.heap.size w w'
set_option maxHeartbeats 1000000 in
theorem few_any (rv zv : Value) (rs : List Rate) (zs : List Zone) (w : World) (h : IsRates w rv rs) (hz : IsZones w zv zs) : Calls Try.prog 33 #[.agg #[rv, zv]] w (FewRes w rs zs) := by
  obtain ⟨A, c, rfl, hn, hc, hA⟩ := h
  obtain ⟨B, d, rfl, hn2, hd, hB⟩ := hz
  clear hB
  unfold maxLen at hc hd
  have hA' := Lib.hid hA
  clear hA
  have hW : Below w.heap.size w (w.alloc (.cells #[.slice A rs.length c, .slice B zs.length d] 25)) := (Below.refl _ _).alloc (Nat.le_refl _) _
  have hk := Lib.hid (Blk.new w 25 #[.slice A rs.length c, .slice B zs.length d])
  go_enter Try.func33, Try.ntmps33
  go_wp2
  go_loop [3] (fun iv => ∃ k : Nat, k ≤ rs.length ∧ k ≤ 30 ∧ iv = .int .i64 k ∧ Hid (∀ i, i < k → (rs.getD i Rate.zero).steps.length ≤ 30)) (fun iv => rs.length - (intOf iv).toNat)
  case atStart => exact ⟨0, by omega, by omega, rfl, fun _ h => absurd h (by omega)⟩
  case round =>
    obtain ⟨k, hk1, hk2, rfl, hrl⟩ := hrel
    have n0 : (0 : Int) ≤ (k : Int) := by omega
    by_cases hlt : k < rs.length
    · have n1 : (k : Int) < (rs.length : Int) := by omega
      by_cases h30 : k < 30
      · have n2 : (k : Int) < 30 := by omega
        obtain ⟨b, off, rfl, hb, hi⟩ := hA'.out (by omega)
        have hst := hi k hlt
        have hg := Lib.hid (show (rs.getD k Rate.zero).steps.length ≤ 30 → ∀ i, i < k + 1 → (rs.getD i Rate.zero).steps.length ≤ 30 from fun h i hi => by
          rcases Nat.lt_or_ge i k with h1 | h1
          · exact hrl.out i h1
          · rw [show i = k from by omega]; exact h)
        clear hi
        generalize rs.getD k Rate.zero = r at hst hg
        obtain ⟨rc, ss, rb⟩ := r
        obtain ⟨r0, ⟨sv, r1, A2, c2, rfl, hn3, hc2, hA2⟩, r2, -, -⟩ := hst
        simp only at r0 r1 r2 hn3 hg
        unfold maxLen at hc2
        clear hA2
        by_cases hs : ss.length ≤ 30
        · have q1 : decide (30 < (ss.length : Int)) = false := by simp; omega
          have hg2 := Lib.hid (hg.out hs)
          go_wp2
          go_round
          case rel => exact ⟨k + 1, by omega, by omega, by go_num, hg2⟩
          case measure => simp [intOf]; omega
        · have q1 : decide (30 < (ss.length : Int)) = true := by simp; omega
          go_wp2
          go_ret
          exact ⟨false, rfl, (fun h => by cases h), hW⟩
      · have n2 : decide ((k : Int) < 30) = false := by simp; omega
        have n3 : decide ((rs.length : Int) ≤ 30) = false := by simp; omega
        go_wp2
        go_ret
        exact ⟨false, rfl, (fun h => by cases h), hW⟩
    · have n1 : decide ((k : Int) < (rs.length : Int)) = false := by simp; omega
      have n3 : decide ((rs.length : Int) ≤ 30) = true := by simp; omega
      by_cases h5 : zs.length ≤ 520
      · have n4 : decide ((zs.length : Int) ≤ 520) = true := by simp; omega
        have hall := Lib.hid (show ∀ r ∈ rs, r.steps.length ≤ 30 from fun r hr => by
          obtain ⟨i, hi, rfl⟩ := List.getElem_of_mem hr
          have := hrl.out i (by omega)
          rwa [List.getD_eq_getElem?_getD, List.getElem?_eq_getElem hi] at this)
        go_wp2
        go_ret
        exact ⟨true, rfl, fun _ => ⟨by omega, h5, hall.out⟩, hW⟩
      · have n4 : decide ((zs.length : Int) ≤ 520) = false := by simp; omega
        go_wp2
        go_ret
        exact ⟨false, rfl, (fun h => by cases h), hW⟩
def pairOf (z : Zone) : ByteArray × ByteArray := (z.frm, z.dst)
set_option maxRecDepth 100000 in
set_option maxHeartbeats 4000000 in
theorem refRight_any (rv zv : Value) (rs : List Rate) (zs : List Zone) (w : World) (h : IsRates w rv rs) (hz : IsZones w zv zs) :
    Calls Try.prog 36 #[.agg #[rv, zv]] w fun e w' => e = .returned (.bool (right rs zs)) ∧ Below w.heap.size w w' := by
  have hh := Lib.hid h
  obtain ⟨A, c, rfl, hn, hc, hA⟩ := h
  obtain ⟨B, d, rfl, hn2, hd, hB⟩ := hz
  unfold maxLen at hc hd
  have hA' := Lib.hid hA
  have hB' := Lib.hid hB
  clear hA hB
  have hW : Below w.heap.size w (w.alloc (.cells #[.slice A rs.length c, .slice B zs.length d] 25)) := (Below.refl _ _).alloc (Nat.le_refl _) _
  have hk0 := Lib.hid (Blk.new w 25 #[.slice A rs.length c, .slice B zs.length d])
  go_enter Try.func36, Try.ntmps36
  go_wp2_with fail
  refine (refZones_any _ _ rs _ (hh.out.stays (Stays.of hW))).mono ?_
  rintro e w1 ⟨rfl, hb1⟩
  have hk := Lib.hid (hk0.out.below hb1 hk0.out.lt)
  have hbw1 := hW.trans (hb1.mono (by simp))
  have x0 := hk.out.cell 0
  have x1 := hk.out.cell 1
  have hl1 := hk.out.lt
  simp at x0 x1
  clear hb1 hW hk0 hh
  by_cases q1 : (1 : Int) ≤ (rs.length : Int) ∧ (rs.length : Int) ≤ 20
  case neg =>
    have hfin := Lib.hid (show right rs zs = false from by rw [right, if_neg (by unfold rightMany; omega)])
    have hq := Lib.hid q1
    clear q1
    generalize countZones rs = z at *
    go_wp2_with fail
    refine (within_no_any hq.out _).mono ?_
    rintro e w' ⟨rfl, rfl⟩
    go_wp2
    go_ret
    exact ⟨ret_bool hfin.out.symm, hbw1⟩
  case pos =>
  have hq1 := Lib.hid q1
  by_cases q2 : (1 : Int) ≤ (zs.length : Int) ∧ (zs.length : Int) ≤ 500
  case neg =>
    have hfin := Lib.hid (show right rs zs = false from by rw [right, if_neg (by unfold rightMany; omega)])
    have hq := Lib.hid q2
    clear q1 q2
    generalize countZones rs = z at *
    go_wp2_with fail
    refine (within_yes_any hq1.out.1 hq1.out.2 _).mono ?_
    rintro e w' ⟨rfl, rfl⟩
    go_wp2_with fail
    refine (within_no_any hq.out _).mono ?_
    rintro e w' ⟨rfl, rfl⟩
    go_wp2
    go_ret
    exact ⟨ret_bool hfin.out.symm, hbw1⟩
  case pos =>
  have hq2 := Lib.hid q2
  have hf1 := Lib.hid (show right rs zs = (if countZones rs < 1 ∨ 20 < countZones rs then false else if ratesOk (countZones rs) [] rs then rightRows zs (countZones rs) else false) from by rw [right, if_pos (by unfold rightMany; omega)])
  clear q1 q2
  generalize countZones rs = z at *
  by_cases q3 : (1 : Int) ≤ (z : Int) ∧ (z : Int) ≤ 20
  case neg =>
    have hfin := Lib.hid (show right rs zs = false from by rw [hf1.out, if_pos (by omega)])
    have hq := Lib.hid q3
    clear q3
    go_wp2_with fail
    refine (within_yes_any hq1.out.1 hq1.out.2 _).mono ?_
    rintro e w' ⟨rfl, rfl⟩
    go_wp2_with fail
    refine (within_yes_any hq2.out.1 hq2.out.2 _).mono ?_
    rintro e w' ⟨rfl, rfl⟩
    go_wp2_with fail
    refine (within_no_any hq.out _).mono ?_
    rintro e w' ⟨rfl, rfl⟩
    go_wp2
    go_ret
    exact ⟨ret_bool hfin.out.symm, hbw1⟩
  case pos =>
  have hq3 := Lib.hid q3
  have hf2 := Lib.hid (show right rs zs = if ratesOk z [] rs then rightRows zs z else false from by rw [hf1.out, if_neg (by omega)])
  clear q3 hf1
  go_wp2_with fail
  refine (within_yes_any hq1.out.1 hq1.out.2 _).mono ?_
  rintro e w' ⟨rfl, rfl⟩
  go_wp2_with fail
  refine (within_yes_any hq2.out.1 hq2.out.2 _).mono ?_
  rintro e w' ⟨rfl, rfl⟩
  go_wp2_with fail
  refine (within_yes_any hq3.out.1 hq3.out.2 _).mono ?_
  rintro e w' ⟨rfl, rfl⟩
  clear x0 x1
  go_wp2
  go_loopw [4] (fun iv wr => ∃ (k : Nat), k ≤ rs.length ∧ iv = .int .i64 k ∧ Below w.heap.size w wr ∧ Hid (Blk wr w.heap.size 25 #[.slice A rs.length c, .slice B zs.length d]) ∧ Hid (ratesOk z [] rs = ratesOk z (metL Rate.cls rs k) (rs.drop k)))
    (fun iv _ => rs.length - (intOf iv).toNat)
  case atStart => exact ⟨0, by omega, rfl, hbw1, hk, rfl⟩
  case round =>
    obtain ⟨k, hkl, rfl, hbw, hk2, hrl⟩ := hrel
    rename World => wr
    have n0 : (0 : Int) ≤ (k : Int) := by omega
    have x0 := hk2.out.cell 0
    have x1 := hk2.out.cell 1
    have hl2 := hk2.out.lt
    simp at x0 x1
    by_cases hlt : k < rs.length
    · have n1 : (k : Int) < (rs.length : Int) := by omega
      obtain ⟨b, off, rfl, hb, hi⟩ := hA'.out (by omega)
      have hst := hi k hlt
      have hdr := Lib.hid (drop_getD rs Rate.zero k hlt)
      have hms := Lib.hid (metL_succ Rate.cls rs Rate.zero k hlt)
      have hcl := Lib.hid (fun i (h : i < rs.length) => (hbw.cell (p := ⟨b, off + i * 3, none⟩) hb).trans (hi i h).1)
      have hmy := Lib.hid (fun j (h : j < k) => metL_yes Rate.cls rs Rate.zero k j h (by omega))
      have hmn := Lib.hid (fun a => metL_no Rate.cls rs Rate.zero k a)
      clear hi
      generalize hrk : rs.getD k Rate.zero = r at hst hdr hms
      have hrk' := Lib.hid hrk
      clear hrk
      obtain ⟨rc, ss, rb⟩ := r
      obtain ⟨r0, ⟨sv, r1, hsv⟩, r2, -, -⟩ := hst
      have hsv' := Lib.hid (hsv.stays (Stays.of hbw))
      obtain ⟨A2, c2, rfl, -, -, -⟩ := hsv
      simp only at r0 r1 r2
      replace r0 := (hbw.cell (p := ⟨b, off + k * 3, none⟩) hb).trans r0
      replace r1 := (hbw.cell (p := ⟨b, off + k * 3 + 1, none⟩) hb).trans r1
      replace r2 := (hbw.cell (p := ⟨b, off + k * 3 + 2, none⟩) hb).trans r2
      have hbr : b < wr.heap.size := Nat.lt_of_lt_of_le hb hbw.size
      go_wp2_with fail
      refine (refRate_any rc rb z _ ss _ hsv'.out).mono ?_
      rintro e w2 ⟨rfl, hb2⟩
      have hk3 := Lib.hid (hk2.out.below hb2 hl2)
      have y0 := hk3.out.cell 0
      simp at y0
      have v0 := (hb2.cell (p := ⟨b, off + k * 3, none⟩) hbr).trans r0
      have hend := hbw.trans (hb2.mono hbw.size)
      by_cases hrr : refRate ⟨rc, ss, rb⟩ z = true
      case neg =>
        have hrr' : refRate ⟨rc, ss, rb⟩ z = false := by simpa using hrr
        have hfin := Lib.hid (show right rs zs = false from by
          rw [hf2.out, hrl.out, hdr.out, ratesOk_no]
          · rfl
          · unfold refRate at hrr'
            simp only [Bool.and_eq_false_iff, decide_eq_false_iff_not] at hrr'
            rcases hrr' with h | h
            · exact .inl (Int.not_le.1 h)
            · exact .inr (.inr h))
        rw [hrr']
        go_wp2
        go_ret
        exact ⟨ret_bool hfin.out.symm, hend⟩
      case pos =>
      have hnb := Lib.hid (show memB rc (metL Rate.cls rs k) = false → ratesOk z [] rs = ratesOk z (metL Rate.cls rs (k + 1)) (rs.drop (k + 1)) from fun hm => by
        rw [hrl.out, hdr.out, ratesOk_yes, hms.out]
        unfold refRate at hrr
        simp only [Bool.and_eq_true, decide_eq_true_eq] at hrr
        rintro (h | h | h)
        · have := hrr.1
          simp only at this h
          omega
        · rw [hm] at h; cases h
        · rw [hrr.2] at h; cases h)
      have hyb := Lib.hid (show memB rc (metL Rate.cls rs k) = true → right rs zs = false from fun hm => by
        rw [hf2.out, hrl.out, hdr.out, ratesOk_no (.inr (.inl hm))]
        rfl)
      rw [hrr]
      clear hrr
      go_wp2
      go_loopw [5] (fun jv w3 => ∃ (j : Nat), j ≤ k ∧ jv = .int .i64 j ∧ Below w2.heap.size w2 w3 ∧ Hid (∀ i, i < j → (rs.getD i Rate.zero).cls ≠ rc))
        (fun jv _ => k - (intOf jv).toNat)
      case atStart => exact ⟨0, by omega, rfl, Below.refl _ _, fun _ h => absurd h (by omega)⟩
      case round =>
        obtain ⟨j, hj, rfl, hb3, hne⟩ := hrel
        rename World => w3
        have j0 : (0 : Int) ≤ (j : Int) := by omega
        have s2 := hb2.size
        have s3 := hb3.size
        have u0 := (hb3.cell (p := ⟨w.heap.size, 0, none⟩) (by show w.heap.size < _; omega)).trans y0
        have u1 := (hb3.cell (p := ⟨b, off + k * 3, none⟩) (by show b < _; omega)).trans v0
        have hend2 := hend.trans (hb3.mono hend.size)
        by_cases hlj : j < k
        · have j1 : (j : Int) < (k : Int) := by omega
          have j2 : (j : Int) < (rs.length : Int) := by omega
          have u2 := ((hb3.cell (p := ⟨b, off + j * 3, none⟩) (by show b < _; omega)).trans ((hb2.cell (p := ⟨b, off + j * 3, none⟩) hbr).trans (hcl.out j (by omega))))
          have hy := Lib.hid (hmy.out j hlj)
          have hstep := Lib.hid (show (rs.getD j Rate.zero).cls ≠ rc → ∀ i, i < j + 1 → (rs.getD i Rate.zero).cls ≠ rc from fun h i hi => by
            rcases Nat.lt_or_ge i j with h1 | h1
            · exact hne.out i h1
            · rw [show i = j from by omega]; exact h)
          generalize (rs.getD j Rate.zero).cls = x at u2 hy hstep
          by_cases hx : x = rc
          · subst hx
            have hfin := Lib.hid (hyb.out (memB_iff.2 hy.out))
            go_wp2
            go_quiet (fail)
            go_wp2
            go_ret
            exact ⟨ret_bool hfin.out.symm, below_n hend2 _⟩
          · have hx' : (x == rc) = false := by simpa using hx
            have hs := Lib.hid (hstep.out hx)
            clear hx
            go_wp2
            go_quiet (fail)
            go_wp2
            go_roundw
            case rel => exact ⟨j + 1, by omega, by go_num, below_n hb3 _, hs⟩
            case measure => simp [intOf]; omega
        · obtain rfl : j = k := by omega
          have hfin := Lib.hid (hnb.out (memB_false (hmn.out rc hne.out)))
          have hk4 := Lib.hid (hk3.out.below hb3 (by omega))
          go_wp2
          go_roundw
          case rel => exact ⟨j + 1, by omega, by go_num, hend2, hk4, hfin⟩
          case measure => simp [intOf]; omega
    · have hf3 := Lib.hid (show right rs zs = rowsOk z [] zs from by
        rw [hf2.out, hrl.out, List.drop_of_length_le (by omega), ratesOk, if_pos rfl]
        rfl)
      clear hrl hf2
      go_wp2
      clear x0 x1
      go_loopw [6, 7] (fun av iv w2 => ∃ (m : Nat) (al : Bool), m ≤ zs.length ∧ av = .bool al ∧ iv = .int .i64 m ∧ Below w.heap.size w w2 ∧ Hid (Blk w2 w.heap.size 25 #[.slice A rs.length c, .slice B zs.length d]) ∧ Hid (al = memB (⟨#[]⟩, ⟨#[]⟩) (metL pairOf zs m)) ∧ Hid (rowsOk z [] zs = rowsOk z (metL pairOf zs m) (zs.drop m)))
        (fun _ iv _ => zs.length - (intOf iv).toNat)
      case atStart => exact ⟨0, false, by omega, rfl, rfl, hbw, hk2, Lib.hid (by rw [metL_zero]; rfl), Lib.hid (by rw [metL_zero]; rfl)⟩
      case round =>
        obtain ⟨m, al, hm, rfl, rfl, hb2, hk3, hal, hrw⟩ := hrel
        rename World => w2
        have n0 : (0 : Int) ≤ (m : Int) := by omega
        have x1 := hk3.out.cell 1
        have hl3 := hk3.out.lt
        simp at x1
        by_cases hlm : m < zs.length
        · have n1 : (m : Int) < (zs.length : Int) := by omega
          obtain ⟨b, off, rfl, hb, hi⟩ := hB'.out (by omega)
          have hst := (hi m hlm).stays (Stays.of hb2) hb
          have hdr := Lib.hid (drop_getD zs Zone.zero m hlm)
          have hms := Lib.hid (metL_succ pairOf zs Zone.zero m hlm)
          have hcl := Lib.hid (fun i (h : i < zs.length) => And.intro ((hb2.cell (p := ⟨b, off + i * 3, none⟩) hb).trans (hi i h).1) ((hb2.cell (p := ⟨b, off + i * 3 + 1, none⟩) hb).trans (hi i h).2.1))
          have hmy := Lib.hid (fun j (h : j < m) => metL_yes pairOf zs Zone.zero m j h (by omega))
          have hmn := Lib.hid (fun a => metL_no pairOf zs Zone.zero m a)
          have hbr : b < w2.heap.size := Nat.lt_of_lt_of_le hb hb2.size
          clear hi
          generalize hzm : zs.getD m Zone.zero = r at hst hdr hms
          clear hzm
          obtain ⟨f, t, zn⟩ := r
          obtain ⟨g0, g1, g2, hfs, hts⟩ := hst
          simp only at g0 g1 g2 hfs hts
          have hmt : memB (⟨#[]⟩, ⟨#[]⟩) (metL pairOf zs (m + 1)) = (decide (((f, t) : ByteArray × ByteArray) = (⟨#[]⟩, ⟨#[]⟩)) || al) := by
            rw [hms.out, hal.out]
            simp [memB, pairOf]
          have hmt' := Lib.hid hmt
          clear hmt
          have hj1 := Lib.hid (hk3.out.alloc (.cells #[.string f, .string t, .int .i64 zn] 67))
          have hj2 := Lib.hid (Blk.new w2 67 #[.string f, .string t, .int .i64 zn])
          have hup := Lib.hid ((Below.refl w2.heap.size w2).alloc (Nat.le_refl _) (.cells #[.string f, .string t, .int .i64 zn] 67))
          have hend : Below w.heap.size w (w2.alloc (.cells #[.string f, .string t, .int .i64 zn] 67)) := hb2.alloc hb2.size _
          go_upto_region 19 with fail
          generalize w2.alloc (.cells #[.string f, .string t, .int .i64 zn] 67) = W at *
          have z0 := hj2.out.cell 0
          have z1 := hj2.out.cell 1
          have z2 := hj2.out.cell 2
          have x1 := hj1.out.cell 1
          simp at z0 z1 z2 x1
          have hl4 := hj2.out.lt
          by_cases hp1 : isPart f = true
          case neg =>
            have hp1' : isPart f = false := by simpa using hp1
            have hfin := Lib.hid (show right rs zs = false from by rw [hf3.out, hrw.out, hdr.out, rowsOk_no (.inl hp1')])
            go_wp2_with fail
            refine (part_any _ _ hfs).mono ?_
            rintro e w' ⟨rfl, rfl⟩
            rw [hp1']
            go_wp2
            go_ret
            exact ⟨ret_bool hfin.out.symm, hend⟩
          case pos =>
          by_cases hp2 : isPart t = true
          case neg =>
            have hp2' : isPart t = false := by simpa using hp2
            have hfin := Lib.hid (show right rs zs = false from by rw [hf3.out, hrw.out, hdr.out, rowsOk_no (.inr (.inl hp2'))])
            go_wp2_with fail
            refine (part_any _ _ hfs).mono ?_
            rintro e w' ⟨rfl, rfl⟩
            rw [hp1]
            go_wp2_with fail
            refine (part_any _ _ hts).mono ?_
            rintro e w' ⟨rfl, rfl⟩
            rw [hp2']
            go_wp2
            go_ret
            exact ⟨ret_bool hfin.out.symm, hend⟩
          case pos =>
          by_cases hp3 : (1 : Int) ≤ zn ∧ zn ≤ (z : Int)
          case neg =>
            have hfin := Lib.hid (show right rs zs = false from by
              rw [hf3.out, hrw.out, hdr.out, rowsOk_no]
              by_cases h1 : zn < 1
              · exact .inr (.inr (.inl h1))
              · exact .inr (.inr (.inr (.inl (by show (z : Int) < zn; omega)))))
            have hq := Lib.hid hp3
            clear hp3
            go_wp2_with fail
            refine (part_any _ _ hfs).mono ?_
            rintro e w' ⟨rfl, rfl⟩
            rw [hp1]
            go_wp2_with fail
            refine (part_any _ _ hts).mono ?_
            rintro e w' ⟨rfl, rfl⟩
            rw [hp2]
            go_wp2_with fail
            refine (within_no_any hq.out _).mono ?_
            rintro e w' ⟨rfl, rfl⟩
            go_wp2
            go_ret
            exact ⟨ret_bool hfin.out.symm, hend⟩
          case pos =>
          have hnb := Lib.hid (show memB (f, t) (metL pairOf zs m) = false → rowsOk z [] zs = rowsOk z (metL pairOf zs (m + 1)) (zs.drop (m + 1)) from fun hmm => by
            rw [hrw.out, hdr.out, rowsOk_yes, hms.out]
            · rfl
            · rintro (h | h | h | h | h)
              · rw [hp1] at h; cases h
              · rw [hp2] at h; cases h
              · exact absurd hp3.1 (Int.not_le.2 h)
              · exact absurd hp3.2 (Int.not_le.2 h)
              · rw [hmm] at h; cases h)
          have hyb := Lib.hid (show memB (f, t) (metL pairOf zs m) = true → right rs zs = false from fun hmm => by
            rw [hf3.out, hrw.out, hdr.out, rowsOk_no (.inr (.inr (.inr (.inr hmm))))])
          have hq := Lib.hid hp3
          clear hp3
          go_wp2_with fail
          refine (part_any _ _ hfs).mono ?_
          rintro e w' ⟨rfl, rfl⟩
          rw [hp1]
          go_wp2_with fail
          refine (part_any _ _ hts).mono ?_
          rintro e w' ⟨rfl, rfl⟩
          rw [hp2]
          go_wp2_with fail
          refine (within_yes_any hq.out.1 hq.out.2 _).mono ?_
          rintro e w' ⟨rfl, rfl⟩
          rename World => W
          go_wp2
          go_loopw [9] (fun jv w3 => ∃ (j : Nat), j ≤ m ∧ jv = .int .i64 j ∧ Below W.heap.size W w3 ∧ Hid (∀ i, i < j → pairOf (zs.getD i Zone.zero) ≠ (f, t)))
            (fun jv _ => m - (intOf jv).toNat)
          case atStart => exact ⟨0, by omega, rfl, Below.refl _ _, fun _ h => absurd h (by omega)⟩
          case round =>
            obtain ⟨j, hj, rfl, hb3, hne⟩ := hrel
            rename World => w3
            have j0 : (0 : Int) ≤ (j : Int) := by omega
            have s3 := hb3.size
            have sW := hup.out.size
            have u1 := (hb3.cell (p := ⟨w.heap.size, 1, none⟩) (by show w.heap.size < _; omega)).trans x1
            have y0 := (hb3.cell (p := ⟨w2.heap.size, 0, none⟩) hl4).trans z0
            have y1 := (hb3.cell (p := ⟨w2.heap.size, 1, none⟩) hl4).trans z1
            have hend2 := hend.trans (hb3.mono hend.size)
            by_cases hlj : j < m
            · have j1 : (j : Int) < (m : Int) := by omega
              have j2 : (j : Int) < (zs.length : Int) := by omega
              have hc2 := hcl.out j (by omega)
              have p0 := (hb3.cell (p := ⟨b, off + j * 3, none⟩) (by show b < _; omega)).trans ((hup.out.cell (p := ⟨b, off + j * 3, none⟩) hbr).trans hc2.1)
              have p1 := (hb3.cell (p := ⟨b, off + j * 3 + 1, none⟩) (by show b < _; omega)).trans ((hup.out.cell (p := ⟨b, off + j * 3 + 1, none⟩) hbr).trans hc2.2)
              have hy := Lib.hid (hmy.out j hlj)
              have hstep := Lib.hid (show pairOf (zs.getD j Zone.zero) ≠ (f, t) → ∀ i, i < j + 1 → pairOf (zs.getD i Zone.zero) ≠ (f, t) from fun h i hi => by
                rcases Nat.lt_or_ge i j with h1 | h1
                · exact hne.out i h1
                · rw [show i = j from by omega]; exact h)
              unfold pairOf at hy hstep
              clear hc2
              generalize (zs.getD j Zone.zero).frm = pf at p0 hy hstep
              generalize (zs.getD j Zone.zero).dst = pt at p1 hy hstep
              by_cases e1 : pf = f
              · subst e1
                have b1 : (pf.toList == pf.toList) = true := by simp
                by_cases e2 : pt = t
                · subst e2
                  have b2 : (pt.toList == pt.toList) = true := by simp
                  have hfin := Lib.hid (hyb.out (memB_iff.2 hy.out))
                  go_wp2
                  go_quiet (fail)
                  go_wp2
                  go_ret
                  exact ⟨ret_bool hfin.out.symm, below_n hend2 _⟩
                · have b2 := tl_ne e2
                  have hs := Lib.hid (hstep.out (fun e => e2 (Prod.mk.inj e).2))
                  clear e2
                  go_wp2
                  go_quiet (fail)
                  go_wp2
                  go_roundw
                  case rel => exact ⟨j + 1, by omega, by go_num, below_n hb3 _, hs⟩
                  case measure => simp [intOf]; omega
              · have b1 := tl_ne e1
                have hs := Lib.hid (hstep.out (fun e => e1 (Prod.mk.inj e).1))
                clear e1
                go_wp2
                go_quiet (fail)
                go_wp2
                go_roundw
                case rel => exact ⟨j + 1, by omega, by go_num, below_n hb3 _, hs⟩
                case measure => simp [intOf]; omega
            · obtain rfl : j = m := by omega
              have hfin := Lib.hid (hnb.out (memB_false (hmn.out (f, t) hne.out)))
              have hk4 := Lib.hid (hj1.out.below hb3 (by omega))
              cases al with
              | true =>
                have hm2 := Lib.hid (show true = memB (⟨#[]⟩, ⟨#[]⟩) (metL pairOf zs (j + 1)) from by rw [hmt'.out]; simp)
                go_wp2
                go_roundw
                case rel => exact ⟨j + 1, true, by omega, rfl, by go_num, hend2, hk4, hm2, hfin⟩
                case measure => simp [intOf]; omega
              | false =>
                by_cases e1 : f.toList.isEmpty = true
                · by_cases e2 : t.toList.isEmpty = true
                  · have hm2 := Lib.hid (show true = memB (⟨#[]⟩, ⟨#[]⟩) (metL pairOf zs (j + 1)) from by rw [hmt'.out, tl_nil e1, tl_nil e2]; simp)
                    go_wp2
                    go_roundw
                    case rel => exact ⟨j + 1, true, by omega, rfl, by go_num, hend2, hk4, hm2, hfin⟩
                    case measure => simp [intOf]; omega
                  · have e2' : t.toList.isEmpty = false := by simpa using e2
                    have hm2 := Lib.hid (show false = memB (⟨#[]⟩, ⟨#[]⟩) (metL pairOf zs (j + 1)) from by
                      rw [hmt'.out]
                      simp only [Bool.or_false]
                      exact (decide_eq_false fun e => tl_nn e2' (Prod.mk.inj e).2).symm)
                    clear e2
                    go_wp2
                    go_roundw
                    case rel => exact ⟨j + 1, false, by omega, rfl, by go_num, hend2, hk4, hm2, hfin⟩
                    case measure => simp [intOf]; omega
                · have e1' : f.toList.isEmpty = false := by simpa using e1
                  have hm2 := Lib.hid (show false = memB (⟨#[]⟩, ⟨#[]⟩) (metL pairOf zs (j + 1)) from by
                    rw [hmt'.out]
                    simp only [Bool.or_false]
                    exact (decide_eq_false fun e => tl_nn e1' (Prod.mk.inj e).1).symm)
                  clear e1
                  go_wp2
                  go_roundw
                  case rel => exact ⟨j + 1, false, by omega, rfl, by go_num, hend2, hk4, hm2, hfin⟩
                  case measure => simp [intOf]; omega
        · have hfin := Lib.hid (show right rs zs = al from by
            rw [hf3.out, hrw.out, List.drop_of_length_le (by omega), hal.out]
            rfl)
          go_wp2
          go_ret
          exact ⟨ret_bool hfin.out.symm, hb2⟩
end Go.Proofs.Ythbnbfeolfkkaaa
