/- The walks of the reference's zone and price. -/
import Derived.Test.YthbnbfeolfkkaaaL30
import Derived.Deep.RegionHeld3
import Derived.Deep.DeepCutAuto
import Derived.Deep.CutBlock
namespace Go.Proofs.Ythbnbfeolfkkaaa
open Go.RowKit

set_option maxHeartbeats 2000000 in
theorem refZone_any (f t : ByteArray) (rv zv : Value) (rs : List Rate) (zs : List Zone) (w : World) (hr : IsRates w rv rs) (h : IsZones w zv zs) (hpos : ∀ r ∈ zs, 1 ≤ r.zone) (hfs : f.size ≤ maxLen) (hts : t.size ≤ maxLen) :
    Calls Try.prog 56 #[.agg #[rv, zv], .string f, .string t] w fun e w' => e = .returned (.int .i64 (zoneOf zs f t)) ∧ Below w.heap.size w w' := by
  obtain ⟨A0, c0, rfl, _, _, hA0⟩ := hr
  clear hA0
  obtain ⟨A, c, rfl, hn, hc, hA⟩ := h
  have hc' : c ≤ 9223372036854775807 := hc
  have hA' := Lib.hid hA
  have hpos' := Lib.hid hpos
  clear hA hpos
  go_enter Try.func56, Try.ntmps56
  go_wp2
  go_loopw [8, 9] (fun sv iv wr => ∃ (k : Nat) (bf bt : ByteArray) (bz : Int) (sm : Bool), k ≤ zs.length ∧ iv = .int .i64 k ∧ sv = .bool sm ∧ Hid (sm = decide (bz ≠ 0)) ∧ Hid (bestZ f t zs k = ⟨bf, bt, bz⟩) ∧ bf.size ≤ maxLen ∧ bt.size ≤ maxLen ∧ Below w.heap.size w wr ∧ Hid (Blk wr w.heap.size 25 #[.slice A0 rs.length c0, .slice A zs.length c]) ∧ Hid (Blk wr (w.heap.size + 1) 67 #[.string bf, .string bt, .int .i64 bz]))
    (fun _ iv _ => zs.length - (intOf iv).toNat)
  case atStart => exact ⟨0, _, _, _, false, by omega, rfl, rfl, Lib.hid (by simp), Lib.hid (bestZ_zero f t zs), Nat.zero_le _, Nat.zero_le _, ((Below.refl _ _).alloc (Nat.le_refl _) _).alloc (by simp) _, Lib.hid ((Blk.new _ _ _).alloc _), Lib.hid (Blk.new_at _ _ _ _ (by simp))⟩
  case round =>
    obtain ⟨k, bf, bt, bz, sm, hk, rfl, rfl, hsm, hbest, hbf, hbt, hbw, hk1, hk2⟩ := hrel
    rename World => wr
    have n0 : (0 : Int) ≤ (k : Int) := by omega
    have hl2 := hk2.out.lt
    have x1 := hk1.out.cell 1
    simp at x1
    by_cases hlt : k < zs.length
    · have n1 : (k : Int) < (zs.length : Int) := by omega
      obtain ⟨b, off, rfl, hb, hi⟩ := hA'.out (by omega)
      have hst := (hi k hlt).stays (Stays.of hbw) hb
      have hsuc := Lib.hid (bestZ_succ f t zs k hlt)
      have hzp : 1 ≤ (zs.getD k Zone.zero).zone := hpos'.out _ (by rw [List.getD_eq_getElem?_getD, List.getElem?_eq_getElem hlt]; exact List.getElem_mem hlt)
      clear hi
      generalize zs.getD k Zone.zero = r at hst hsuc hzp
      obtain ⟨rf, rt, zn⟩ := r
      obtain ⟨hf, ht, hzn, hrfs, hrts⟩ := hst
      simp only at hf ht hzn hrfs hrts hzp
      have hrf' : rf.size ≤ 9223372036854775807 := hrfs
      have hrt' : rt.size ≤ 9223372036854775807 := hrts
      have hbf' : bf.size ≤ 9223372036854775807 := hbf
      have hbt' : bt.size ≤ 9223372036854775807 := hbt
      have j1 := Lib.hid (hk1.out.alloc (.cells #[.string rf, .string rt, .int .i64 zn] 67))
      have j2 := Lib.hid (hk2.out.alloc (.cells #[.string rf, .string rt, .int .i64 zn] 67))
      have j3 := Lib.hid (Blk.new wr 67 #[.string rf, .string rt, .int .i64 zn])
      have hend : Below w.heap.size w (wr.alloc (.cells #[.string rf, .string rt, .int .i64 zn] 67)) := hbw.alloc hbw.size _
      rw [hbest.out] at hsuc
      go_upto_region 7 with fail
      generalize wr.alloc (.cells #[.string rf, .string rt, .int .i64 zn] 67) = W at *
      have z0 := j3.out.cell 0
      have z1 := j3.out.cell 1
      have z2 := j3.out.cell 2
      have y0 := j2.out.cell 0
      have y1 := j2.out.cell 1
      have y2 := j2.out.cell 2
      have g0 := j2.out.frozen 0
      have g1 := j2.out.frozen 1
      have g2 := j2.out.frozen 2
      simp at z0 z1 z2 y0 y1 y2
      have hl3 := j3.out.lt
      by_cases hp1 : hasPre f rf = true
      case neg =>
        have hp1' : hasPre f rf = false := by simpa using hp1
        have hs2 := Lib.hid (show bestZ f t zs (k + 1) = ⟨bf, bt, bz⟩ from by rw [hsuc.out, zoneStep, if_neg (by simp [hp1'])])
        go_wp2_with fail
        refine (begins_any _ _ _ hfs hrfs).mono ?_
        rintro e w' ⟨rfl, rfl⟩
        rw [hp1']
        go_wp2
        go_roundw
        case rel => exact ⟨k + 1, bf, bt, bz, sm, by omega, by go_num, rfl, hsm, hs2, hbf, hbt, hend, j1, j2⟩
        case measure => simp [intOf]; omega
      case pos =>
      by_cases hp2 : hasPre t rt = true
      case neg =>
        have hp2' : hasPre t rt = false := by simpa using hp2
        have hs2 := Lib.hid (show bestZ f t zs (k + 1) = ⟨bf, bt, bz⟩ from by rw [hsuc.out, zoneStep, if_neg (by simp [hp2'])])
        go_wp2_with fail
        refine (begins_any _ _ _ hfs hrfs).mono ?_
        rintro e w' ⟨rfl, rfl⟩
        rw [hp1]
        go_wp2_with fail
        refine (begins_any _ _ _ hts hrts).mono ?_
        rintro e w' ⟨rfl, rfl⟩
        rw [hp2']
        go_wp2
        go_roundw
        case rel => exact ⟨k + 1, bf, bt, bz, sm, by omega, by go_num, rfl, hsm, hs2, hbf, hbt, hend, j1, j2⟩
        case measure => simp [intOf]; omega
      case pos =>
      go_wp2_with fail
      refine (begins_any _ _ _ hfs hrfs).mono ?_
      rintro e w' ⟨rfl, rfl⟩
      rw [hp1]
      go_wp2_with fail
      refine (begins_any _ _ _ hts hrts).mono ?_
      rintro e w' ⟨rfl, rfl⟩
      rw [hp2]
      have hj1 := Lib.hid (((j1.out.far (p := ⟨w.heap.size + 1, 0, none⟩) (by simp) (.string rf)).far (p := ⟨w.heap.size + 1, 1, none⟩) (by simp) (.string rt)).far (p := ⟨w.heap.size + 1, 2, none⟩) (by simp) (.int .i64 zn))
      have hj2 : Hid (Blk (((w'.setCell ⟨w.heap.size + 1, 0, none⟩ (.string rf)).setCell ⟨w.heap.size + 1, 1, none⟩ (.string rt)).setCell ⟨w.heap.size + 1, 2, none⟩ (.int .i64 zn)) (w.heap.size + 1) 67 #[.string rf, .string rt, .int .i64 zn]) := Lib.hid (((j2.out.set_ 0 (.string rf)).set_ 1 (.string rt)).set_ 2 (.int .i64 zn))
      have hend3 : Below w.heap.size w (((w'.setCell ⟨w.heap.size + 1, 0, none⟩ (.string rf)).setCell ⟨w.heap.size + 1, 1, none⟩ (.string rt)).setCell ⟨w.heap.size + 1, 2, none⟩ (.int .i64 zn)) := ((hend.setCell (by simp) _).setCell (by simp) _).setCell (by simp) _
      by_cases hbe : better ⟨bf, bt, bz⟩ ⟨rf, rt, zn⟩
      · have hs2 := Lib.hid (show bestZ f t zs (k + 1) = ⟨rf, rt, zn⟩ from by rw [hsuc.out, zoneStep, if_pos (by simp [hp1, hp2]), if_pos hbe])
        have hsm2 : Hid (true = decide (zn ≠ 0)) := Lib.hid (by simp; omega)
        have hbe' := Lib.hid hbe
        clear hbe
        cases sm with
        | false =>
          go_wp2
          go_roundw
          case rel => exact ⟨k + 1, rf, rt, zn, true, by omega, by go_num, rfl, hsm2, hs2, hrfs, hrts, hend3, hj1, hj2⟩
          case measure => simp [intOf]; omega
        | true =>
          have hbz : bz ≠ 0 := by simpa using hsm.out
          have hbe2 : bf.size < rf.size ∨ (rf.size = bf.size ∧ bt.size < rt.size) := by
            rcases hbe'.out with h | h | h
            · exact absurd h hbz
            · exact .inl h
            · exact .inr h
          clear hbz
          by_cases c2 : bf.size < rf.size
          · clear hbe2
            go_wp2
            go_roundw
            case rel => exact ⟨k + 1, rf, rt, zn, true, by omega, by go_num, rfl, hsm2, hs2, hrfs, hrts, hend3, hj1, hj2⟩
            case measure => simp [intOf]; omega
          · have c2' : decide (bf.size < rf.size) = false := by simpa using c2
            have c3' : ((rf.size : Int) == (bf.size : Int)) = true := by simp; omega
            have c4 : bt.size < rt.size := by omega
            clear hbe2 c2
            go_wp2
            go_roundw
            case rel => exact ⟨k + 1, rf, rt, zn, true, by omega, by go_num, rfl, hsm2, hs2, hrfs, hrts, hend3, hj1, hj2⟩
            case measure => simp [intOf]; omega
      · have hs2 := Lib.hid (show bestZ f t zs (k + 1) = ⟨bf, bt, bz⟩ from by rw [hsuc.out, zoneStep, if_pos (by simp [hp1, hp2]), if_neg hbe])
        have hbe2 : bz ≠ 0 ∧ ¬ bf.size < rf.size ∧ ¬ (rf.size = bf.size ∧ bt.size < rt.size) := by
          simp only [better] at hbe
          omega
        clear hbe
        have hsmt : sm = true := by rw [hsm.out]; simpa using hbe2.1
        subst hsmt
        have c2' : decide (bf.size < rf.size) = false := by simpa using hbe2.2.1
        by_cases c3 : rf.size = bf.size
        · have c3' : ((rf.size : Int) == (bf.size : Int)) = true := by simp; omega
          have c4 : decide (bt.size < rt.size) = false := by simp; omega
          clear c3 hbe2
          go_wp2
          go_roundw
          case rel => exact ⟨k + 1, bf, bt, bz, true, by omega, by go_num, rfl, hsm, hs2, hbf, hbt, hend, j1, j2⟩
          case measure => simp [intOf]; omega
        · have c3' : ((rf.size : Int) == (bf.size : Int)) = false := by simp; omega
          clear c3 hbe2
          go_wp2
          go_roundw
          case rel => exact ⟨k + 1, bf, bt, bz, true, by omega, by go_num, rfl, hsm, hs2, hbf, hbt, hend, j1, j2⟩
          case measure => simp [intOf]; omega
    · have hfin := Lib.hid (show bz = zoneOf zs f t from by
        have e := bestZ_all f t zs
        rw [show zs.length = k from by omega, hbest.out] at e
        exact e)
      have y2 := hk2.out.cell 2
      simp at y2
      go_wp2
      go_ret
      exact ⟨ret_int hfin.out, hbw⟩
theorem results_tmp_row_tmp {P : Program} {fn : Func} {q p u : Tmp} {ty : TypeId} (h : fn.results = #[.tmp q, .cell p ty, .tmp u]) (tmps : Array Value) (w : World) (g : Nat) (t : TypeId) (cs : Array Value) (d : TypeDesc)
    (hp : tmps.getD p undef = .pointer (some ⟨g, 0, none⟩)) (hg : Blk w g t cs) (hu : P.underlying ty = some d) (hd : (match d with | .struct _ | .array _ _ => true | _ => false) = true) (hi : (P.info? ty).map (·.size) = some cs.size) :
    (results fn tmps).run P w = .ok (.tuple #[tmps.getD q undef, .agg cs, tmps.getD u undef]) w := by
  have e : (results fn tmps).run P w =
      ((asAddr (tmps.getD p undef)).run P w).andThen fun a w₁ => ((loadVar ty a).run P w₁).andThen fun v w₂ => .ok (.tuple #[tmps.getD q undef, v, tmps.getD u undef]) w₂ := by
    simp only [results, h]
    simp [Sem.run_bind, Result.andThen]
  rw [e, hp]
  simp [asAddr, run_loadVar_row w g t ty cs (0, 0) d hg hu hd hi, Result.andThen]
theorem set_far {W : World} {g i b o : Nat} {u : Value} (hne : b ≠ g) : (W.setCell ⟨g, i, none⟩ u).cell? ⟨b, o, none⟩ = W.cell? ⟨b, o, none⟩ := World.cell?_of_block (Below.heap_setCell W ⟨g, i, none⟩ u b hne)
theorem store3_cell {W : World} {g b o : Nat} {v0 v1 v2 v : Value} (h : W.cell? ⟨b, o, none⟩ = some v) (hne : b ≠ g) : ((((W.setCell ⟨g, 0, none⟩ v0).setCell ⟨g, 1, none⟩ v1).setCell ⟨g, 2, none⟩ v2).drew).cell? ⟨b, o, none⟩ = some v := by
  show (((W.setCell ⟨g, 0, none⟩ v0).setCell ⟨g, 1, none⟩ v1).setCell ⟨g, 2, none⟩ v2).cell? ⟨b, o, none⟩ = some v
  rw [set_far hne, set_far hne, set_far hne, h]
def PriceRes (w : World) (res : Int × Int) (e : Ending) (w' : World) : Prop := ∃ a A n c b, e = .returned (.tuple #[.int .i64 res.1, .agg #[.int .u8 a, .slice A n c, .int .i64 b], .int .i64 res.2]) ∧ Below w.heap.size w w'
set_option maxHeartbeats 8000000 in
theorem refPrice_any (rv zv : Value) (rs : List Rate) (zs : List Zone) (cls zone grams : Int) (w : World) (h : IsRates w rv rs) (hz : IsZones w zv zs) (hz1 : 1 ≤ zone) (hzm : zone ≤ 1000000) (hce : ∀ r, rateOf cls rs = some r → ∀ s ∈ r.steps, zone ≤ (s.cents.length : Int)) :
    Calls Try.prog 61 #[.agg #[rv, zv], .int .u8 cls, .int .i64 zone, .int .i64 grams] w (PriceRes w (priceBy rs cls zone grams)) := by
  obtain ⟨zz, rfl⟩ : ∃ zz : Nat, zone = (zz : Int) + 1 := ⟨(zone - 1).toNat, by omega⟩
  have hzz : zz ≤ 999999 := by omega
  have hwz : IntKind.i64.wrap (zz : Int) = (zz : Int) := IntWalk.i64_in _ (by omega)
  have hz0 : (0 : Int) ≤ (zz : Int) := by omega
  clear hz1 hzm
  obtain ⟨A, c, rfl, hn, hc, hA⟩ := h
  obtain ⟨B, d, rfl, _, _, hB⟩ := hz
  clear hB
  unfold maxLen at hc
  have hA' := Lib.hid hA
  have hce' := Lib.hid hce
  clear hA hce
  go_enter Try.func61, Try.ntmps61
  go_wp2
  go_loopw [11] (fun iv wr => ∃ (k : Nat), k ≤ rs.length ∧ iv = .int .i64 k ∧ Below w.heap.size w wr ∧ Hid (Blk wr w.heap.size 25 #[.slice A rs.length c, .slice B zs.length d]) ∧ Hid (Blk wr (w.heap.size + 1) 57 #[.int .u8 0, .slice none 0 0, .int .i64 0]) ∧ Hid (rateOf cls rs = rateOf cls (rs.drop k)))
    (fun iv _ => rs.length - (intOf iv).toNat)
  case atStart => exact ⟨0, by omega, rfl, ((Below.refl _ _).alloc (Nat.le_refl _) _).alloc (by simp) _, Lib.hid ((Blk.new _ _ _).alloc _), Lib.hid (Blk.new_at _ _ _ _ (by simp)), rfl⟩
  case round =>
    obtain ⟨k, hk, rfl, hbw, hk1, hk2, hrl⟩ := hrel
    rename World => wr
    have n0 : (0 : Int) ≤ (k : Int) := by omega
    have hl2 := hk2.out.lt
    have x0 := hk1.out.cell 0
    simp at x0
    by_cases hlt : k < rs.length
    · have n1 : (k : Int) < (rs.length : Int) := by omega
      obtain ⟨b, off, rfl, hb, hi⟩ := hA'.out (by omega)
      have hst := hi k hlt
      have hdr := Lib.hid (drop_getD rs Rate.zero k hlt)
      have hbr : b < wr.heap.size := Nat.lt_of_lt_of_le hb hbw.size
      clear hi
      generalize rs.getD k Rate.zero = r at hst hdr
      obtain ⟨rc, ss, rb⟩ := r
      obtain ⟨r0, ⟨sv, r1, hsv⟩, r2, -, -⟩ := hst
      obtain ⟨A2, c2, rfl, hn2, hc2, hA2⟩ := hsv
      simp only at r0 r1 r2 hn2
      replace r0 := (hbw.cell (p := ⟨b, off + k * 3, none⟩) hb).trans r0
      replace r1 := (hbw.cell (p := ⟨b, off + k * 3 + 1, none⟩) hb).trans r1
      replace r2 := (hbw.cell (p := ⟨b, off + k * 3 + 2, none⟩) hb).trans r2
      unfold maxLen at hc2
      have hA2' := Lib.hid hA2
      clear hA2
      by_cases hcl : rc = cls
      case neg =>
        have hne : (rc != cls) = true := by simpa using hcl
        have hrl2 := Lib.hid (show rateOf cls rs = rateOf cls (rs.drop (k + 1)) from by rw [hrl.out, hdr.out, rateOf_cons, if_neg hcl])
        go_wp2
        go_roundw
        case rel => exact ⟨k + 1, by omega, by go_num, hbw, hk1, hk2, hrl2⟩
        case measure => simp [intOf]; omega
      case pos =>
      subst hcl
      have hne : (rc != rc) = false := by simp
      have hro := Lib.hid (show rateOf rc rs = some ⟨rc, ss, rb⟩ from by rw [hrl.out, hdr.out, rateOf_cons, if_pos rfl])
      have hpb := Lib.hid (show priceBy rs rc ((zz : Int) + 1) grams = priceOf ss ((zz : Int) + 1) grams from by rw [priceBy, hro.out])
      go_wp2
      go_loopw [12] (fun iv w2 => ∃ (j : Nat), j ≤ ss.length ∧ iv = .int .i64 j ∧ Below wr.heap.size wr w2 ∧ Hid (stepAt grams 0 ss = stepAt grams j (ss.drop j)))
        (fun iv _ => ss.length - (intOf iv).toNat)
      case atStart => exact ⟨0, by omega, rfl, Below.refl _ _, rfl⟩
      case round =>
        obtain ⟨j, hj, rfl, hb2, hsr⟩ := hrel
        rename World => w2
        have j0 : (0 : Int) ≤ (j : Int) := by omega
        have s2 := hb2.size
        have q1 := Lib.hid (hk1.out.below hb2 (by omega))
        have q2 := Lib.hid (hk2.out.below hb2 (by omega))
        have y0 := q1.out.cell 0
        simp at y0
        have v0 := (hb2.cell (p := ⟨b, off + k * 3, none⟩) hbr).trans r0
        have v1 := (hb2.cell (p := ⟨b, off + k * 3 + 1, none⟩) hbr).trans r1
        have v2 := (hb2.cell (p := ⟨b, off + k * 3 + 2, none⟩) hbr).trans r2
        have hend := hbw.trans (hb2.mono hbw.size)
        by_cases hlj : j < ss.length
        · have j1 : (j : Int) < (ss.length : Int) := by omega
          obtain ⟨b3, off3, rfl, hb3, hi3⟩ := hA2'.out (by omega)
          have hs3 := hi3 j hlj
          have hd3 := Lib.hid (drop_getD ss Step.zero j hlj)
          clear hi3
          have hcl := hce'.out _ hro.out (ss.getD j Step.zero) (by rw [List.getD_eq_getElem?_getD, List.getElem?_eq_getElem hlj]; exact List.getElem_mem hlj)
          have hat := Lib.hid (show grams ≤ (ss.getD j Step.zero).grams → priceOf ss ((zz : Int) + 1) grams = ((ss.getD j Step.zero).cents.getD zz 0, 0) from fun hle => by
            have e : stepAt grams 0 ss = (j : Int) := by rw [hsr.out, hd3.out, stepAt_cons, if_pos hle]
            rw [priceOf, e, if_neg (by omega)]
            simp)
          have hgo := Lib.hid (show ¬ grams ≤ (ss.getD j Step.zero).grams → stepAt grams 0 ss = stepAt grams (j + 1) (ss.drop (j + 1)) from fun hle => by
            rw [hsr.out, hd3.out, stepAt_cons, if_neg hle])
          clear hd3 hsr
          generalize ss.getD j Step.zero = s at hs3 hcl hat hgo
          obtain ⟨g, cs⟩ := s
          obtain ⟨s0, cv, s1, A4, c4, rfl, hn4, hc4, hA4⟩ := hs3
          simp only at s0 s1 hcl hn4
          replace s0 := (hend.cell (p := ⟨b3, off3 + j * 2, none⟩) hb3).trans s0
          replace s1 := (hend.cell (p := ⟨b3, off3 + j * 2 + 1, none⟩) hb3).trans s1
          unfold maxLen at hc4
          have hup := Lib.hid ((Below.refl w2.heap.size w2).alloc (Nat.le_refl _) (.cells #[.int .i64 g, .slice A4 cs.length c4] 61))
          have p3 := Lib.hid (Blk.new w2 61 #[.int .i64 g, .slice A4 cs.length c4])
          have p1 := Lib.hid (q1.out.alloc (.cells #[.int .i64 g, .slice A4 cs.length c4] 61))
          have p2 := Lib.hid (q2.out.alloc (.cells #[.int .i64 g, .slice A4 cs.length c4] 61))
          go_upto_region 9 with fail
          have hend2 : Below w.heap.size w (w2.alloc (.cells #[.int .i64 g, .slice A4 cs.length c4] 61)) := hend.alloc hend.size _
          have hup2 : Below wr.heap.size wr (w2.alloc (.cells #[.int .i64 g, .slice A4 cs.length c4] 61)) := hb2.alloc hb2.size _
          generalize w2.alloc (.cells #[.int .i64 g, .slice A4 cs.length c4] 61) = W at *
          have hl3 := p3.out.lt
          have z0 := p3.out.cell 0
          have z1 := p3.out.cell 1
          have y0 := p1.out.cell 0
          have m0 := p2.out.cell 0
          have m1 := p2.out.cell 1
          have m2 := p2.out.cell 2
          have f0 := p2.out.frozen 0
          have f1 := p2.out.frozen 1
          have f2 := p2.out.frozen 2
          simp at z0 z1 y0 m0 m1 m2
          rw [← hup.out.cell (p := ⟨b, off + k * 3, none⟩) (by show b < _; omega)] at v0
          rw [← hup.out.cell (p := ⟨b, off + k * 3 + 1, none⟩) (by show b < _; omega)] at v1
          rw [← hup.out.cell (p := ⟨b, off + k * 3 + 2, none⟩) (by show b < _; omega)] at v2
          by_cases hle : grams ≤ g
          · obtain ⟨b4, off4, rfl, hb4, hi4⟩ := hA4 (by dsimp only; omega)
            have u0 : W.cell? ⟨b4, off4 + zz, none⟩ = some (.int .i64 (cs.getD zz 0)) := (hend2.cell hb4).trans (hi4 zz (by dsimp only; omega))
            have hfin := Lib.hid (hat.out hle)
            simp only at hfin
            clear hat hgo hi4 hA'
            have i1 : (zz : Int) < (cs.length : Int) := by omega
            generalize cs.getD zz 0 = pr at u0 hfin
            go_upto_region 10 with fail
            go_region_held3 (fun w' => w'.cell? ⟨w2.heap.size, 1, none⟩ = some (.slice (some ⟨b4, off4, none⟩) cs.length c4) ∧ w'.cell? ⟨b4, off4 + zz, none⟩ = some (.int .i64 pr) ∧ w'.cell? ⟨w.heap.size, 0, none⟩ = some (.slice (some ⟨b, off, none⟩) rs.length c) ∧ w'.cell? ⟨b, off + k * 3, none⟩ = some (.int .u8 rc) ∧ w'.cell? ⟨b, off + k * 3 + 1, none⟩ = some (.slice (some ⟨b3, off3, none⟩) ss.length c2) ∧ w'.cell? ⟨b, off + k * 3 + 2, none⟩ = some (.int .i64 rb))
              (first | exact ⟨store3_cell z1 (by omega), store3_cell u0 (by omega), store3_cell y0 (by omega), store3_cell v0 (by omega), store3_cell v1 (by omega), store3_cell v2 (by omega)⟩ | go_keep)
              (fail)
            clear hA4 q1 q2 hk1 hk2
            go_wp2
            refine bodyPost_ret (results_tmp_row_tmp Try.results61 _ _ _ _ _ _ rfl (((p2.out.set_ 0 _).set_ 1 _).set_ 2 _ : Blk (((W.setCell ⟨w.heap.size + 1, 0, none⟩ (.int .u8 rc)).setCell ⟨w.heap.size + 1, 1, none⟩ (.slice (some ⟨b3, off3, none⟩) ss.length c2)).setCell ⟨w.heap.size + 1, 2, none⟩ (.int .i64 rb)).drew (w.heap.size + 1) 57 #[.int .u8 rc, .slice (some ⟨b3, off3, none⟩) ss.length c2, .int .i64 rb]) Try.underlying57 rfl size57) rfl ⟨_, _, _, _, _, by rw [hpb.out, hfin.out]; rfl, ?_⟩
            exact (((hend2.setCell (by simp) _).setCell (by simp) _).setCell (by simp) _).drew
          · have hgo2 := Lib.hid (hgo.out hle)
            have hle' : decide (grams ≤ g) = false := by simpa using hle
            clear hat hgo hA4 hle
            go_wp2
            go_roundw
            case rel => exact ⟨j + 1, by omega, by go_num, hup2, hgo2⟩
            case measure => simp [intOf]; omega
        · obtain rfl : j = ss.length := by omega
          have hfin := Lib.hid (show priceOf ss ((zz : Int) + 1) grams = (0, 3) from by
            have e : stepAt grams 0 ss = -1 := by rw [hsr.out, List.drop_of_length_le (Nat.le_refl _)]; rfl
            rw [priceOf, e, if_pos (by omega)])
          have m0 := q2.out.cell 0
          have m1 := q2.out.cell 1
          have m2 := q2.out.cell 2
          have f0 := q2.out.frozen 0
          have f1 := q2.out.frozen 1
          have f2 := q2.out.frozen 2
          simp at m0 m1 m2
          go_upto_region 11 with fail
          go_region_held3 (fun w' => w'.cell? ⟨w.heap.size, 0, none⟩ = some (.slice (some ⟨b, off, none⟩) rs.length c) ∧ w'.cell? ⟨b, off + k * 3, none⟩ = some (.int .u8 rc) ∧ w'.cell? ⟨b, off + k * 3 + 1, none⟩ = some (.slice A2 ss.length c2) ∧ w'.cell? ⟨b, off + k * 3 + 2, none⟩ = some (.int .i64 rb))
            (first | exact ⟨store3_cell y0 (by omega), store3_cell v0 (by omega), store3_cell v1 (by omega), store3_cell v2 (by omega)⟩ | go_keep)
            (fail)
          clear hk1 hk2
          go_wp2
          refine bodyPost_ret (results_tmp_row_tmp Try.results61 _ _ _ _ _ _ rfl (((q2.out.set_ 0 _).set_ 1 _).set_ 2 _ : Blk (((w2.setCell ⟨w.heap.size + 1, 0, none⟩ (.int .u8 rc)).setCell ⟨w.heap.size + 1, 1, none⟩ (.slice A2 ss.length c2)).setCell ⟨w.heap.size + 1, 2, none⟩ (.int .i64 rb)).drew (w.heap.size + 1) 57 #[.int .u8 rc, .slice A2 ss.length c2, .int .i64 rb]) Try.underlying57 rfl size57) rfl ⟨_, _, _, _, _, by rw [hpb.out, hfin.out]; rfl, ?_⟩
          exact (((hend.setCell (by simp) _).setCell (by simp) _).setCell (by simp) _).drew
    · have hno := Lib.hid (show rateOf cls rs = none from by rw [hrl.out, List.drop_of_length_le (by omega)]; rfl)
      have hpb := Lib.hid (show priceBy rs cls ((zz : Int) + 1) grams = (0, 6) from by rw [priceBy, hno.out])
      have m0 := hk2.out.cell 0
      have m1 := hk2.out.cell 1
      have m2 := hk2.out.cell 2
      have f0 := hk2.out.frozen 0
      have f1 := hk2.out.frozen 1
      have f2 := hk2.out.frozen 2
      simp at m0 m1 m2
      go_wp2
      refine bodyPost_ret (results_tmp_row_tmp Try.results61 _ _ _ _ _ _ rfl (((hk2.out.set_ 0 _).set_ 1 _).set_ 2 _ : Blk (((wr.setCell ⟨w.heap.size + 1, 0, none⟩ (.int .u8 0)).setCell ⟨w.heap.size + 1, 1, none⟩ (.slice none 0 0)).setCell ⟨w.heap.size + 1, 2, none⟩ (.int .i64 0)) (w.heap.size + 1) 57 #[.int .u8 0, .slice none 0 0, .int .i64 0]) Try.underlying57 rfl size57) rfl ⟨_, _, _, _, _, by rw [hpb.out]; rfl, ?_⟩
      exact ((hbw.setCell (by simp) _).setCell (by simp) _).setCell (by simp) _
end Go.Proofs.Ythbnbfeolfkkaaa
