/- The walk of law23.Made: the scheme that it makes. -/
import Derived.Test.YthbnbfeolfkkaaaL11
import Derived.Test.YthbnbfeolfkkaaaMadeLP
import Derived.Deep.DeepCutAuto
namespace Go.Proofs.Ythbnbfeolfkkaaa
open Go.RowKit Go.Maps
attribute [local go_sem ↓] Go.wp_at_zero Go.wp_at_succ

/-- two strings whose sum is short -/
def SmallSumL (a b : ByteArray) : Prop := a.size + b.size ≤ 1000000
theorem run_add_smallL {P : Program} (w : World) (a b : ByteArray) (h : SmallSumL a b) : (Op.stringOp .add a b).run P w = .ok (.string (a ++ b)) w := run_string_add_sum w a b (by unfold SmallSumL at h; omega)
attribute [local go_sem ↓] run_add_smallL
theorem and2 (n : Nat) : n &&& 2 = n / 2 % 2 * 2 := by
  have h1 : (n &&& 2) / 2 = n / 2 &&& 1 := Nat.and_div_two
  have h2 : (n &&& 2) % 2 ^ 1 = (n % 2 ^ 1) &&& (2 % 2 ^ 1) := Nat.and_mod_two_pow
  rw [Nat.and_one_is_mod] at h1
  have h3 : (n % 2 ^ 1) &&& (2 % 2 ^ 1) = 0 := by simp
  rw [h3] at h2
  omega
theorem and4 (n : Nat) : n &&& 4 = n / 4 % 2 * 4 := by
  have h1 : (n &&& 4) / 2 = n / 2 &&& 2 := Nat.and_div_two
  have h2 : (n &&& 4) % 2 ^ 1 = (n % 2 ^ 1) &&& (4 % 2 ^ 1) := Nat.and_mod_two_pow
  rw [and2] at h1
  have h3 : (n % 2 ^ 1) &&& (4 % 2 ^ 1) = 0 := by simp
  rw [h3] at h2
  omega
theorem shr_bits (n s i : Nat) (hn : n < 4294967296) : bits .and .u32 ((n : Int) / 2 ^ (s + i)) 1 = ((n / 2 ^ s / 2 ^ i % 2 : Nat) : Int) := by
  have e : (n : Int) / 2 ^ (s + i) = ((n / 2 ^ (s + i) : Nat) : Int) := by simp
  have e2 : n / 2 ^ (s + i) = n / 2 ^ s / 2 ^ i := by rw [Nat.div_div_eq_div_mul, Nat.pow_add]
  rw [e, e2]
  exact and_mod _ 1 (by have := Nat.div_le_self (n / 2 ^ s) (2 ^ i); have := Nat.div_le_self n (2 ^ s); omega) 1 rfl (by omega)
def str5 : Array Value := #[.string ⟨#[49, 48, 48, 48, 48]⟩, .string ⟨#[49, 48, 48, 48, 49]⟩, .string ⟨#[49, 48, 48, 49, 48]⟩, .string ⟨#[49, 49, 48, 48, 48]⟩, .string ⟨#[50, 48, 48, 48, 48]⟩]
theorem str5_at (i : Nat) (hi : i < 5) : str5[i]? = some (.string (labAt lab5 i).pre) := by
  have : i = 0 ∨ i = 1 ∨ i = 2 ∨ i = 3 ∨ i = 4 := by omega
  rcases this with rfl | rfl | rfl | rfl | rfl <;> rfl
def str3 : Array Value := #[.string ⟨#[49, 48, 48]⟩, .string ⟨#[49, 48, 49]⟩, .string ⟨#[49, 49, 48]⟩, .string ⟨#[50, 48, 48]⟩, .string ⟨#[50, 48, 49]⟩, .string ⟨#[51, 48, 48]⟩]
theorem str3_at (i : Nat) (hi : i < 6) : str3[i]? = some (.string (labAt lab3 i).pre) := by
  have : i = 0 ∨ i = 1 ∨ i = 2 ∨ i = 3 ∨ i = 4 ∨ i = 5 := by omega
  rcases this with rfl | rfl | rfl | rfl | rfl | rfl <;> rfl
def str1 : Array Value := #[.string ⟨#[49]⟩, .string ⟨#[50]⟩, .string ⟨#[51]⟩]
theorem str1_at (i : Nat) (hi : i < 3) : str1[i]? = some (.string (labAt lab1 i).pre) := by
  have : i = 0 ∨ i = 1 ∨ i = 2 := by omega
  rcases this with rfl | rfl | rfl <;> rfl
/-- the scheme in memory of the call's own -/
def LevelsOwn (w : World) (ls : List Level) (e : Ending) (w' : World) : Prop := ∃ v lps, e = .returned v ∧ OwnLevels w.heap.size w' v lps ∧ lps.map (·.1) = ls ∧ Below w.heap.size w w'

set_option maxRecDepth 100000 in
set_option maxHeartbeats 8000000 in
theorem madeScheme_any (n : Nat) (cv : Value) (cents : List Int) (w : World) (hn : n < 4294967296) (hcv : IsKs .u8 w cv cents) (hcb : ∀ x ∈ cents, 0 ≤ x ∧ x ≤ 255) :
    Calls Try.prog 13 #[.int .u32 (n : Int), .slice none 0 0, cv] w (LevelsOwn w (madeLevels n cents)) := by
  have hcv' := Lib.hid hcv
  have hcb' := Lib.hid hcb
  obtain ⟨Ac, cc, rfl, hcn, hcm, hAc⟩ := hcv
  clear hAc hcb
  have q1 : bits .and .u32 (n : Int) 1 = ((n % 2 : Nat) : Int) := and_mod n 1 hn 1 rfl (by omega)
  have q2 : bits .and .u32 (n : Int) 2 = ((n / 2 % 2 * 2 : Nat) : Int) := by rw [show (2 : Int) = ((2 : Nat) : Int) from rfl, u32_and_nat n 2 hn (by omega), and2]
  have q4 : bits .and .u32 (n : Int) 4 = ((n / 4 % 2 * 4 : Nat) : Int) := by rw [show (4 : Int) = ((4 : Nat) : Int) from rfl, u32_and_nat n 4 hn (by omega), and4]
  go_enter Try.func13, Try.ntmps13
  go_upto_if 22 with fail
  have hb0 : Below w.heap.size w (((w.alloc (.cells #[.slice none 0 0] 29)).alloc (.cells #[.slice Ac cents.length cc] 29)).alloc (.cells #[.slice none 0 0] 32)) := (((Below.refl _ _).alloc (Nat.le_refl _) _).alloc (by simp) _).alloc (by simp; omega) _
  have kL : Blk (((w.alloc (.cells #[.slice none 0 0] 29)).alloc (.cells #[.slice Ac cents.length cc] 29)).alloc (.cells #[.slice none 0 0] 32)) w.heap.size 29 #[.slice none 0 0] := ((Blk.new _ _ _).alloc _).alloc _
  have kC : Blk (((w.alloc (.cells #[.slice none 0 0] 29)).alloc (.cells #[.slice Ac cents.length cc] 29)).alloc (.cells #[.slice none 0 0] 32)) (w.heap.size + 1) 29 #[.slice Ac cents.length cc] := (Blk.new_at _ _ _ _ (by simp)).alloc _
  have kO : Blk (((w.alloc (.cells #[.slice none 0 0] 29)).alloc (.cells #[.slice Ac cents.length cc] 29)).alloc (.cells #[.slice none 0 0] 32)) (w.heap.size + 1 + 1) 32 #[.slice none 0 0] := Blk.new_at _ _ _ _ (by simp)
  generalize ((w.alloc (.cells #[.slice none 0 0] 29)).alloc (.cells #[.slice Ac cents.length cc] 29)).alloc (.cells #[.slice none 0 0] 32) = W0 at *
  have hs0 : w.heap.size + 1 + 1 < W0.heap.size := kO.lt
  have hcv0 := Lib.hid (hcv'.out.stays (Stays.of hb0))
  have kL' := Lib.hid kL
  have kC' := Lib.hid kC
  clear kL kC
  go_cut [7, 9, 10, 11] (fun s7 _ _ _ wx => ∃ ov lps, s7 = .pointer (some ⟨w.heap.size + 1 + 1, 0, none⟩) ∧ Blk wx (w.heap.size + 1 + 1) 32 #[ov] ∧ OwnLevels (w.heap.size + 3) wx ov lps ∧ Below (w.heap.size + 2) W0 wx ∧ Hid (lps.map (·.1) = made5 n cents))
  case first =>
    by_cases hbit : n % 2 = 1
    · rw [hbit] at q1
      have hn1 : (n : Int) % 2 = 1 := by omega
      have howL : Hid (OwnLevels (w.heap.size + 3) W0 (.slice none 0 0) []) := OwnL.nil_
      have hmp : Hid (([] : List (Level × Value)).map (·.1) = []) := rfl
      have hW0w : Below (w.heap.size + 2) W0 W0 := Below.refl _ _
      have hlps : ([] : List (Level × Value)).length ≤ 10 := by simp
      obtain ⟨ov, hov⟩ : ∃ ov : Value, ov = .slice none 0 0 := ⟨_, rfl⟩
      obtain ⟨lps, hlp⟩ : ∃ lps : List (Level × Value), lps = [] := ⟨_, rfl⟩
      rw [← hov, ← hlp] at howL
      rw [← hlp] at hmp hlps
      rw [← hov] at kO
      have hov' := Lib.hid hov
      have hlp' := Lib.hid hlp
      clear hov hlp
      have hXb : Below W0.heap.size W0 ((W0.alloc (.cells #[.string ⟨#[102, 105, 118, 101]⟩, .int .i64 5, .slice none 0 0, .int .i64 0, .int .i64 0] 54)).alloc (.cells str5 9)) := ((Below.refl _ _).alloc (Nat.le_refl _) _).alloc (by simp) _
      have kX : Blk ((W0.alloc (.cells #[.string ⟨#[102, 105, 118, 101]⟩, .int .i64 5, .slice none 0 0, .int .i64 0, .int .i64 0] 54)).alloc (.cells str5 9)) W0.heap.size 54 #[.string ⟨#[102, 105, 118, 101]⟩, .int .i64 5, .slice none 0 0, .int .i64 0, .int .i64 0] := (Blk.new _ _ _).alloc _
      have kS : Blk ((W0.alloc (.cells #[.string ⟨#[102, 105, 118, 101]⟩, .int .i64 5, .slice none 0 0, .int .i64 0, .int .i64 0] 54)).alloc (.cells str5 9)) (W0.heap.size + 1) 9 str5 := Blk.new_at _ _ _ _ (by simp)
      go_wp2
      change Code.wp _ _ _ _ ((W0.alloc (.cells #[.string ⟨#[102, 105, 118, 101]⟩, .int .i64 5, .slice none 0 0, .int .i64 0, .int .i64 0] 54)).alloc (.cells str5 9))
      generalize (W0.alloc (.cells #[.string ⟨#[102, 105, 118, 101]⟩, .int .i64 5, .slice none 0 0, .int .i64 0, .int .i64 0] 54)).alloc (.cells str5 9) = Wb at *
      have hsb : W0.heap.size + 1 < Wb.heap.size := kS.lt
      simp only [hn1, show decide ((0 : Int) < 1) = true from rfl]
      clear hn1
      go_loopw [26] (fun iv wr => ∃ (i : Nat) (ls : List Label) (lv : Value), i ≤ 5 ∧ iv = .int .i64 i ∧ Below W0.heap.size Wb wr ∧ Blk wr W0.heap.size 54 #[.string ⟨#[102, 105, 118, 101]⟩, .int .i64 5, lv, .int .i64 0, .int .i64 0] ∧ Blk wr (W0.heap.size + 1) 9 str5 ∧ OwnLabels (W0.heap.size + 2) wr lv ls ∧ Hid (ls = labelsBy (n / 8) lab5 i))
        (fun iv _ => 5 - (intOf iv).toNat)
      case atStart => exact ⟨0, [], _, by omega, rfl, Below.refl _ _, kX, kS, OwnL.nil_, rfl⟩
      case round =>
        obtain ⟨i, ls, lv, hi, rfl, hbr, hbk, hbs, hown, hls⟩ := hrel
        have hszr : W0.heap.size + 1 < wr.heap.size := hbs.lt
        have hll2 : ls.length ≤ 5 := by rw [hls.out]; have := labelsBy_len (n / 8) lab5 i; omega
        by_cases hlt : i < 5
        · have c0 : wr.cell? ⟨W0.heap.size + 1, i, none⟩ = some (.string (labAt lab5 i).pre) := (hbs.cell i).trans (str5_at i hlt)
          obtain ⟨hps, hgr⟩ := lab5_at i hlt
          have hlab := Lib.hid (show labAt lab5 i = ⟨(labAt lab5 i).pre, (labAt lab5 i).group⟩ from rfl)
          have hps' := Lib.hid hps
          have hgr' := Lib.hid hgr
          clear hps hgr
          generalize (labAt lab5 i).pre = p at *
          generalize (labAt lab5 i).group = gp at *
          have hlt' : decide ((i : Int) < 5) = true := by simp; omega
          have n0 : (0 : Int) ≤ (i : Int) := by omega
          have n1 : (i : Int) < 5 := by omega
          have q5 : bits .and .u32 ((n : Int) / 2 ^ (3 + i)) 1 = ((n / 8 / 2 ^ i % 2 : Nat) : Int) := shr_bits n 3 i hn
          by_cases hbit5 : n / 8 / 2 ^ i % 2 = 1
          · rw [hbit5] at q5
            have hls2 : Hid (ls ++ [⟨p, gp⟩] = labelsBy (n / 8) lab5 (i + 1)) := by rw [labelsBy, if_pos hbit5, hlab.out, ← hls.out]; rfl
            have hown' := Lib.hid hown
            have hbk' := Lib.hid hbk
            have hbs' := Lib.hid hbs
            obtain ⟨A3, c3, rfl⟩ := hown.form_
            have x2 := hbk.cell 2
            simp at x2
            obtain ⟨i0, hi0, hz0, hz1, hz2⟩ := info_parts label_info
            have xa : ∀ (o : Obj), (wr.alloc o).cell? ⟨W0.heap.size, 2, none⟩ = some (.slice A3 ls.length c3) := fun o => (World.cell?_alloc_lt _ _ _ (by show W0.heap.size < _; omega)).trans x2
            have hneq : some W0.heap.size ≠ (Value.slice A3 ls.length c3).ownBlock := fun e => by have := (hown.1.lt _ e.symm).1; omega
            have hneq2 : some (W0.heap.size + 1) ≠ (Value.slice A3 ls.length c3).ownBlock := fun e => by have := (hown.1.lt _ e.symm).1; omega
            have sd1 : ls.length + 1 ≤ maxLen := by unfold maxLen; omega
            have sd4 : (ls.length + 1) * 32 ≤ 140737488355328 := by omega
            have hlin : p.size ≤ maxLen ∧ gp.size ≤ maxLen := ⟨by rw [hps'.out]; exact small_max (by omega), by rw [← hgr'.out]; exact small_max (by first | decide | (rw [ByteArray.size_append, ByteArray.size_extract, show (⟨#[72]⟩ : ByteArray).size = 1 from rfl]; omega))⟩
            have hlin' := Lib.hid hlin
            have az : SmallSumL ⟨#[72]⟩ (p.extract 0 3) := by unfold SmallSumL; rw [show (⟨#[72]⟩ : ByteArray).size = 1 from rfl, ByteArray.size_extract]; omega
            have p3 : (3 : Int) ≤ (p.size : Int) := by rw [hps'.out]; decide
            have p4 : 3 ≤ p.size := by rw [hps'.out]; decide
            clear hown hbk hbs hbit5 hlin
            go_wp2
            go_region_law ((refine step_append_lies _ (by rfl) (.tmp 38) (.tmp 44) 52 (by rfl) (W0.heap.size + 2) 90 i0 (.agg #[.string ⟨#[]⟩, .string ⟨#[]⟩]) 2 32 Try.underlying52 hi0 hz0 hz1 hz2 rfl (by decide) (.slice A3 ls.length c3) ls.length _ (by rfl) (by exact hown'.out.1.alloc _) ⟨wr.heap.size, 0, none⟩ 1 1 [.string p, .string (⟨#[72]⟩ ++ p.extract 0 3)] (by rfl) rfl (by exact World.news_of_block (cs := #[.string p, .string (⟨#[72]⟩ ++ p.extract 0 3)]) (heap_alloc_new _ _)) (one2 rfl rfl) Nat.one_pos sd1 sd4 (by simp; omega) (wr.heap.size + 1) (by simp) ?_; intro g cap w1 hown1 hgr1 hat1 hlt1; have hbk1 := Blk.grown (by exact hbk'.out.alloc _) hgr1 hneq; have y1 := hbk1.cell 2; have yf := hbk1.frozen 2; simp only [List.getElem?_toArray, List.getElem?_cons_succ, List.getElem?_cons_zero] at y1; clear hbk1))
            all_goals
              have hR := field_append labelIn_inner (i := 2) (a := ⟨p, (⟨#[72]⟩ ++ p.extract 0 3)⟩) hbr hbk'.out hown'.out (by first | exact ((Below.refl _ _).alloc (Nat.le_refl _) _).drew | exact (Below.refl _ _).drew.alloc (Nat.le_refl _) _) (by omega) (Nat.le_refl _) (by rw [hgr'.out]; exact hlin'.out) hown1 rfl hgr1 (hat1.imp_right (fun e => by simp [e]))
              have hS2 := ((hbs'.out.below (w' := _) (by first | exact ((Below.refl _ _).alloc (Nat.le_refl _) _).drew | exact (Below.refl _ _).drew.alloc (Nat.le_refl _) _) hszr).grown hgr1 hneq2).far (p := ⟨W0.heap.size, 2, none⟩) (by simp) (.slice (some ⟨g, 0, none⟩) (ls.length + 1) cap)
              rw [hgr'.out] at hR
              clear hown1 hgr1 hat1 hlt1
              go_wp2
              go_roundw
              case rel => exact ⟨i + 1, _, _, by omega, by go_num, hR.1, hR.2.1, hS2, hR.2.2, hls2⟩
              case measure => simp [intOf]; omega
          · rw [show n / 8 / 2 ^ i % 2 = 0 from by omega] at q5
            have hls2 : Hid (ls = labelsBy (n / 8) lab5 (i + 1)) := by rw [labelsBy, if_neg hbit5]; exact hls
            have hown' := Lib.hid hown
            have hbk' := Lib.hid hbk
            have hbs' := Lib.hid hbs
            clear hown hbk hbs hbit5
            go_wp2
            go_roundw
            case rel => exact ⟨i + 1, _, _, by omega, by go_num, hbr, hbk'.out, hbs'.out, hown'.out, hls2⟩
            case measure => simp [intOf]; omega
        · have hlt' : decide ((i : Int) < 5) = false := by simp; omega
          have hi9 : i = 5 := by omega
          subst hi9
          have hWw : Below W0.heap.size W0 wr := hXb.trans hbr
          have l0 := hbk.cell 0
          have l1 := hbk.cell 1
          have l2 := hbk.cell 2
          have l3 := hbk.cell 3
          have l4 := hbk.cell 4
          have hOw := Lib.hid (kO.below hWw (by have := kO.lt; omega))
          have hLw := Lib.hid ((kL'.out.below hW0w (by omega)).below hWw (by omega))
          have hCw := Lib.hid ((kC'.out.below hW0w (by omega)).below hWw (by omega))
          have hcvw := Lib.hid (hcv'.out.stays (Stays.of (hb0.trans ((hW0w.mono (by omega)).trans (hWw.mono (by omega))))))
          have hoLw := Lib.hid (howL.out.keep levelIn_inner (Keeps.of_below hWw _))
          have hlb : IsLabelsP (fun b => w.heap.size + 3 ≤ b ∧ some b ≠ ov.ownBlock) wr lv ls := (OwnLabels.labels hown).keep ⟨Nat.le_refl _, fun _ _ _ => rfl⟩ (fun b hb hp => ⟨by omega, fun e => by have := (howL.out.block_lt e.symm).2; omega⟩)
          have hlb' := Lib.hid hlb
          obtain ⟨A3, c3, rfl⟩ := hown.form_
          simp at l0 l1 l2 l3 l4
          have hls' := Lib.hid hls.out
          clear hown hbk hbs hls hlb
          go_wp2_with fail
          refine (addLevel_any ⟨#[102, 105, 118, 101]⟩ 5 ls _ ov _ lps cents (w.heap.size + 1 + 1) (w.heap.size + 3) w.heap.size (w.heap.size + 1) wr hOw.out hoLw.out hLw.out hCw.out hcvw.out hcb'.out hlb'.out (small_max (by decide)) (by omega) (by omega) hlps).mono ?_
          rintro e w9 ⟨rfl, ov9, h91, h92, h93⟩
          have hm9 : Hid ((lps ++ [((⟨⟨#[102, 105, 118, 101]⟩, 5, ls, 1, cents.getD lps.length 0⟩ : Level), Value.slice A3 ls.length c3)]).map (·.1) = made5 n cents) := by
            rw [made5, if_pos hbit, addL, ← hls'.out]
            have hq := congrArg List.length hmp.out
            rw [List.length_map] at hq
            rw [List.map_append, hmp.out, hq]; rfl
          go_wp2
          go_meet
          exact ⟨ov9, _, rfl, h91, h92, (hW0w.trans ((hWw.mono (by omega)).trans (h93.mono (by omega)))), hm9⟩
    · rw [show n % 2 = 0 from by omega] at q1
      have hn1 : (n : Int) % 2 = 0 := by omega
      go_wp2
      go_meet
      exact ⟨_, [], rfl, kO, OwnL.nil_, Below.refl _ _, by rw [made5, if_neg hbit]; rfl⟩
  case rest =>
    obtain ⟨ov, lps, rfl, kO, how, hW0w, hmp⟩ := hcut
    obtain ⟨wa, rfl⟩ : ∃ wz : World, wz = wc := ⟨_, rfl⟩
    have howL := Lib.hid how
    clear how
    have hlps : lps.length ≤ 10 := by have h1 := congrArg List.length hmp.out; rw [List.length_map] at h1; have := made5_len n cents; omega
    have hsa : w.heap.size + 1 + 1 < wa.heap.size := kO.lt
    go_upto_if 53 with fail
    go_cut [7, 12, 13, 14] (fun s7 _ _ _ wx => ∃ ov lps, s7 = .pointer (some ⟨w.heap.size + 1 + 1, 0, none⟩) ∧ Blk wx (w.heap.size + 1 + 1) 32 #[ov] ∧ OwnLevels (w.heap.size + 3) wx ov lps ∧ Below (w.heap.size + 2) W0 wx ∧ Hid (lps.map (·.1) = made3 n cents))
    case first =>
      by_cases hbit : n / 2 % 2 = 1
      · have hn1 : (n : Int) / 2 % 2 = 1 := by omega
        rw [hbit] at q2
        have hXb : Below wa.heap.size wa ((wa.alloc (.cells #[.string ⟨#[116, 104, 114, 101, 101]⟩, .int .i64 3, .slice none 0 0, .int .i64 0, .int .i64 0] 54)).alloc (.cells str3 9)) := ((Below.refl _ _).alloc (Nat.le_refl _) _).alloc (by simp) _
        have kX : Blk ((wa.alloc (.cells #[.string ⟨#[116, 104, 114, 101, 101]⟩, .int .i64 3, .slice none 0 0, .int .i64 0, .int .i64 0] 54)).alloc (.cells str3 9)) wa.heap.size 54 #[.string ⟨#[116, 104, 114, 101, 101]⟩, .int .i64 3, .slice none 0 0, .int .i64 0, .int .i64 0] := (Blk.new _ _ _).alloc _
        have kS : Blk ((wa.alloc (.cells #[.string ⟨#[116, 104, 114, 101, 101]⟩, .int .i64 3, .slice none 0 0, .int .i64 0, .int .i64 0] 54)).alloc (.cells str3 9)) (wa.heap.size + 1) 9 str3 := Blk.new_at _ _ _ _ (by simp)
        go_wp2
        change Code.wp _ _ _ _ ((wa.alloc (.cells #[.string ⟨#[116, 104, 114, 101, 101]⟩, .int .i64 3, .slice none 0 0, .int .i64 0, .int .i64 0] 54)).alloc (.cells str3 9))
        generalize (wa.alloc (.cells #[.string ⟨#[116, 104, 114, 101, 101]⟩, .int .i64 3, .slice none 0 0, .int .i64 0, .int .i64 0] 54)).alloc (.cells str3 9) = Wb at *
        have hsb : wa.heap.size + 1 < Wb.heap.size := kS.lt
        simp only [hn1, show (1 : Int) * 2 = 2 from rfl, show decide ((0 : Int) < 2) = true from rfl]
        clear hn1
        go_loopw [57] (fun iv wr => ∃ (i : Nat) (ls : List Label) (lv : Value), i ≤ 6 ∧ iv = .int .i64 i ∧ Below wa.heap.size Wb wr ∧ Blk wr wa.heap.size 54 #[.string ⟨#[116, 104, 114, 101, 101]⟩, .int .i64 3, lv, .int .i64 0, .int .i64 0] ∧ Blk wr (wa.heap.size + 1) 9 str3 ∧ OwnLabels (wa.heap.size + 2) wr lv ls ∧ Hid (ls = labelsBy (n / 256) lab3 i))
          (fun iv _ => 6 - (intOf iv).toNat)
        case atStart => exact ⟨0, [], _, by omega, rfl, Below.refl _ _, kX, kS, OwnL.nil_, rfl⟩
        case round =>
          obtain ⟨i, ls, lv, hi, rfl, hbr, hbk, hbs, hown, hls⟩ := hrel
          have hszr : wa.heap.size + 1 < wr.heap.size := hbs.lt
          have hll2 : ls.length ≤ 6 := by rw [hls.out]; have := labelsBy_len (n / 256) lab3 i; omega
          by_cases hlt : i < 6
          · have c0 : wr.cell? ⟨wa.heap.size + 1, i, none⟩ = some (.string (labAt lab3 i).pre) := (hbs.cell i).trans (str3_at i hlt)
            obtain ⟨hps, hgr⟩ := lab3_at i hlt
            have hlab := Lib.hid (show labAt lab3 i = ⟨(labAt lab3 i).pre, (labAt lab3 i).group⟩ from rfl)
            have hps' := Lib.hid hps
            have hgr' := Lib.hid hgr
            clear hps hgr
            generalize (labAt lab3 i).pre = p at *
            generalize (labAt lab3 i).group = gp at *
            have hlt' : decide ((i : Int) < 6) = true := by simp; omega
            have n0 : (0 : Int) ≤ (i : Int) := by omega
            have n1 : (i : Int) < 6 := by omega
            have q5 : bits .and .u32 ((n : Int) / 2 ^ (8 + i)) 1 = ((n / 256 / 2 ^ i % 2 : Nat) : Int) := shr_bits n 8 i hn
            by_cases hbit5 : n / 256 / 2 ^ i % 2 = 1
            · rw [hbit5] at q5
              have hls2 : Hid (ls ++ [⟨p, gp⟩] = labelsBy (n / 256) lab3 (i + 1)) := by rw [labelsBy, if_pos hbit5, hlab.out, ← hls.out]; rfl
              have hown' := Lib.hid hown
              have hbk' := Lib.hid hbk
              have hbs' := Lib.hid hbs
              obtain ⟨A3, c3, rfl⟩ := hown.form_
              have x2 := hbk.cell 2
              simp at x2
              obtain ⟨i0, hi0, hz0, hz1, hz2⟩ := info_parts label_info
              have xa : ∀ (o : Obj), (wr.alloc o).cell? ⟨wa.heap.size, 2, none⟩ = some (.slice A3 ls.length c3) := fun o => (World.cell?_alloc_lt _ _ _ (by show wa.heap.size < _; omega)).trans x2
              have hneq : some wa.heap.size ≠ (Value.slice A3 ls.length c3).ownBlock := fun e => by have := (hown.1.lt _ e.symm).1; omega
              have hneq2 : some (wa.heap.size + 1) ≠ (Value.slice A3 ls.length c3).ownBlock := fun e => by have := (hown.1.lt _ e.symm).1; omega
              have sd1 : ls.length + 1 ≤ maxLen := by unfold maxLen; omega
              have sd4 : (ls.length + 1) * 32 ≤ 140737488355328 := by omega
              have hlin : p.size ≤ maxLen ∧ gp.size ≤ maxLen := ⟨by rw [hps'.out]; exact small_max (by omega), by rw [← hgr'.out]; exact small_max (by first | decide | (rw [ByteArray.size_append, ByteArray.size_extract, show (⟨#[71]⟩ : ByteArray).size = 1 from rfl]; omega))⟩
              have hlin' := Lib.hid hlin
              have az : SmallSumL ⟨#[71]⟩ (p.extract 0 1) := by unfold SmallSumL; rw [show (⟨#[71]⟩ : ByteArray).size = 1 from rfl, ByteArray.size_extract]; omega
              have p3 : (1 : Int) ≤ (p.size : Int) := by rw [hps'.out]; decide
              have p4 : 1 ≤ p.size := by rw [hps'.out]; decide
              clear hown hbk hbs hbit5 hlin
              go_wp2
              go_region_law ((refine step_append_lies _ (by rfl) (.tmp 69) (.tmp 75) 52 (by rfl) (wa.heap.size + 2) 90 i0 (.agg #[.string ⟨#[]⟩, .string ⟨#[]⟩]) 2 32 Try.underlying52 hi0 hz0 hz1 hz2 rfl (by decide) (.slice A3 ls.length c3) ls.length _ (by rfl) (by exact hown'.out.1.alloc _) ⟨wr.heap.size, 0, none⟩ 1 1 [.string p, .string (⟨#[71]⟩ ++ p.extract 0 1)] (by rfl) rfl (by exact World.news_of_block (cs := #[.string p, .string (⟨#[71]⟩ ++ p.extract 0 1)]) (heap_alloc_new _ _)) (one2 rfl rfl) Nat.one_pos sd1 sd4 (by simp; omega) (wr.heap.size + 1) (by simp) ?_; intro g cap w1 hown1 hgr1 hat1 hlt1; have hbk1 := Blk.grown (by exact hbk'.out.alloc _) hgr1 hneq; have y1 := hbk1.cell 2; have yf := hbk1.frozen 2; simp only [List.getElem?_toArray, List.getElem?_cons_succ, List.getElem?_cons_zero] at y1; clear hbk1))
              all_goals
                have hR := field_append labelIn_inner (i := 2) (a := ⟨p, (⟨#[71]⟩ ++ p.extract 0 1)⟩) hbr hbk'.out hown'.out (by first | exact ((Below.refl _ _).alloc (Nat.le_refl _) _).drew | exact (Below.refl _ _).drew.alloc (Nat.le_refl _) _) (by omega) (Nat.le_refl _) (by rw [hgr'.out]; exact hlin'.out) hown1 rfl hgr1 (hat1.imp_right (fun e => by simp [e]))
                have hS2 := ((hbs'.out.below (w' := _) (by first | exact ((Below.refl _ _).alloc (Nat.le_refl _) _).drew | exact (Below.refl _ _).drew.alloc (Nat.le_refl _) _) hszr).grown hgr1 hneq2).far (p := ⟨wa.heap.size, 2, none⟩) (by simp) (.slice (some ⟨g, 0, none⟩) (ls.length + 1) cap)
                rw [hgr'.out] at hR
                clear hown1 hgr1 hat1 hlt1
                go_wp2
                go_roundw
                case rel => exact ⟨i + 1, _, _, by omega, by go_num, hR.1, hR.2.1, hS2, hR.2.2, hls2⟩
                case measure => simp [intOf]; omega
            · rw [show n / 256 / 2 ^ i % 2 = 0 from by omega] at q5
              have hls2 : Hid (ls = labelsBy (n / 256) lab3 (i + 1)) := by rw [labelsBy, if_neg hbit5]; exact hls
              have hown' := Lib.hid hown
              have hbk' := Lib.hid hbk
              have hbs' := Lib.hid hbs
              clear hown hbk hbs hbit5
              go_wp2
              go_roundw
              case rel => exact ⟨i + 1, _, _, by omega, by go_num, hbr, hbk'.out, hbs'.out, hown'.out, hls2⟩
              case measure => simp [intOf]; omega
          · have hlt' : decide ((i : Int) < 6) = false := by simp; omega
            have hi9 : i = 6 := by omega
            subst hi9
            have hWw : Below wa.heap.size wa wr := hXb.trans hbr
            have l0 := hbk.cell 0
            have l1 := hbk.cell 1
            have l2 := hbk.cell 2
            have l3 := hbk.cell 3
            have l4 := hbk.cell 4
            have hOw := Lib.hid (kO.below hWw (by have := kO.lt; omega))
            have hLw := Lib.hid ((kL'.out.below hW0w (by omega)).below hWw (by omega))
            have hCw := Lib.hid ((kC'.out.below hW0w (by omega)).below hWw (by omega))
            have hcvw := Lib.hid (hcv'.out.stays (Stays.of (hb0.trans ((hW0w.mono (by omega)).trans (hWw.mono (by omega))))))
            have hoLw := Lib.hid (howL.out.keep levelIn_inner (Keeps.of_below hWw _))
            have hlb : IsLabelsP (fun b => w.heap.size + 3 ≤ b ∧ some b ≠ ov.ownBlock) wr lv ls := (OwnLabels.labels hown).keep ⟨Nat.le_refl _, fun _ _ _ => rfl⟩ (fun b hb hp => ⟨by omega, fun e => by have := (howL.out.block_lt e.symm).2; omega⟩)
            have hlb' := Lib.hid hlb
            obtain ⟨A3, c3, rfl⟩ := hown.form_
            simp at l0 l1 l2 l3 l4
            have hls' := Lib.hid hls.out
            clear hown hbk hbs hls hlb
            go_wp2_with fail
            refine (addLevel_any ⟨#[116, 104, 114, 101, 101]⟩ 3 ls _ ov _ lps cents (w.heap.size + 1 + 1) (w.heap.size + 3) w.heap.size (w.heap.size + 1) wr hOw.out hoLw.out hLw.out hCw.out hcvw.out hcb'.out hlb'.out (small_max (by decide)) (by omega) (by omega) hlps).mono ?_
            rintro e w9 ⟨rfl, ov9, h91, h92, h93⟩
            have hm9 : Hid ((lps ++ [((⟨⟨#[116, 104, 114, 101, 101]⟩, 3, ls, 1, cents.getD lps.length 0⟩ : Level), Value.slice A3 ls.length c3)]).map (·.1) = made3 n cents) := by
              rw [made3, if_pos hbit, addL, ← hls'.out]
              have hq := congrArg List.length hmp.out
              rw [List.length_map] at hq
              rw [← hmp.out, List.map_append, List.length_map]; rfl
            go_wp2
            go_meet
            exact ⟨ov9, _, rfl, h91, h92, (hW0w.trans ((hWw.mono (by omega)).trans (h93.mono (by omega)))), hm9⟩
      · have hn1 : (n : Int) / 2 % 2 = 0 := by omega
        rw [show n / 2 % 2 = 0 from by omega] at q2
        go_wp2
        go_meet
        exact ⟨_, _, rfl, kO, howL.out, hW0w, by rw [made3, if_neg hbit]; exact hmp⟩
    case rest =>
      obtain ⟨ov, lps, rfl, kO, how, hW0w, hmp⟩ := hcut
      obtain ⟨wb, rfl⟩ : ∃ wz : World, wz = wc := ⟨_, rfl⟩
      have howL := Lib.hid how
      clear how
      have hlps : lps.length ≤ 10 := by have h1 := congrArg List.length hmp.out; rw [List.length_map] at h1; have := made3_len n cents; omega
      have hsa : w.heap.size + 1 + 1 < wb.heap.size := kO.lt
      go_upto_if 84 with fail
      go_cut [7, 15, 16, 17] (fun s7 _ _ _ wx => ∃ ov lps, s7 = .pointer (some ⟨w.heap.size + 1 + 1, 0, none⟩) ∧ Blk wx (w.heap.size + 1 + 1) 32 #[ov] ∧ OwnLevels (w.heap.size + 3) wx ov lps ∧ Below (w.heap.size + 2) W0 wx ∧ Hid (lps.map (·.1) = made1 n cents))
      case first =>
        by_cases hbit : n / 4 % 2 = 1
        · have hn1 : (n : Int) / 4 % 2 = 1 := by omega
          rw [hbit] at q4
          have hXb : Below wb.heap.size wb ((wb.alloc (.cells #[.string ⟨#[111, 110, 101]⟩, .int .i64 1, .slice none 0 0, .int .i64 0, .int .i64 0] 54)).alloc (.cells str1 9)) := ((Below.refl _ _).alloc (Nat.le_refl _) _).alloc (by simp) _
          have kX : Blk ((wb.alloc (.cells #[.string ⟨#[111, 110, 101]⟩, .int .i64 1, .slice none 0 0, .int .i64 0, .int .i64 0] 54)).alloc (.cells str1 9)) wb.heap.size 54 #[.string ⟨#[111, 110, 101]⟩, .int .i64 1, .slice none 0 0, .int .i64 0, .int .i64 0] := (Blk.new _ _ _).alloc _
          have kS : Blk ((wb.alloc (.cells #[.string ⟨#[111, 110, 101]⟩, .int .i64 1, .slice none 0 0, .int .i64 0, .int .i64 0] 54)).alloc (.cells str1 9)) (wb.heap.size + 1) 9 str1 := Blk.new_at _ _ _ _ (by simp)
          go_wp2
          change Code.wp _ _ _ _ ((wb.alloc (.cells #[.string ⟨#[111, 110, 101]⟩, .int .i64 1, .slice none 0 0, .int .i64 0, .int .i64 0] 54)).alloc (.cells str1 9))
          generalize (wb.alloc (.cells #[.string ⟨#[111, 110, 101]⟩, .int .i64 1, .slice none 0 0, .int .i64 0, .int .i64 0] 54)).alloc (.cells str1 9) = Wb at *
          have hsb : wb.heap.size + 1 < Wb.heap.size := kS.lt
          simp only [hn1, show (1 : Int) * 4 = 4 from rfl, show decide ((0 : Int) < 4) = true from rfl]
          clear hn1
          go_loopw [88] (fun iv wr => ∃ (i : Nat) (ls : List Label) (lv : Value), i ≤ 3 ∧ iv = .int .i64 i ∧ Below wb.heap.size Wb wr ∧ Blk wr wb.heap.size 54 #[.string ⟨#[111, 110, 101]⟩, .int .i64 1, lv, .int .i64 0, .int .i64 0] ∧ Blk wr (wb.heap.size + 1) 9 str1 ∧ OwnLabels (wb.heap.size + 2) wr lv ls ∧ Hid (ls = labelsBy (n / 16384) lab1 i))
            (fun iv _ => 3 - (intOf iv).toNat)
          case atStart => exact ⟨0, [], _, by omega, rfl, Below.refl _ _, kX, kS, OwnL.nil_, rfl⟩
          case round =>
            obtain ⟨i, ls, lv, hi, rfl, hbr, hbk, hbs, hown, hls⟩ := hrel
            have hszr : wb.heap.size + 1 < wr.heap.size := hbs.lt
            have hll2 : ls.length ≤ 3 := by rw [hls.out]; have := labelsBy_len (n / 16384) lab1 i; omega
            by_cases hlt : i < 3
            · have c0 : wr.cell? ⟨wb.heap.size + 1, i, none⟩ = some (.string (labAt lab1 i).pre) := (hbs.cell i).trans (str1_at i hlt)
              obtain ⟨hps, hgr⟩ := lab1_at i hlt
              have hlab := Lib.hid (show labAt lab1 i = ⟨(labAt lab1 i).pre, (labAt lab1 i).group⟩ from rfl)
              have hps' := Lib.hid hps
              have hgr' := Lib.hid hgr
              clear hps hgr
              generalize (labAt lab1 i).pre = p at *
              generalize (labAt lab1 i).group = gp at *
              have hlt' : decide ((i : Int) < 3) = true := by simp; omega
              have n0 : (0 : Int) ≤ (i : Int) := by omega
              have n1 : (i : Int) < 3 := by omega
              have q5 : bits .and .u32 ((n : Int) / 2 ^ (14 + i)) 1 = ((n / 16384 / 2 ^ i % 2 : Nat) : Int) := shr_bits n 14 i hn
              by_cases hbit5 : n / 16384 / 2 ^ i % 2 = 1
              · rw [hbit5] at q5
                have hls2 : Hid (ls ++ [⟨p, gp⟩] = labelsBy (n / 16384) lab1 (i + 1)) := by rw [labelsBy, if_pos hbit5, hlab.out, ← hls.out]; rfl
                have hown' := Lib.hid hown
                have hbk' := Lib.hid hbk
                have hbs' := Lib.hid hbs
                obtain ⟨A3, c3, rfl⟩ := hown.form_
                have x2 := hbk.cell 2
                simp at x2
                obtain ⟨i0, hi0, hz0, hz1, hz2⟩ := info_parts label_info
                have xa : ∀ (o : Obj), (wr.alloc o).cell? ⟨wb.heap.size, 2, none⟩ = some (.slice A3 ls.length c3) := fun o => (World.cell?_alloc_lt _ _ _ (by show wb.heap.size < _; omega)).trans x2
                have hneq : some wb.heap.size ≠ (Value.slice A3 ls.length c3).ownBlock := fun e => by have := (hown.1.lt _ e.symm).1; omega
                have hneq2 : some (wb.heap.size + 1) ≠ (Value.slice A3 ls.length c3).ownBlock := fun e => by have := (hown.1.lt _ e.symm).1; omega
                have sd1 : ls.length + 1 ≤ maxLen := by unfold maxLen; omega
                have sd4 : (ls.length + 1) * 32 ≤ 140737488355328 := by omega
                have hlin : p.size ≤ maxLen ∧ gp.size ≤ maxLen := ⟨by rw [hps'.out]; exact small_max (by omega), by rw [← hgr'.out]; exact small_max (by first | decide | (rw [ByteArray.size_append, ByteArray.size_extract, show (⟨#[90]⟩ : ByteArray).size = 1 from rfl]; omega))⟩
                have hlin' := Lib.hid hlin
                clear hown hbk hbs hbit5 hlin
                go_wp2_with (at_builtin; refine wpList_append_lies _ rfl (.tmp 100) (.tmp 103) 52 rfl (wb.heap.size + 2) 90 i0 (.agg #[.string ⟨#[]⟩, .string ⟨#[]⟩]) 2 32 Try.underlying52 hi0 hz0 hz1 hz2 rfl (by decide) (.slice A3 ls.length c3) ls.length _ rfl (by exact hown'.out.1.alloc _) ⟨wr.heap.size, 0, none⟩ 1 1 [.string p, .string (⟨#[90]⟩)] rfl rfl (by exact World.news_of_block (cs := #[.string p, .string (⟨#[90]⟩)]) (heap_alloc_new _ _)) (one2 rfl rfl) Nat.one_pos sd1 sd4 (by simp; omega) (wr.heap.size + 1) (by simp) ?_; intro g cap w1 hown1 hgr1 hat1 hlt1; have hbk1 := Blk.grown (by exact hbk'.out.alloc _) hgr1 hneq; have y1 := hbk1.cell 2; have yf := hbk1.frozen 2; simp only [List.getElem?_toArray, List.getElem?_cons_succ, List.getElem?_cons_zero] at y1; clear hbk1)
                all_goals
                  have hR := field_append labelIn_inner (i := 2) (a := ⟨p, ⟨#[90]⟩⟩) hbr hbk'.out hown'.out ((Below.refl _ _).alloc (Nat.le_refl _) _) (by omega) (Nat.le_refl _) (by rw [hgr'.out]; exact hlin'.out) hown1 rfl hgr1 (hat1.imp_right (fun e => by simp [e]))
                  have hS2 := ((hbs'.out.below (w' := _) ((Below.refl _ _).alloc (Nat.le_refl _) _) hszr).grown hgr1 hneq2).far (p := ⟨wb.heap.size, 2, none⟩) (by simp) (.slice (some ⟨g, 0, none⟩) (ls.length + 1) cap)
                  rw [hgr'.out] at hR
                  clear hown1 hgr1 hat1 hlt1
                  go_wp2
                  go_roundw
                  case rel => exact ⟨i + 1, _, _, by omega, by go_num, hR.1, hR.2.1, hS2, hR.2.2, hls2⟩
                  case measure => simp [intOf]; omega
              · rw [show n / 16384 / 2 ^ i % 2 = 0 from by omega] at q5
                have hls2 : Hid (ls = labelsBy (n / 16384) lab1 (i + 1)) := by rw [labelsBy, if_neg hbit5]; exact hls
                have hown' := Lib.hid hown
                have hbk' := Lib.hid hbk
                have hbs' := Lib.hid hbs
                clear hown hbk hbs hbit5
                go_wp2
                go_roundw
                case rel => exact ⟨i + 1, _, _, by omega, by go_num, hbr, hbk'.out, hbs'.out, hown'.out, hls2⟩
                case measure => simp [intOf]; omega
            · have hlt' : decide ((i : Int) < 3) = false := by simp; omega
              have hi9 : i = 3 := by omega
              subst hi9
              have hWw : Below wb.heap.size wb wr := hXb.trans hbr
              have l0 := hbk.cell 0
              have l1 := hbk.cell 1
              have l2 := hbk.cell 2
              have l3 := hbk.cell 3
              have l4 := hbk.cell 4
              have hOw := Lib.hid (kO.below hWw (by have := kO.lt; omega))
              have hLw := Lib.hid ((kL'.out.below hW0w (by omega)).below hWw (by omega))
              have hCw := Lib.hid ((kC'.out.below hW0w (by omega)).below hWw (by omega))
              have hcvw := Lib.hid (hcv'.out.stays (Stays.of (hb0.trans ((hW0w.mono (by omega)).trans (hWw.mono (by omega))))))
              have hoLw := Lib.hid (howL.out.keep levelIn_inner (Keeps.of_below hWw _))
              have hlb : IsLabelsP (fun b => w.heap.size + 3 ≤ b ∧ some b ≠ ov.ownBlock) wr lv ls := (OwnLabels.labels hown).keep ⟨Nat.le_refl _, fun _ _ _ => rfl⟩ (fun b hb hp => ⟨by omega, fun e => by have := (howL.out.block_lt e.symm).2; omega⟩)
              have hlb' := Lib.hid hlb
              obtain ⟨A3, c3, rfl⟩ := hown.form_
              simp at l0 l1 l2 l3 l4
              have hls' := Lib.hid hls.out
              clear hown hbk hbs hls hlb
              go_wp2_with fail
              refine (addLevel_any ⟨#[111, 110, 101]⟩ 1 ls _ ov _ lps cents (w.heap.size + 1 + 1) (w.heap.size + 3) w.heap.size (w.heap.size + 1) wr hOw.out hoLw.out hLw.out hCw.out hcvw.out hcb'.out hlb'.out (small_max (by decide)) (by omega) (by omega) hlps).mono ?_
              rintro e w9 ⟨rfl, ov9, h91, h92, h93⟩
              have hm9 : Hid ((lps ++ [((⟨⟨#[111, 110, 101]⟩, 1, ls, 1, cents.getD lps.length 0⟩ : Level), Value.slice A3 ls.length c3)]).map (·.1) = made1 n cents) := by
                rw [made1, if_pos hbit, addL, ← hls'.out]
                have hq := congrArg List.length hmp.out
                rw [List.length_map] at hq
                rw [← hmp.out, List.map_append, List.length_map]; rfl
              go_wp2
              go_meet
              exact ⟨ov9, _, rfl, h91, h92, (hW0w.trans ((hWw.mono (by omega)).trans (h93.mono (by omega)))), hm9⟩
        · have hn1 : (n : Int) / 4 % 2 = 0 := by omega
          rw [show n / 4 % 2 = 0 from by omega] at q4
          go_wp2
          go_meet
          exact ⟨_, _, rfl, kO, howL.out, hW0w, by rw [made1, if_neg hbit]; exact hmp⟩
      case rest =>
        obtain ⟨ov, lps, rfl, kO, how, hW0w, hmp⟩ := hcut
        obtain ⟨wd, rfl⟩ : ∃ wz : World, wz = wc := ⟨_, rfl⟩
        have howL := Lib.hid how
        clear how
        have hlps : lps.length ≤ 10 := by have h1 := congrArg List.length hmp.out; rw [List.length_map] at h1; have := made1_len n cents; omega
        have hsa : w.heap.size + 1 + 1 < wd.heap.size := kO.lt
        obtain ⟨Ao, co, rfl⟩ := howL.out.form_
        have hbwd : Below w.heap.size w wd := hb0.trans (hW0w.mono (by omega))
        have hCw := kC'.out.below hW0w (by omega)
        obtain ⟨i0, hi0, hz0, hz1, hz2⟩ := info_parts level_info
        have sd1 : lps.length + 1 ≤ maxLen := by unfold maxLen; omega
        have sd4 : (lps.length + 1) * 64 ≤ 140737488355328 := by omega
        have hfin : Hid (madeLevels n cents = lps.map (·.1) ++ [⟨⟨#[97, 108, 108]⟩, 0, [], 0, cents.getD lps.length 0⟩]) := by unfold madeLevels; rw [← hmp.out, List.length_map]; rfl
        obtain ⟨Ax, cx, hcx, _, _, hAc⟩ := hcv'.out.stays (Stays.of hbwd)
        injection hcx with e1 e2 e3
        subst e1 e3
        clear e2
        by_cases hk : lps.length < cents.length
        · obtain ⟨b, off, rfl, hb, hR⟩ := hAc (by omega)
          have r0 : wd.cell? ⟨b, off + lps.length, none⟩ = some (.int .u8 (cents.getD lps.length 0)) := hR _ hk
          obtain ⟨hx0, hx1⟩ := hcb'.out (cents.getD lps.length 0) (by rw [getD_of _ _ _ hk]; exact List.getElem_mem hk)
          generalize cents.getD lps.length 0 = ck at *
          have aO : ∀ (o : Obj), (wd.alloc o).cell? ⟨w.heap.size + 1 + 1, 0, none⟩ = some (.slice Ao lps.length co) := fun o => (World.cell?_alloc_lt _ _ _ (by exact hsa)).trans (kO.cell 0)
          have aC : ∀ (o : Obj), (wd.alloc o).cell? ⟨w.heap.size + 1, 0, none⟩ = some (.slice (some ⟨b, off, none⟩) cents.length cc) := fun o => (World.cell?_alloc_lt _ _ _ (by show w.heap.size + 1 < _; omega)).trans (hCw.cell 0)
          have aR : ∀ (o : Obj), (wd.alloc o).cell? ⟨b, off + lps.length, none⟩ = some (.int .u8 ck) := fun o => (World.cell?_alloc_lt _ _ _ (by exact hb)).trans r0
          have hk' : decide ((lps.length : Int) < (cents.length : Int)) = true := by simp; omega
          have n0 : (0 : Int) ≤ (lps.length : Int) := by omega
          clear hR hAc
          have hW2 : Below wd.heap.size wd ((wd.alloc (.cells #[.string ⟨#[97, 108, 108]⟩, .int .i64 0, .slice none 0 0, .int .i64 0, .int .i64 ck] 54)).alloc (.cells #[.string ⟨#[97, 108, 108]⟩, .int .i64 0, .slice none 0 0, .int .i64 0, .int .i64 ck] 54)) := ((Below.refl _ _).alloc (Nat.le_refl _) _).alloc (by simp) _
          have hoA := Lib.hid (howL.out.keep levelIn_inner (Keeps.of_below hW2 _))
          have hin : levelIn (fun b => w.heap.size + 3 ≤ b ∧ some b ≠ (Value.slice Ao lps.length co).ownBlock) ((wd.alloc (.cells #[.string ⟨#[97, 108, 108]⟩, .int .i64 0, .slice none 0 0, .int .i64 0, .int .i64 ck] 54)).alloc (.cells #[.string ⟨#[97, 108, 108]⟩, .int .i64 0, .slice none 0 0, .int .i64 0, .int .i64 ck] 54)) (⟨⟨#[97, 108, 108]⟩, 0, [], 0, ck⟩, .slice none 0 0) := ⟨⟨_, _, rfl, Nat.le_refl _, Nat.zero_le _, fun h => absurd h (by simp)⟩, small_max (by show (3 : Nat) ≤ _; omega)⟩
          clear kO hCw
          go_wp2_with (at_builtin; refine wpList_append_lies _ rfl (.tmp 123) (.tmp 125) 32 rfl (w.heap.size + 3) 54 i0 (.agg #[.string ⟨#[]⟩, .int .i64 0, .slice none 0 0, .int .i64 0, .int .i64 0]) 5 64 Try.underlying32 hi0 hz0 hz1 hz2 rfl (by decide) (.slice Ao lps.length co) lps.length (lps.flatMap levelCells) rfl (by exact hoA.out.1) ⟨wd.heap.size + 1, 0, none⟩ 1 1 [.string ⟨#[97, 108, 108]⟩, .int .i64 0, .slice none 0 0, .int .i64 0, .int .i64 ck] rfl rfl (by exact World.news_of_block (cs := #[.string ⟨#[97, 108, 108]⟩, .int .i64 0, .slice none 0 0, .int .i64 0, .int .i64 ck]) (Blk.new_at _ _ _ _ (by simp))) (one5v rfl rfl rfl rfl rfl) Nat.one_pos sd1 sd4 (by simp; omega) (wd.heap.size + 1 + 1) (by simp) ?_; intro g cap w1 hown1 hgr1 hat1 hlt1)
          go_ret
          have hR := slot_append levelIn_inner (Bd := w.heap.size) (a := (⟨⟨#[97, 108, 108]⟩, 0, [], 0, ck⟩, .slice none 0 0)) hbwd howL.out hW2 (by omega) (by omega) hin hown1 rfl hgr1 (hat1.imp_right (fun e => by simp [e]))
          exact ⟨_, _, rfl, hR.2.base levelIn_inner (by omega), by rw [hfin.out, List.map_append]; rfl, hR.1⟩
        · have hc0 : cents.getD lps.length 0 = 0 := by rw [List.getD_eq_getElem?_getD, List.getElem?_eq_none (by omega)]; rfl
          have hk' : decide ((lps.length : Int) < (cents.length : Int)) = false := by simp; omega
          rw [hc0] at hfin
          clear hAc hc0
          have aO : ∀ (o : Obj), (wd.alloc o).cell? ⟨w.heap.size + 1 + 1, 0, none⟩ = some (.slice Ao lps.length co) := fun o => (World.cell?_alloc_lt _ _ _ (by exact hsa)).trans (kO.cell 0)
          have aC : ∀ (o : Obj), (wd.alloc o).cell? ⟨w.heap.size + 1, 0, none⟩ = some (.slice Ac cents.length cc) := fun o => (World.cell?_alloc_lt _ _ _ (by show w.heap.size + 1 < _; omega)).trans (hCw.cell 0)
          have hW2 : Below wd.heap.size wd ((wd.alloc (.cells #[.string ⟨#[97, 108, 108]⟩, .int .i64 0, .slice none 0 0, .int .i64 0, .int .i64 0] 54)).alloc (.cells #[.string ⟨#[97, 108, 108]⟩, .int .i64 0, .slice none 0 0, .int .i64 0, .int .i64 0] 54)) := ((Below.refl _ _).alloc (Nat.le_refl _) _).alloc (by simp) _
          have hoA := Lib.hid (howL.out.keep levelIn_inner (Keeps.of_below hW2 _))
          have hin : levelIn (fun b => w.heap.size + 3 ≤ b ∧ some b ≠ (Value.slice Ao lps.length co).ownBlock) ((wd.alloc (.cells #[.string ⟨#[97, 108, 108]⟩, .int .i64 0, .slice none 0 0, .int .i64 0, .int .i64 0] 54)).alloc (.cells #[.string ⟨#[97, 108, 108]⟩, .int .i64 0, .slice none 0 0, .int .i64 0, .int .i64 0] 54)) (⟨⟨#[97, 108, 108]⟩, 0, [], 0, 0⟩, .slice none 0 0) := ⟨⟨_, _, rfl, Nat.le_refl _, Nat.zero_le _, fun h => absurd h (by simp)⟩, small_max (by show (3 : Nat) ≤ _; omega)⟩
          clear kO hCw
          go_wp2_with (at_builtin; refine wpList_append_lies _ rfl (.tmp 123) (.tmp 125) 32 rfl (w.heap.size + 3) 54 i0 (.agg #[.string ⟨#[]⟩, .int .i64 0, .slice none 0 0, .int .i64 0, .int .i64 0]) 5 64 Try.underlying32 hi0 hz0 hz1 hz2 rfl (by decide) (.slice Ao lps.length co) lps.length (lps.flatMap levelCells) rfl (by exact hoA.out.1) ⟨wd.heap.size + 1, 0, none⟩ 1 1 [.string ⟨#[97, 108, 108]⟩, .int .i64 0, .slice none 0 0, .int .i64 0, .int .i64 0] rfl rfl (by exact World.news_of_block (cs := #[.string ⟨#[97, 108, 108]⟩, .int .i64 0, .slice none 0 0, .int .i64 0, .int .i64 0]) (Blk.new_at _ _ _ _ (by simp))) (one5v rfl rfl rfl rfl rfl) Nat.one_pos sd1 sd4 (by simp; omega) (wd.heap.size + 1 + 1) (by simp) ?_; intro g cap w1 hown1 hgr1 hat1 hlt1)
          go_ret
          have hR := slot_append levelIn_inner (Bd := w.heap.size) (a := (⟨⟨#[97, 108, 108]⟩, 0, [], 0, 0⟩, .slice none 0 0)) hbwd howL.out hW2 (by omega) (by omega) hin hown1 rfl hgr1 (hat1.imp_right (fun e => by simp [e]))
          exact ⟨_, _, rfl, hR.2.base levelIn_inner (by omega), by rw [hfin.out, List.map_append]; rfl, hR.1⟩
end Go.Proofs.Ythbnbfeolfkkaaa
