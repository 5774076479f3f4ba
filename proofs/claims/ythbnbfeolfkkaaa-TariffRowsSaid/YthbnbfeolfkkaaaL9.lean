/- The walk of TariffRows: it returns true. -/
import Derived.Test.YthbnbfeolfkkaaaL6
import Derived.Test.YthbnbfeolfkkaaaL8
import Derived.Deep.DeepCutAuto
namespace Go.Proofs.Ythbnbfeolfkkaaa
open Go.RowKit Go.Maps
attribute [local go_sem ↓] Go.wp_at_zero Go.wp_at_succ

theorem rateSmall_made (ps : List Int) (z s : Nat) (bar : Int) (c : Nat) (hz : 1 ≤ z) (hz3 : z ≤ 3) (hs : 1 ≤ s) (hs3 : s ≤ 3) : ∀ r ∈ madeRates ps z s bar c, RateSmall r := by
  intro r hr
  obtain ⟨k, _, rfl⟩ := List.mem_map.1 hr
  refine ⟨by simp only [madeSteps_len]; omega, by simp only [madeSteps_len]; omega, fun q hq => ?_⟩
  obtain ⟨j, _, rfl⟩ := List.mem_map.1 hq
  simp only [madeCents_len]
  omega
theorem isKs_nil (k : IntKind) (w : World) : IsKs k w (.slice none 0 0) [] := ⟨_, _, rfl, Nat.le_refl _, Nat.zero_le _, fun h => absurd h (by simp)⟩

/-- two strings whose sum is short -/
def SmallSum (a b : ByteArray) : Prop := a.size + b.size ≤ 1000000
theorem run_add_small {P : Program} (w : World) (a b : ByteArray) (h : SmallSum a b) : (Op.stringOp .add a b).run P w = .ok (.string (a ++ b)) w := run_string_add_sum w a b (by unfold SmallSum at h; omega)
attribute [local go_sem ↓] run_add_small
theorem toList_inj {a b : ByteArray} (h : a.toList = b.toList) : a = b := by
  rw [Lib.toList_data, Lib.toList_data] at h
  cases a; cases b; simp at h; rw [h]
theorem more_append {B M U g n cap : Nat} {W4 wA w1 : World} {rv zv : Value} {rs : List Rate} {zs : List Zone} {z : Zone}
    (hRP : IsRatesP (fun b => B ≤ b ∧ b < M) W4 rv rs) (hOZ : OwnZones M W4 zv zs) (hU : Blk W4 U 25 #[rv, zv]) (hBM : B ≤ M) (hMU : M ≤ U) (hzU : ∀ h, zv.ownBlock = some h → h < U)
    (hA : Below W4.heap.size W4 wA) (hin : z.frm.size ≤ maxLen ∧ z.dst.size ≤ maxLen) (hown1 : w1.ownsRow M 67 3 (.slice (some ⟨g, 0, none⟩) n cap) n (zs.flatMap zoneCells ++ zoneCells z)) (hn : n = zs.length + 1)
    (hgr : wA.grownBy w1 zv.ownBlock) (hat : zv.ownBlock = some g ∨ wA.heap.size ≤ g) :
    Below B W4 (w1.setCell ⟨U, 1, none⟩ (.slice (some ⟨g, 0, none⟩) n cap)) ∧ Blk (w1.setCell ⟨U, 1, none⟩ (.slice (some ⟨g, 0, none⟩) n cap)) U 25 #[rv, .slice (some ⟨g, 0, none⟩) n cap] ∧
      IsRates (w1.setCell ⟨U, 1, none⟩ (.slice (some ⟨g, 0, none⟩) n cap)) rv rs ∧ IsZones (w1.setCell ⟨U, 1, none⟩ (.slice (some ⟨g, 0, none⟩) n cap)) (.slice (some ⟨g, 0, none⟩) n cap) (zs ++ [z]) := by
  subst hn
  have hs := hA.size
  have hUlt := hU.lt
  have hzM : ∀ h, zv.ownBlock = some h → M ≤ h := fun h e => (hOZ.1.lt h e).1
  have hownA : OwnZones M wA zv zs := hOZ.keep zoneIn_inner (Keeps.of_below hA _)
  have happ := hownA.append zoneIn_inner hin hown1 hgr (by
    rcases hat with e | e
    · exact .inl (by rw [e]; rfl)
    · exact .inr ⟨g, rfl, e⟩)
  have hU1 := (hU.below hA hUlt).grown hgr (fun e => by have := hzU _ e.symm; omega)
  have hgU : g ≠ U := by
    rcases hat with e | e
    · have := hzU _ e; omega
    · omega
  refine ⟨?_, hU1.set_ 1 _, ?_, ?_⟩
  · exact (((Below.refl _ _).trans (hA.mono (by omega))).grown hgr (by omega) (fun h e => by have := hzM h e; omega)).setCell (by simp; omega) _
  · refine (hRP.keep (Q := fun _ => True) ⟨?_, fun b hb hp => ?_⟩ (fun _ _ _ => trivial)).plain
    · have := hgr.size; simp [World.setCell]; omega
    · rw [Below.heap_setCell _ _ _ _ (by simp; omega), hgr.block b (by omega) (fun e => by have := hzM _ e.symm; omega), hA.block b (by omega)]
  · refine OwnZones.zones (happ.far (fun _ _ _ _ _ h => h) fun h e => Below.heap_setCell _ _ _ _ ?_)
    have : h = g := by simpa [Value.ownBlock] using e.symm
    simp; omega

set_option maxRecDepth 100000 in
set_option maxHeartbeats 8000000 in
theorem rows_any (n : Nat) (a b c d zn : Int) (w : World) (hn : n < 4294967296) (ha0 : 0 ≤ a) (ha1 : a ≤ 255) (hb0 : 0 ≤ b) (hb1 : b ≤ 255) (hc0 : 0 ≤ c) (hc1 : c ≤ 255) (hd0 : 0 ≤ d) (hd1 : d ≤ 255) :
    Calls Try.prog 6 #[.int .u32 (n : Int), .int .u8 a, .int .u8 b, .int .u8 c, .int .u8 d, .int .i64 zn] w fun e w' => e = .returned (.bool true) ∧ Below w.heap.size w w' := by
  go_enter Try.func6, Try.ntmps6
  go_wp2_with fail
  refine (awake_any _).mono ?_
  rintro e w1 ⟨rfl, hbw1⟩
  go_wp2_with fail
  refine (made_any n _ _ _ _ [] _ _ hn (isKs_nil _ _) (by simp) rfl rfl rfl rfl).mono ?_
  rintro e w2 ⟨rv, zv, rfl, hR, hZ, hbw2⟩
  have hbW := hbw1.trans (hbw2.mono hbw1.size)
  clear hbw1 hbw2
  have hz1 : 1 ≤ 1 + n / 16 % 4 % 3 ∧ 1 + n / 16 % 4 % 3 ≤ 3 := by omega
  have hc2 : 1 ≤ n % 4 % 3 + 1 ∧ n % 4 % 3 + 1 ≤ 3 := by omega
  have hs1 : 1 ≤ n / 4 % 4 % 3 + 1 ∧ n / 4 % 4 % 3 + 1 ≤ 3 := by omega
  have hbr : n / 64 % 32 ≤ 31 := by omega
  generalize 1 + n / 16 % 4 % 3 = nz at *
  generalize n % 4 % 3 + 1 = nc at *
  generalize n / 4 % 4 % 3 + 1 = ns at *
  generalize n / 64 % 32 = br at *
  generalize hm : n / 2048 = m at *
  clear hm
  obtain ⟨hz1, hz3⟩ := hz1
  obtain ⟨hc2, hc3⟩ := hc2
  obtain ⟨hs1, hs3x⟩ := hs1
  have hsm := Lib.hid (rateSmall_made [] nz ns br nc hz1 hz3 hs1 hs3x)
  have hrl := Lib.hid (madeRates_len [] nz ns br nc)
  have hzl := Lib.hid (madeRows_len m nz 9)
  -- the first cents of the first step of the first rate
  have hfirst : ∃ b0 off0 c0 b3 off3 c3 A4 c4, rv = .slice (some ⟨b0, off0, none⟩) nc c0 ∧ b0 < w2.heap.size ∧ b3 < w2.heap.size ∧ w2.cell? ⟨b0, off0 + 1, none⟩ = some (.slice (some ⟨b3, off3, none⟩) ns c3) ∧ w2.cell? ⟨b3, off3 + 1, none⟩ = some (.slice A4 nz c4) := by
    obtain ⟨A1, c1, rfl, _, _, hA1⟩ := hR
    rw [madeRates_len] at hA1
    obtain ⟨b0, off0, rfl, hb0, hrow⟩ := hA1 (by omega)
    have hrate : IsRate w2 b0 (off0 + 0 * 3) ((madeRates [] nz ns br nc).getD 0 Rate.zero) := hrow 0 (by omega)
    rw [getD_of _ _ _ (by rw [madeRates_len]; omega)] at hrate
    simp only [madeRates, List.getElem_map, List.getElem_range] at hrate
    obtain ⟨_, ⟨sv, r1, hS⟩, _⟩ := hrate
    obtain ⟨A3, c3, rfl, _, _, hA3⟩ := hS
    simp only [madeSteps_len] at hA3 r1
    obtain ⟨b3, off3, rfl, hb3, hrow3⟩ := hA3 (by omega)
    have hst : IsStep w2 b3 (off3 + 0 * 2) ((madeSteps [] nz 0 ns).getD 0 Step.zero) := hrow3 0 (by omega)
    rw [getD_of _ _ _ (by rw [madeSteps_len]; omega)] at hst
    simp only [madeSteps, List.getElem_map, List.getElem_range] at hst
    obtain ⟨_, cv0, g1, hI0⟩ := hst
    obtain ⟨A4, c4, rfl, _⟩ := hI0
    simp only [madeCents_len] at g1
    exact ⟨b0, off0, c1, b3, off3, c3, A4, c4, by rw [madeRates_len], hb0, hb3, by simpa using r1, by simpa using g1⟩
  obtain ⟨b0, off0, c0, b3, off3, c3, A4, c4, rfl, hb0l, hb3l, q0, q1⟩ := hfirst
  have hR2 := Lib.hid hR
  have hZ2 := Lib.hid hZ
  obtain ⟨A2, c2, rfl, _, _, hA2⟩ := hZ
  clear hA2 hR
  generalize hlz : (madeRows m nz 9).length = lz at *
  have hlz' := Lib.hid hlz
  clear hlz
  obtain ⟨zz, hzz, hzz2⟩ := nat_of (x := zn) (n := (nz : Int)) (by omega)
  have hzz' := Lib.hid hzz
  clear hzz
  have hT := Lib.hid ((Blk.new w2 25 #[.slice (some ⟨b0, off0, none⟩) nc c0, .slice A2 lz c2]).alloc (.cells #[.int .u8 a, .int .u8 b, .int .u8 c, .int .u8 d] 5))
  have hTb : Below w2.heap.size w2 ((w2.alloc (.cells #[.slice (some ⟨b0, off0, none⟩) nc c0, .slice A2 lz c2] 25)).alloc (.cells #[.int .u8 a, .int .u8 b, .int .u8 c, .int .u8 d] 5)) := ((Below.refl _ _).alloc (Nat.le_refl _) _).alloc (by simp) _
  have hD : Blk ((w2.alloc (.cells #[.slice (some ⟨b0, off0, none⟩) nc c0, .slice A2 lz c2] 25)).alloc (.cells #[.int .u8 a, .int .u8 b, .int .u8 c, .int .u8 d] 5)) (w2.heap.size + 1) 5 #[.int .u8 a, .int .u8 b, .int .u8 c, .int .u8 d] := Blk.new_at _ _ _ _ (by simp)
  have hKs : IsKs .u8 ((w2.alloc (.cells #[.slice (some ⟨b0, off0, none⟩) nc c0, .slice A2 lz c2] 25)).alloc (.cells #[.int .u8 a, .int .u8 b, .int .u8 c, .int .u8 d] 5)) (.slice (some ⟨w2.heap.size + 1, 0, none⟩) 4 4) [a, b, c, d] := by
    refine Sl.mk_ hD.lt (Nat.le_refl _) (small_max (by omega)) fun i hi => ?_
    show World.cell? _ ⟨w2.heap.size + 1, 0 + i, none⟩ = _
    rw [hD.cell]
    have : i = 0 ∨ i = 1 ∨ i = 2 ∨ i = 3 := by have : i < 4 := hi; omega
    rcases this with rfl | rfl | rfl | rfl <;> rfl
  have hKs' := Lib.hid hKs
  clear hKs hD
  go_wp2_with fail
  refine (codes_any _ [a, b, c, d] _ hKs'.out (by simp; omega) (by simp)).mono ?_
  rintro e w3 ⟨sv, rfl, hOs, hbw3⟩
  generalize (w2.alloc (.cells #[.slice (some ⟨b0, off0, none⟩) nc c0, .slice A2 lz c2] 25)).alloc (.cells #[.int .u8 a, .int .u8 b, .int .u8 c, .int .u8 d] 5) = W2 at *
  have hS3 : Below w2.heap.size w2 w3 := hTb.trans (hbw3.mono hTb.size)
  have hT3 := hT.out.below hbw3 hT.out.lt
  have hstr := OwnStrs.strs hOs
  clear hOs hKs' hT
  obtain ⟨A5, c5, rfl, _, _, hA5⟩ := hstr
  obtain ⟨bs, os, rfl, hbs, hrow5⟩ := hA5 (by simp)
  have s0 : w3.cell? ⟨bs, os + 0, none⟩ = some (.string (codeOf a)) := hrow5 0 (by simp)
  have s1 : w3.cell? ⟨bs, os + 1, none⟩ = some (.string (codeOf b)) := hrow5 1 (by simp)
  have s2 : w3.cell? ⟨bs, os + 2, none⟩ = some (.string (codeOf c)) := hrow5 2 (by simp)
  have s3 : w3.cell? ⟨bs, os + 3, none⟩ = some (.string (codeOf d)) := hrow5 3 (by simp)
  rw [Nat.add_zero] at s0
  clear hrow5 hA5
  have hbW3 : Below w.heap.size w w3 := hbW.trans (hS3.mono hbW.size)
  rw [← hS3.cell (p := ⟨b0, off0 + 1, none⟩) hb0l] at q0
  rw [← hS3.cell (p := ⟨b3, off3 + 1, none⟩) hb3l] at q1
  have t0 := hT3.cell 0
  have t1 := hT3.cell 1
  simp at t0 t1
  have ca := isCode_of ha0 ha1
  have cb := isCode_of hb0 hb1
  have cc := isCode_of hc0 hc1
  have cd := isCode_of hd0 hd1
  have za := codeOf_size a
  have zb := codeOf_size b
  have zc := codeOf_size c
  have zd := codeOf_size d
  simp only [List.length_map, List.length_cons, List.length_nil]
  generalize codeOf a = l0 at *
  generalize codeOf b = l1 at *
  generalize codeOf c = l2 at *
  generalize codeOf d = l3 at *
  have hcax := Lib.hid ca
  clear ca
  have hcbx := Lib.hid cb
  clear cb
  have hccx := Lib.hid cc
  clear cc
  have hcdx := Lib.hid cd
  clear cd
  have hzax := Lib.hid za
  clear za
  have hzbx := Lib.hid zb
  clear zb
  have hzcx := Lib.hid zc
  clear zc
  have hzdx := Lib.hid zd
  clear zd
  have hT3' := Lib.hid hT3
  have hT3l := hT3.lt
  clear hT3 hbw3 hTb
  go_wp2_with fail
  refine (pick_any _ _ _ (by omega) (by omega)).mono ?_
  rintro e w' ⟨rfl, rfl⟩
  rw [hzz'.out]
  go_wp2_with fail
  refine (copyTariff_any _ _ (madeRates [] nz ns br nc) (madeRows m nz 9) _ (hR2.out.stays (Stays.of hS3)) (hZ2.out.stays (Stays.of hS3)) (by rw [hrl.out]; omega) (by rw [hrl.out]; omega) hsm.out (by rw [hlz'.out]; exact hzl.out.1) (by rw [hlz'.out]; have := hzl.out.2; omega)).mono ?_
  rintro e w4 ⟨rv2, zv2, rps, M, rfl, hOR, hmp, hRP, hOZ, hM1, hM2, hbw4⟩
  have hOZ2 := Lib.hid hOZ
  obtain ⟨A6, c6, rfl⟩ := hOZ.form_
  have hRP2 := Lib.hid hRP
  obtain ⟨A7, c7, rfl, _, _, _⟩ := hRP
  clear hOR hmp hOZ
  rw [hrl.out] at hRP2 ⊢
  have hzU' := Lib.hid (fun h e => (hOZ2.out.block_lt (g := h) e).2)
  rw [hlz'.out] at hzU' ⊢
  rw [hlz'.out] at hOZ2
  have hUb : Below w4.heap.size w4 (w4.alloc (.cells #[.slice A7 nc c7, .slice A6 lz c6] 25)) := (Below.refl _ _).alloc (Nat.le_refl _) _
  have hU : Blk (w4.alloc (.cells #[.slice A7 nc c7, .slice A6 lz c6] 25)) w4.heap.size 25 #[.slice A7 nc c7, .slice A6 lz c6] := Blk.new _ _ _
  go_wp2
  generalize (w4.alloc (.cells #[.slice A7 nc c7, .slice A6 lz c6] 25)) = W4 at *
  have hs4 : w4.heap.size < W4.heap.size := hU.lt
  have hbW4 : Below w3.heap.size w3 W4 := hbw4.trans (hUb.mono hbw4.size)
  rw [← hbW4.cell (p := ⟨bs, os, none⟩) hbs] at s0
  rw [← hbW4.cell (p := ⟨bs, os + 1, none⟩) hbs] at s1
  rw [← hbW4.cell (p := ⟨bs, os + 2, none⟩) hbs] at s2
  rw [← hbW4.cell (p := ⟨bs, os + 3, none⟩) hbs] at s3
  have hT4 := Lib.hid (hT3'.out.below hbW4 hT3'.out.lt)
  have hRP4 := Lib.hid (hRP2.out.keep (Q := fun b => w3.heap.size ≤ b ∧ b < M) (Keeps.of_below hUb _) (fun _ _ h => h))
  have hOZ4 := Lib.hid (hOZ2.out.keep zoneIn_inner (Keeps.of_below hUb _))
  have u0 := hU.cell 0
  have u1 := hU.cell 1
  have uf := hU.frozen 1
  simp at u0 u1
  have hU' := Lib.hid hU
  have hs34 := hbw4.size
  clear hU hRP2 hOZ2 t0 t1 q0 q1 hT3'
  have hzU : ∀ h, (Value.slice A6 lz c6).ownBlock = some h → h < w4.heap.size := hzU'.out
  have hzU2 := Lib.hid hzU
  clear hzU
  have hO5 : W4.ownsRow M 67 3 (.slice A6 lz c6) lz ((madeRows m nz 9).flatMap zoneCells) := by have := hOZ4.out.1; rw [hlz'.out] at this; exact this
  have hOZ5 := Lib.hid hO5
  clear hO5
  have xa : ∀ (o : Obj), (W4.alloc o).cell? ⟨w4.heap.size, 1, none⟩ = some (.slice A6 lz c6) := fun o => (World.cell?_alloc_lt _ _ _ (by exact hs4)).trans u1
  have hlz10 : lz ≤ 10 := by have := hzl.out.2; omega
  have sd1 : lz + 1 ≤ maxLen := by unfold maxLen; omega
  have sd2 : M ≤ W4.heap.size + 1 := by omega
  have sd4 : (lz + 1) * 40 ≤ 140737488355328 := by omega
  obtain ⟨i0x, hi0, hz0, hz1x, hz2x⟩ := info_parts zone_info
  have hneq : some w4.heap.size ≠ (Value.slice A6 lz c6).ownBlock := fun e => by have := hzU2.out _ e.symm; omega
  have hszs : l0.size ≤ maxLen ∧ l1.size ≤ maxLen := by rw [hzax.out, hzbx.out]; exact ⟨small_max (by omega), small_max (by omega)⟩
  have hszs' := Lib.hid hszs
  clear hszs
  go_upto_region 7 with fail
  go_cut [16] (fun s16 wx => ∃ A8 c8, s16 = .pointer (some ⟨w4.heap.size, 0, none⟩) ∧ Below w3.heap.size W4 wx ∧ Blk wx w4.heap.size 25 #[.slice A7 nc c7, .slice A8 (lz + 1) c8] ∧ IsRates wx (.slice A7 nc c7) (madeRates [] nz ns br nc) ∧ IsZones wx (.slice A8 (lz + 1) c8) (madeRows m nz 9 ++ [⟨l0, l1, 1 + (zz : Int)⟩]))
  case first =>

    go_region_law ((refine step_append_lies _ (by rfl) (.tmp 49) (.tmp 58) 23 (by rfl) M 67 i0x (.agg #[.string ⟨#[]⟩, .string ⟨#[]⟩, .int .i64 0]) 3 40 Try.underlying23 hi0 hz0 hz1x hz2x rfl (by decide) (.slice A6 lz c6) lz _ (by rfl) (by exact hOZ5.out.alloc _) ⟨W4.heap.size, 0, none⟩ 1 1 [.string l0, .string l1, .int .i64 (1 + (zz : Int))] (by rfl) rfl (by exact World.news_of_block (cs := #[.string l0, .string l1, .int .i64 (1 + (zz : Int))]) (heap_alloc_new _ _)) (one3 rfl rfl rfl) Nat.one_pos sd1 sd4 (by exact Nat.le_trans sd2 (by simp)) (W4.heap.size + 1) (by simp) ?_; intro g cap w5 hown1 hgr1 hat1 hlt1; have hbk1 := Blk.grown (by exact hU'.out.alloc _) hgr1 hneq; have y1 := hbk1.cell 1; have yf := hbk1.frozen 1; simp only [List.getElem?_toArray, List.getElem?_cons_succ, List.getElem?_cons_zero] at y1; clear hbk1))
    all_goals
      have hR := more_append (z := ⟨l0, l1, 1 + (zz : Int)⟩) hRP4.out hOZ4.out hU'.out hM1 hM2 hzU2.out (by first | exact ((Below.refl _ _).alloc (Nat.le_refl _) _).drew | exact (Below.refl _ _).drew.alloc (Nat.le_refl _) _) hszs'.out hown1 (by rw [hlz'.out]) hgr1 (hat1.imp_right (fun e => by simp [e]))
      clear hown1 hgr1 hat1 hlt1
      go_wp2_with fail
      go_meet
      exact ⟨_, _, rfl, hR.1, hR.2.1, hR.2.2.1, hR.2.2.2⟩

  case rest =>
    obtain ⟨A8, c8, rfl, hbx, hUx, hRx, hZx⟩ := hcut
    have hb3x : Below w3.heap.size w3 wc := hbW4.trans hbx
    have hb2x : Below w2.heap.size w2 wc := hS3.trans (hb3x.mono hS3.size)
    have hwx : Below w.heap.size w wc := hbW.trans (hb2x.mono hbW.size)
    have hUl := hUx.lt
    have hbsl : bs < wc.heap.size := Nat.lt_of_lt_of_le hbs hb3x.size
    have hTl := (hT4.out.below hbx (by have := hS3.size; have := hT3l; omega))
    have hTlt := hTl.lt
    have v0 : wc.cell? ⟨bs, os, none⟩ = some (.string l0) := (hbx.cell (p := ⟨bs, os, none⟩) hbs).trans s0
    have v1 : wc.cell? ⟨bs, os + 1, none⟩ = some (.string l1) := (hbx.cell (p := ⟨bs, os + 1, none⟩) hbs).trans s1
    have v2 : wc.cell? ⟨bs, os + 2, none⟩ = some (.string l2) := (hbx.cell (p := ⟨bs, os + 2, none⟩) hbs).trans s2
    have v3 : wc.cell? ⟨bs, os + 3, none⟩ = some (.string l3) := (hbx.cell (p := ⟨bs, os + 3, none⟩) hbs).trans s3
    have u0 := hUx.cell 0
    have u1 := hUx.cell 1
    have t0 := hTl.cell 0
    have t1 := hTl.cell 1
    simp at u0 u1 t0 t1
    have hRt := Lib.hid (hR2.out.stays (Stays.of hb2x))
    have hZt := Lib.hid (hZ2.out.stays (Stays.of hb2x))
    have hRm := Lib.hid hRx
    have hZm := Lib.hid hZx
    clear hRx hZx s0 s1 s2 s3 hbx hUx hTl hb3x hb2x xa uf
    have hrm := right_more (ps := []) (by simp) m nz ns br nc hz1 hz3 hs1 hs3x hc2 hc3 (by omega) (by omega) (r := ⟨l0, l1, 1 + (zz : Int)⟩) hzax.out hcax.out.1 hcbx.out.1 (by simp; omega) (by simp; omega)
    have hrt := right_made (ps := []) (by simp) m nz ns br nc hz1 hz3 hs1 hs3x hc2 hc3 (by omega) (by omega)
    have e1 : zoneRes (madeRates [] nz ns br nc) (madeRows m nz 9 ++ [⟨l0, l1, 1 + (zz : Int)⟩]) l0 l1 = (1 + (zz : Int), 0) := by
      rw [zoneRes, if_neg (by rw [hrm, hcax.out.1, hcbx.out.1]; simp), zoneOf_hit hzax.out (hasPre_self _) (hasPre_self _)]
    have e2 : zoneRes (madeRates [] nz ns br nc) (madeRows m nz 9 ++ [⟨l0, l1, 1 + (zz : Int)⟩]) l2 l3 = (zoneOf (madeRows m nz 9 ++ [⟨l0, l1, 1 + (zz : Int)⟩]) l2 l3, 0) := by
      rw [zoneRes, if_neg (by rw [hrm, hccx.out.1, hcdx.out.1]; simp)]
    have e3 : zoneRes (madeRates [] nz ns br nc) (madeRows m nz 9) l2 l3 = (zoneOf (madeRows m nz 9) l2 l3, 0) := by
      rw [zoneRes, if_neg (by rw [hrt, hccx.out.1, hcdx.out.1]; simp)]
    have e4 : zoneRes (madeRates [] nz ns br nc) (madeRows m nz 9 ++ [⟨l0, l1, 1 + (zz : Int)⟩]) (l0 ++ ⟨#[55]⟩) (l1 ++ ⟨#[65]⟩) = (1 + (zz : Int), 0) := by
      rw [zoneRes, if_neg (by rw [hrm, hcax.out.2.1, hcbx.out.2.2]; simp), zoneOf_hit hzax.out (hasPre_more _ _) (hasPre_more _ _)]
    have e5 : l2 = l0 ∧ l3 = l1 → zoneOf (madeRows m nz 9 ++ [⟨l0, l1, 1 + (zz : Int)⟩]) l2 l3 = 1 + (zz : Int) := fun ⟨h1, h2⟩ => by
      rw [h1, h2, zoneOf_hit hzax.out (hasPre_self _) (hasPre_self _)]
    have e6 : ¬ (l2 = l0 ∧ l3 = l1) → zoneOf (madeRows m nz 9 ++ [⟨l0, l1, 1 + (zz : Int)⟩]) l2 l3 = zoneOf (madeRows m nz 9) l2 l3 := fun h => by
      refine zoneOf_miss fun hp => h ?_
      rw [Bool.and_eq_true] at hp
      exact ⟨hasPre_eq (by rw [hzcx.out]; exact hzax.out.symm) hp.1, hasPre_eq (by rw [hzdx.out]; exact hzbx.out.symm) hp.2⟩
    have m0 : l0.size ≤ maxLen := hszs'.out.1
    have m1 : l1.size ≤ maxLen := hszs'.out.2
    have m2 : l2.size ≤ maxLen := by rw [hzcx.out]; exact small_max (by omega)
    have m3 : l3.size ≤ maxLen := by rw [hzdx.out]; exact small_max (by omega)
    have m4 : (l0 ++ ⟨#[55]⟩).size ≤ maxLen := by rw [ByteArray.size_append, hzax.out]; exact small_max (by decide)
    have m5 : (l1 ++ ⟨#[65]⟩).size ≤ maxLen := by rw [ByteArray.size_append, hzbx.out]; exact small_max (by decide)
    generalize zoneOf (madeRows m nz 9 ++ [⟨l0, l1, 1 + (zz : Int)⟩]) l2 l3 = y at *
    generalize zoneOf (madeRows m nz 9) l2 l3 = old at *
    have h1x := Lib.hid e1
    have h2x := Lib.hid e2
    have h3x := Lib.hid e3
    have h4x := Lib.hid e4
    have h5x := Lib.hid e5
    have h6x := Lib.hid e6
    clear e1 e2 e3 e4 e5 e6 hrm hrt
    have hd0x : Below wc.heap.size wc wc.drew := (Below.refl _ _).drew
    go_wp2
    go_region_held3 (fun w' => w'.cell? ⟨w4.heap.size, 0, none⟩ = some (.slice A7 nc c7) ∧ w'.cell? ⟨w4.heap.size, 1, none⟩ = some (.slice A8 (lz + 1) c8) ∧ w'.cell? ⟨bs, os, none⟩ = some (.string l0) ∧ w'.cell? ⟨bs, os + 1, none⟩ = some (.string l1))
      (first | go_keep | (refine ⟨?_, ?_, ?_, ?_⟩ <;> (rw [hb5.cell (by simp <;> omega)]; go_keep)))
      (first | (go_at_call 21; refine (zone_any _ _ (madeRates [] nz ns br nc) (madeRows m nz 9 ++ [⟨l0, l1, 1 + (zz : Int)⟩]) l0 l1 _ (by exact hRm.out.stays (Stays.of hd0x)) (by exact hZm.out.stays (Stays.of hd0x)) m0 m1).mono ?_; rintro e w5 ⟨rfl, hb5⟩; rw [h1x.out]))
    rename_i hHeld
    have hq5 : Below wc.heap.size wc w5 := hd0x.trans (hb5.mono (by simp))
    rw [← hq5.cell (p := ⟨w4.heap.size, 0, none⟩) hUl] at u0
    rw [← hq5.cell (p := ⟨w4.heap.size, 1, none⟩) hUl] at u1
    rw [← hq5.cell (p := ⟨w2.heap.size, 0, none⟩) hTlt] at t0
    rw [← hq5.cell (p := ⟨w2.heap.size, 1, none⟩) hTlt] at t1
    rw [← hq5.cell (p := ⟨bs, os, none⟩) hbsl] at v0
    rw [← hq5.cell (p := ⟨bs, os + 1, none⟩) hbsl] at v1
    rw [← hq5.cell (p := ⟨bs, os + 2, none⟩) hbsl] at v2
    rw [← hq5.cell (p := ⟨bs, os + 3, none⟩) hbsl] at v3
    have hz5l := hq5.size
    replace hUl : w4.heap.size < w5.heap.size := by omega
    replace hTlt : w2.heap.size < w5.heap.size := by omega
    replace hbsl : bs < w5.heap.size := by omega
    replace hwx : Below w.heap.size w w5 := hwx.trans (hq5.mono hwx.size)
    replace hRt := Lib.hid (hRt.out.stays (Stays.of hq5))
    replace hZt := Lib.hid (hZt.out.stays (Stays.of hq5))
    replace hRm := Lib.hid (hRm.out.stays (Stays.of hq5))
    replace hZm := Lib.hid (hZm.out.stays (Stays.of hq5))
    have hd1x : Below w5.heap.size w5 w5.drew := (Below.refl _ _).drew
    clear hHeld hb5 hq5 hz5l
    go_wp2
    go_region_held3 (fun w' => w'.cell? ⟨w4.heap.size, 0, none⟩ = some (.slice A7 nc c7) ∧ w'.cell? ⟨w4.heap.size, 1, none⟩ = some (.slice A8 (lz + 1) c8) ∧ w'.cell? ⟨bs, os + 2, none⟩ = some (.string l2) ∧ w'.cell? ⟨bs, os + 3, none⟩ = some (.string l3))
      (first | go_keep | (refine ⟨?_, ?_, ?_, ?_⟩ <;> (rw [hb6.cell (by simp <;> omega)]; go_keep)))
      (first | (go_at_call 21; refine (zone_any _ _ (madeRates [] nz ns br nc) (madeRows m nz 9 ++ [⟨l0, l1, 1 + (zz : Int)⟩]) l2 l3 _ (by exact hRm.out.stays (Stays.of hd1x)) (by exact hZm.out.stays (Stays.of hd1x)) m2 m3).mono ?_; rintro e w6 ⟨rfl, hb6⟩; rw [h2x.out]))
    rename_i hHeld
    have hq6 : Below w5.heap.size w5 w6 := hd1x.trans (hb6.mono (by simp))
    rw [← hq6.cell (p := ⟨w4.heap.size, 0, none⟩) hUl] at u0
    rw [← hq6.cell (p := ⟨w4.heap.size, 1, none⟩) hUl] at u1
    rw [← hq6.cell (p := ⟨w2.heap.size, 0, none⟩) hTlt] at t0
    rw [← hq6.cell (p := ⟨w2.heap.size, 1, none⟩) hTlt] at t1
    rw [← hq6.cell (p := ⟨bs, os, none⟩) hbsl] at v0
    rw [← hq6.cell (p := ⟨bs, os + 1, none⟩) hbsl] at v1
    rw [← hq6.cell (p := ⟨bs, os + 2, none⟩) hbsl] at v2
    rw [← hq6.cell (p := ⟨bs, os + 3, none⟩) hbsl] at v3
    have hz6l := hq6.size
    replace hUl : w4.heap.size < w6.heap.size := by omega
    replace hTlt : w2.heap.size < w6.heap.size := by omega
    replace hbsl : bs < w6.heap.size := by omega
    replace hwx : Below w.heap.size w w6 := hwx.trans (hq6.mono hwx.size)
    replace hRt := Lib.hid (hRt.out.stays (Stays.of hq6))
    replace hZt := Lib.hid (hZt.out.stays (Stays.of hq6))
    replace hRm := Lib.hid (hRm.out.stays (Stays.of hq6))
    replace hZm := Lib.hid (hZm.out.stays (Stays.of hq6))
    have hd2x : Below w6.heap.size w6 w6.drew := (Below.refl _ _).drew
    clear hHeld hb6 hq6 hz6l
    go_wp2
    go_region_held3 (fun w' => w'.cell? ⟨w2.heap.size, 0, none⟩ = some (.slice (some ⟨b0, off0, none⟩) nc c0) ∧ w'.cell? ⟨w2.heap.size, 1, none⟩ = some (.slice A2 lz c2) ∧ w'.cell? ⟨bs, os + 2, none⟩ = some (.string l2) ∧ w'.cell? ⟨bs, os + 3, none⟩ = some (.string l3))
      (first | go_keep | (refine ⟨?_, ?_, ?_, ?_⟩ <;> (rw [hb7.cell (by simp <;> omega)]; go_keep)))
      (first | (go_at_call 21; refine (zone_any _ _ (madeRates [] nz ns br nc) (madeRows m nz 9) l2 l3 _ (by exact hRt.out.stays (Stays.of hd2x)) (by exact hZt.out.stays (Stays.of hd2x)) m2 m3).mono ?_; rintro e w7 ⟨rfl, hb7⟩; rw [h3x.out]))
    rename_i hHeld
    have hq7 : Below w6.heap.size w6 w7 := hd2x.trans (hb7.mono (by simp))
    rw [← hq7.cell (p := ⟨w4.heap.size, 0, none⟩) hUl] at u0
    rw [← hq7.cell (p := ⟨w4.heap.size, 1, none⟩) hUl] at u1
    rw [← hq7.cell (p := ⟨w2.heap.size, 0, none⟩) hTlt] at t0
    rw [← hq7.cell (p := ⟨w2.heap.size, 1, none⟩) hTlt] at t1
    rw [← hq7.cell (p := ⟨bs, os, none⟩) hbsl] at v0
    rw [← hq7.cell (p := ⟨bs, os + 1, none⟩) hbsl] at v1
    rw [← hq7.cell (p := ⟨bs, os + 2, none⟩) hbsl] at v2
    rw [← hq7.cell (p := ⟨bs, os + 3, none⟩) hbsl] at v3
    have hz7l := hq7.size
    replace hUl : w4.heap.size < w7.heap.size := by omega
    replace hTlt : w2.heap.size < w7.heap.size := by omega
    replace hbsl : bs < w7.heap.size := by omega
    replace hwx : Below w.heap.size w w7 := hwx.trans (hq7.mono hwx.size)
    replace hRt := Lib.hid (hRt.out.stays (Stays.of hq7))
    replace hZt := Lib.hid (hZt.out.stays (Stays.of hq7))
    replace hRm := Lib.hid (hRm.out.stays (Stays.of hq7))
    replace hZm := Lib.hid (hZm.out.stays (Stays.of hq7))
    have hd3x : Below w7.heap.size w7 w7.drew := (Below.refl _ _).drew
    clear hHeld hb7 hq7 hz7l
    by_cases hq1 : l2 = l0 ∧ l3 = l1
    · obtain ⟨rfl, rfl⟩ := hq1
      have hy : y = 1 + (zz : Int) := h5x.out ⟨rfl, rfl⟩
      subst hy
      go_wp2
      go_quiet (fail)
      go_wp2
      go_ret
      exact ⟨rfl, hwx.trans ((drewN_below _ _).mono hwx.size)⟩
    · have hy : y = old := h6x.out hq1
      subst hy
      by_cases hq2 : l2 = l0
      · subst hq2
        have hq3 : ¬ l3 = l1 := fun h => hq1 ⟨rfl, h⟩
        have hg2 : (l3.toList == l1.toList) = false := by rw [beq_eq_false_iff_ne]; exact fun h => hq3 (toList_inj h)
        clear hq1
        go_wp2
        go_quiet (fail)
        have hq8 : Below w7.heap.size w7 (w7.drewN nq) := drewN_below _ _
        rw [← hq8.cell (p := ⟨w4.heap.size, 0, none⟩) hUl] at u0
        rw [← hq8.cell (p := ⟨w4.heap.size, 1, none⟩) hUl] at u1
        rw [← hq8.cell (p := ⟨bs, os, none⟩) hbsl] at v0
        rw [← hq8.cell (p := ⟨bs, os + 1, none⟩) hbsl] at v1
        have hz8 := hq8.size
        replace hUl : w4.heap.size < (w7.drewN nq).heap.size := hUl
        replace hbsl : bs < (w7.drewN nq).heap.size := hbsl
        replace hwx : Below w.heap.size w (w7.drewN nq) := hwx.trans (hq8.mono hwx.size)
        replace hRm := Lib.hid (hRm.out.stays (Stays.of hq8))
        replace hZm := Lib.hid (hZm.out.stays (Stays.of hq8))
        go_wp2
        generalize w7.drewN nq = w8 at *
        have hd8x : Below w8.heap.size w8 w8.drew := (Below.refl _ _).drew
        have az0 : SmallSum l2 ⟨#[55]⟩ := by unfold SmallSum; rw [hzax.out]; decide
        have az1 : SmallSum l1 ⟨#[65]⟩ := by unfold SmallSum; rw [hzbx.out]; decide
        clear hq8 hz8
        go_region_held3 (fun w' => w'.cell? ⟨w4.heap.size, 0, none⟩ = some (.slice A7 nc c7) ∧ w'.cell? ⟨w4.heap.size, 1, none⟩ = some (.slice A8 (lz + 1) c8) ∧ w'.cell? ⟨bs, os, none⟩ = some (.string l2) ∧ w'.cell? ⟨bs, os + 1, none⟩ = some (.string l1))
          (first | go_keep | (refine ⟨?_, ?_, ?_, ?_⟩ <;> (rw [hb9.cell (by simp <;> omega)]; go_keep)))
          (first | (go_at_call 21; refine (zone_any _ _ (madeRates [] nz ns br nc) (madeRows m nz 9 ++ [⟨l2, l1, 1 + (zz : Int)⟩]) _ _ _ (by exact hRm.out.stays (Stays.of hd8x)) (by exact hZm.out.stays (Stays.of hd8x)) m4 m5).mono ?_; rintro e w9 ⟨rfl, hb9⟩; rw [h4x.out]))
        go_wp2
        go_ret
        exact ⟨rfl, hwx.trans ((hd8x.trans (hb9.mono (by simp))).mono hwx.size)⟩
      · have hg2 : (l2.toList == l0.toList) = false := by rw [beq_eq_false_iff_ne]; exact fun h => hq2 (toList_inj h)
        clear hq1
        go_wp2
        go_quiet (fail)
        have hq8 : Below w7.heap.size w7 (w7.drewN nq) := drewN_below _ _
        rw [← hq8.cell (p := ⟨w4.heap.size, 0, none⟩) hUl] at u0
        rw [← hq8.cell (p := ⟨w4.heap.size, 1, none⟩) hUl] at u1
        rw [← hq8.cell (p := ⟨bs, os, none⟩) hbsl] at v0
        rw [← hq8.cell (p := ⟨bs, os + 1, none⟩) hbsl] at v1
        have hz8 := hq8.size
        replace hUl : w4.heap.size < (w7.drewN nq).heap.size := hUl
        replace hbsl : bs < (w7.drewN nq).heap.size := hbsl
        replace hwx : Below w.heap.size w (w7.drewN nq) := hwx.trans (hq8.mono hwx.size)
        replace hRm := Lib.hid (hRm.out.stays (Stays.of hq8))
        replace hZm := Lib.hid (hZm.out.stays (Stays.of hq8))
        go_wp2
        generalize w7.drewN nq = w8 at *
        have hd8x : Below w8.heap.size w8 w8.drew := (Below.refl _ _).drew
        have az0 : SmallSum l0 ⟨#[55]⟩ := by unfold SmallSum; rw [hzax.out]; decide
        have az1 : SmallSum l1 ⟨#[65]⟩ := by unfold SmallSum; rw [hzbx.out]; decide
        clear hq8 hz8
        go_region_held3 (fun w' => w'.cell? ⟨w4.heap.size, 0, none⟩ = some (.slice A7 nc c7) ∧ w'.cell? ⟨w4.heap.size, 1, none⟩ = some (.slice A8 (lz + 1) c8) ∧ w'.cell? ⟨bs, os, none⟩ = some (.string l0) ∧ w'.cell? ⟨bs, os + 1, none⟩ = some (.string l1))
          (first | go_keep | (refine ⟨?_, ?_, ?_, ?_⟩ <;> (rw [hb9.cell (by simp <;> omega)]; go_keep)))
          (first | (go_at_call 21; refine (zone_any _ _ (madeRates [] nz ns br nc) (madeRows m nz 9 ++ [⟨l0, l1, 1 + (zz : Int)⟩]) _ _ _ (by exact hRm.out.stays (Stays.of hd8x)) (by exact hZm.out.stays (Stays.of hd8x)) m4 m5).mono ?_; rintro e w9 ⟨rfl, hb9⟩; rw [h4x.out]))
        go_wp2
        go_ret
        exact ⟨rfl, hwx.trans ((hd8x.trans (hb9.mono (by simp))).mono hwx.size)⟩
end Go.Proofs.Ythbnbfeolfkkaaa
