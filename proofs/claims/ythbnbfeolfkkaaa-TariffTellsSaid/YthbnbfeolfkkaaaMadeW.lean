/- The walk of Made: the tariff that it makes. -/
import Derived.Test.YthbnbfeolfkkaaaOwn2
import Derived.Test.YthbnbfeolfkkaaaL4
import Derived.Deep.RegionLaw
import Derived.Deep.DrawnRows
import Derived.Laws.BitsAllLaws
namespace Go.Proofs.Ythbnbfeolfkkaaa
open Go.RowKit Go.Maps
attribute [local go_sem ↓] Go.wp_at_zero Go.wp_at_succ

theorem and_mod (a m : Nat) (ha : a < 4294967296) (k : Nat) (hm : m = 2 ^ k - 1) (hk : k ≤ 8) : bits .and .u32 (a : Int) (m : Int) = ((a % 2 ^ k : Nat) : Int) := by
  have h2 : (2 : Nat) ^ k ≤ 256 := Nat.pow_le_pow_right (by omega) hk
  rw [u32_and_nat a m ha (by omega), hm, Nat.and_two_pow_sub_one_eq_mod]
theorem int_info3 : (Try.prog.info? 3).map (fun i => (i.zero, i.size, i.bytes)) = some (some (.int .i64 0), 1, 8) := by kernel_rfl
theorem step_info : (Try.prog.info? 61).map (fun i => (i.zero, i.size, i.bytes)) = some (some (.agg #[.int .i64 0, .slice none 0 0]), 2, 32) := by kernel_rfl
theorem rate_info : (Try.prog.info? 57).map (fun i => (i.zero, i.size, i.bytes)) = some (some (.agg #[.int .u8 0, .slice none 0 0, .int .i64 0]), 3, 40) := by kernel_rfl
theorem zone_info : (Try.prog.info? 67).map (fun i => (i.zero, i.size, i.bytes)) = some (some (.agg #[.string ⟨#[]⟩, .string ⟨#[]⟩, .int .i64 0]), 3, 40) := by kernel_rfl

theorem OwnL.one {α : Type} {E : TypeId} {k : Nat} {cells : α → List Value} {I : (Nat → Prop) → World → α → Prop} {B : Nat} {w : World} {v : Value} {ps : List α} (h : OwnL E k cells I B w v ps) : v.oneCell' = true := by
  rcases h.1.2 with ⟨rfl, _⟩ | ⟨g, cap, cur, rfl, _⟩ <;> rfl
def ZAt (B : Nat) (W : World) (v : Value) : Prop := v.ownBlock = some (B + 1 + 1) ∨ ∃ h, v.ownBlock = some h ∧ W.heap.size ≤ h
theorem zrows_append {B : Nat} {W4 wr wA w1 : World} {rv zv : Value} {zs : List Zone} {z : Zone} {g n cap : Nat}
    (hb : Below (B + 2) W4 wr) (hk : Keeps (fun b => B + 4 ≤ b) W4 wr) (hbk : Blk wr (B + 1 + 1 + 1) 25 #[rv, zv]) (hown : OwnZones (B + 2) wr zv zs) (hz : ZAt B W4 zv) (hs4 : B + 4 ≤ W4.heap.size)
    (hA : Below wr.heap.size wr wA) (hin : z.frm.size ≤ maxLen ∧ z.dst.size ≤ maxLen) (hown1 : w1.ownsRow (B + 2) 67 3 (.slice (some ⟨g, 0, none⟩) n cap) n (zs.flatMap zoneCells ++ zoneCells z)) (hn : n = zs.length + 1)
    (hgr : wA.grownBy w1 zv.ownBlock) (hat : zv.ownBlock = some g ∨ wA.heap.size ≤ g) :
    Below (B + 2) W4 (w1.setCell ⟨B + 1 + 1 + 1, 1, none⟩ (.slice (some ⟨g, 0, none⟩) n cap)) ∧ Keeps (fun b => B + 4 ≤ b) W4 (w1.setCell ⟨B + 1 + 1 + 1, 1, none⟩ (.slice (some ⟨g, 0, none⟩) n cap)) ∧
      Blk (w1.setCell ⟨B + 1 + 1 + 1, 1, none⟩ (.slice (some ⟨g, 0, none⟩) n cap)) (B + 1 + 1 + 1) 25 #[rv, .slice (some ⟨g, 0, none⟩) n cap] ∧
      OwnZones (B + 2) (w1.setCell ⟨B + 1 + 1 + 1, 1, none⟩ (.slice (some ⟨g, 0, none⟩) n cap)) (.slice (some ⟨g, 0, none⟩) n cap) (zs ++ [z]) ∧ ZAt B W4 (.slice (some ⟨g, 0, none⟩) n cap) := by
  subst hn
  have hkr := hk.size
  have hs := hA.size
  have hg : g = B + 1 + 1 ∨ W4.heap.size ≤ g := by
    rcases hat with e | e
    · rcases hz with e2 | ⟨h, e2, h3⟩
      · rw [e] at e2; injection e2 with e2; exact .inl e2
      · rw [e] at e2; injection e2 with e2; subst e2; exact .inr h3
    · exact .inr (by omega)
  have hzo : ∀ b, zv.ownBlock = some b → b = B + 1 + 1 ∨ W4.heap.size ≤ b := fun b e => by
    rcases hz with e2 | ⟨h, e2, h3⟩
    · rw [e] at e2; injection e2 with e2; exact .inl e2
    · rw [e] at e2; injection e2 with e2; subst e2; exact .inr h3
  have hownA : OwnZones (B + 2) wA zv zs := hown.keep zoneIn_inner (Keeps.of_below hA _)
  have happ := hownA.append zoneIn_inner hin hown1 hgr (by
    rcases hat with e | e
    · exact .inl (by rw [e]; rfl)
    · exact .inr ⟨g, rfl, e⟩)
  have hbkA := hbk.below hA hbk.lt
  have hbk1 := hbkA.grown hgr (fun e => by have := hzo _ e.symm; omega)
  refine ⟨?_, ?_, hbk1.set_ 1 _, ?_, ?_⟩
  · exact ((hb.trans (hA.mono (by have := hb.size; omega))).grown hgr (by omega) (fun h e => by have := hzo h e; omega)).setCell (by simp) _
  · refine ⟨by have := hgr.size; simp [World.setCell]; omega, fun b hb4 hp => ?_⟩
    rw [Below.heap_setCell _ _ _ _ (by simp; omega), hgr.block b (by omega) (fun e => by have := hzo b e.symm; omega), hA.block b (by omega)]
    exact hk.block b hb4 hp
  · refine happ.far (fun _ _ _ _ _ h => h) fun h e => Below.heap_setCell _ _ _ _ ?_
    have : h = g := by simpa [Value.ownBlock] using e.symm
    simp; omega
  · rcases hg with e | e
    · exact .inl (by rw [e]; rfl)
    · exact .inr ⟨g, rfl, e⟩
theorem shr_bit (n i : Nat) (hn : n < 4294967296) : bits .and .u32 ((n : Int) / 2 ^ (11 + i)) 1 = ((n / 2048 / 2 ^ i % 2 : Nat) : Int) := by
  have e : (n : Int) / 2 ^ (11 + i) = ((n / 2 ^ (11 + i) : Nat) : Int) := by simp
  have e2 : n / 2 ^ (11 + i) = n / 2048 / 2 ^ i := by rw [Nat.div_div_eq_div_mul, Nat.pow_add]
  rw [e, e2]
  exact and_mod _ 1 (by have := Nat.div_le_self (n / 2048) (2 ^ i); have := Nat.div_le_self n 2048; omega) 1 rfl (by omega)
def pairCells : Array Value := #[.string ⟨#[49]⟩, .string ⟨#[]⟩, .string ⟨#[]⟩, .string ⟨#[50]⟩, .string ⟨#[49]⟩, .string ⟨#[50]⟩, .string ⟨#[49, 48]⟩, .string ⟨#[]⟩, .string ⟨#[49]⟩, .string ⟨#[50, 49]⟩, .string ⟨#[49, 48]⟩, .string ⟨#[50]⟩, .string ⟨#[49, 48, 48]⟩, .string ⟨#[49, 48]⟩, .string ⟨#[]⟩, .string ⟨#[49, 48, 48, 48]⟩, .string ⟨#[50]⟩, .string ⟨#[49]⟩]
theorem pairCells_at (i : Nat) (hi : i < 9) : pairCells[i * 2]? = some (.string (pairAt i).1) ∧ pairCells[i * 2 + 1]? = some (.string (pairAt i).2) ∧ (pairAt i).1.size ≤ 4 ∧ (pairAt i).2.size ≤ 4 := by
  have : i = 0 ∨ i = 1 ∨ i = 2 ∨ i = 3 ∨ i = 4 ∨ i = 5 ∨ i = 6 ∨ i = 7 ∨ i = 8 := by omega
  rcases this with rfl | rfl | rfl | rfl | rfl | rfl | rfl | rfl | rfl <;> exact ⟨rfl, rfl, by decide, by decide⟩
theorem one2 {a b : Value} (ha : a.oneCell' = true) (hb : b.oneCell' = true) : ∀ u ∈ [a, b], u.oneCell' = true := by
  intro u hu; simp at hu; rcases hu with rfl | rfl <;> assumption
theorem one3 {a b c : Value} (ha : a.oneCell' = true) (hb : b.oneCell' = true) (hc : c.oneCell' = true) : ∀ u ∈ [a, b, c], u.oneCell' = true := by
  intro u hu; simp at hu; rcases hu with rfl | rfl | rfl <;> assumption
set_option maxRecDepth 100000 in
set_option maxHeartbeats 8000000 in
theorem made_any (n zb cb sb br : Nat) (ps : List Int) (pv : Value) (w : World) (hn : n < 4294967296) (hp : IsKs .u8 w pv ps) (hps : ∀ x ∈ ps, 0 ≤ x ∧ x ≤ 255)
    (hzb : zb = n / 16 % 4 % 3) (hcb : cb = n % 4 % 3) (hsb : sb = n / 4 % 4 % 3) (hbr : br = n / 64 % 32) :
    Calls Try.prog 12 #[.int .u32 (n : Int), pv] w (TariffRes w (madeRates ps (1 + zb) (sb + 1) br (cb + 1)) (madeRows (n / 2048) (1 + zb) 9)) := by
  have hpp := Lib.hid hp
  have hps' := Lib.hid hps
  obtain ⟨A, c, rfl, hcn, hc, hA⟩ := hp
  have hc' : c ≤ 9223372036854775807 := hc
  clear hA hps
  have q1 : bits .and .u32 ((n : Int) / 16) 3 = ((n / 16 % 4 : Nat) : Int) := and_mod (n / 16) 3 (by omega) 2 rfl (by omega)
  have q2 : bits .and .u32 (n : Int) 3 = ((n % 4 : Nat) : Int) := and_mod n 3 (by omega) 2 rfl (by omega)
  have q3 : bits .and .u32 ((n : Int) / 4) 3 = ((n / 4 % 4 : Nat) : Int) := and_mod (n / 4) 3 (by omega) 2 rfl (by omega)
  have q4 : bits .and .u32 ((n : Int) / 64) 31 = ((n / 64 % 32 : Nat) : Int) := and_mod (n / 64) 31 (by omega) 5 rfl (by omega)
  generalize hz1 : n / 16 % 4 = z1 at *
  generalize hc1 : n % 4 = c1 at *
  generalize hs1 : n / 4 % 4 = s1 at *
  generalize hb1 : n / 64 % 32 = b1 at *
  have hz1' : z1 ≤ 3 := by omega
  have hc1' : c1 ≤ 3 := by omega
  have hs1' : s1 ≤ 3 := by omega
  have hb1' : b1 ≤ 31 := by omega
  have r1 : (z1 : Int) % 3 = (zb : Int) := by omega
  have r2 : (c1 : Int) % 3 = (cb : Int) := by omega
  have r3 : (s1 : Int) % 3 = (sb : Int) := by omega
  have hzb' : zb ≤ 2 := by omega
  have hcb' : cb ≤ 2 := by omega
  have hsb' : sb ≤ 2 := by omega
  subst hbr
  clear hz1 hc1 hs1 hb1 hzb hcb hsb
  go_enter Try.func12, Try.ntmps12
  go_wp2
  generalize hW0 : (((w.alloc (.cells #[.slice A ps.length c] 29)).alloc (.cells #[.slice none 0 0, .slice none 0 0] 25)).alloc (.cells #[.string ⟨#[]⟩, .string ⟨#[]⟩, .int .i64 1] 67)).alloc (.cells #[.slice none 0 0, .slice (some ⟨w.heap.size + 1 + 1, 0, none⟩) 1 1] 25) = W0
  have hbW0 : Below w.heap.size w W0 := by
    rw [← hW0]
    exact ((((Below.refl _ _).alloc (Nat.le_refl _) _).alloc (by simp) _).alloc (by simp; omega) _).alloc (by simp; omega) _
  have hk0 : Blk W0 w.heap.size 29 #[.slice A ps.length c] := by rw [← hW0]; exact (((Blk.new _ _ _).alloc _).alloc _).alloc _
  have hk1 : Blk W0 (w.heap.size + 1) 25 #[.slice none 0 0, .slice none 0 0] := by rw [← hW0]; exact ((Blk.new_at _ _ _ _ (by simp)).alloc _).alloc _
  have hk2 : Blk W0 (w.heap.size + 1 + 1) 67 #[.string ⟨#[]⟩, .string ⟨#[]⟩, .int .i64 1] := by rw [← hW0]; exact (Blk.new_at _ _ _ _ (by simp)).alloc _
  have hk3 : Blk W0 (w.heap.size + 1 + 1 + 1) 25 #[.slice none 0 0, .slice (some ⟨w.heap.size + 1 + 1, 0, none⟩) 1 1] := by rw [← hW0]; exact Blk.new_at _ _ _ _ (by simp)
  have hsz0 : W0.heap.size = w.heap.size + 4 := by rw [← hW0]; simp
  have hsz0' : w.heap.size + 4 ≤ W0.heap.size := by omega
  have hsz0'' := Lib.hid hsz0
  clear hW0 hsz0
  simp only [r1]
  go_loopw [8] (fun iv wr => ∃ (k : Nat) (rps : List (Rate × Value)) (rv : Value), k ≤ cb + 1 ∧ iv = .int .i64 k ∧ Below (w.heap.size + 3) W0 wr ∧ Blk wr (w.heap.size + 1 + 1 + 1) 25 #[rv, .slice (some ⟨w.heap.size + 1 + 1, 0, none⟩) 1 1] ∧ OwnRates (w.heap.size + 4) wr rv rps ∧ Hid (rps.map (·.1) = madeRates ps (1 + zb) (sb + 1) br k))
    (fun iv _ => cb + 1 - (intOf iv).toNat)
  case atStart => exact ⟨0, [], .slice none 0 0, by omega, rfl, Below.refl _ _, hk3, OwnL.nil_, rfl⟩
  case round =>
    obtain ⟨k, rps, rv, hk, rfl, hbr, hbk, hown, hmr⟩ := hrel
    have hszr : w.heap.size + 4 ≤ wr.heap.size := Nat.le_trans hsz0' hbr.size
    by_cases hlt : k ≤ cb
    · have hlt' : decide ((k : Int) ≤ (cb : Int)) = true := by simp; omega
      obtain ⟨wq, rfl⟩ : ∃ wq : World, wq = wr := ⟨_, rfl⟩
      have hB1 : Blk (wq.alloc (.cells #[.int .u8 ((k : Int) + 1), .slice none 0 0, .int .i64 (br : Int)] 57)) wq.heap.size 57 #[.int .u8 ((k : Int) + 1), .slice none 0 0, .int .i64 (br : Int)] := Blk.new _ _ _
      have hS1 : Below wq.heap.size wq (wq.alloc (.cells #[.int .u8 ((k : Int) + 1), .slice none 0 0, .int .i64 (br : Int)] 57)) := (Below.refl _ _).alloc (Nat.le_refl _) _
      have hown' := Lib.hid hown
      have hbk' := Lib.hid hbk
      clear hown hbk
      go_wp2
      generalize (wq.alloc (.cells #[.int .u8 ((k : Int) + 1), .slice none 0 0, .int .i64 (br : Int)] 57)) = W1 at hB1 hS1 ⊢
      have hsz1 : wq.heap.size < W1.heap.size := hB1.lt
      simp only [r2]
      go_loopw [10] (fun iv wr => ∃ (j : Nat) (sps : List (Step × Value)) (sv : Value), j ≤ sb + 1 ∧ iv = .int .i64 j ∧ Below wq.heap.size W1 wr ∧ Blk wr wq.heap.size 57 #[.int .u8 ((k : Int) + 1), sv, .int .i64 (br : Int)] ∧ OwnSteps (wq.heap.size + 1) wr sv sps ∧ Hid (sps.map (·.1) = madeSteps ps (1 + zb) k j))
        (fun iv _ => sb + 1 - (intOf iv).toNat)
      case atStart => exact ⟨0, [], .slice none 0 0, by omega, rfl, Below.refl _ _, hB1, OwnL.nil_, rfl⟩
      case round =>

        obtain ⟨j, sps, sv, hj, rfl, hbj, hbkj, hownj, hmj⟩ := hrel
        have hszj : wq.heap.size + 1 ≤ wr.heap.size := Nat.le_trans hsz1 hbj.size
        by_cases hltj : j ≤ sb
        · have hltj' : decide ((j : Int) ≤ (sb : Int)) = true := by simp; omega
          obtain ⟨wt, rfl⟩ : ∃ wt : World, wt = wr := ⟨_, rfl⟩
          have hB2 : Blk (wt.alloc (.cells #[.int .i64 (20 + 30 * (j : Int)), .slice none 0 0] 61)) wt.heap.size 61 #[.int .i64 (20 + 30 * (j : Int)), .slice none 0 0] := Blk.new _ _ _
          have hS2 : Below wt.heap.size wt (wt.alloc (.cells #[.int .i64 (20 + 30 * (j : Int)), .slice none 0 0] 61)) := (Below.refl _ _).alloc (Nat.le_refl _) _
          have hownj' := Lib.hid hownj
          have hbkj' := Lib.hid hbkj
          clear hownj hbkj
          go_wp2
          generalize (wt.alloc (.cells #[.int .i64 (20 + 30 * (j : Int)), .slice none 0 0] 61)) = W2 at hB2 hS2 ⊢
          have hsz2 : wt.heap.size < W2.heap.size := hB2.lt
          simp only [r3]
          go_loopw [12] (fun iv wr => ∃ (i : Nat) (xs : List Int) (cv : Value), i ≤ 1 + zb ∧ iv = .int .i64 i ∧ Below wt.heap.size W2 wr ∧ Blk wr wt.heap.size 61 #[.int .i64 (20 + 30 * (j : Int)), cv] ∧ OwnInts (wt.heap.size + 1) wr cv xs ∧ Hid (xs = madeCents ps k j i))
            (fun iv _ => 1 + zb - (intOf iv).toNat)
          case atStart => exact ⟨0, [], .slice none 0 0, by omega, rfl, Below.refl _ _, hB2, OwnL.nil_, rfl⟩
          case round =>
            obtain ⟨i, xs, cv, hi, rfl, hbi, hbki, howni, hmi⟩ := hrel
            have hszi : wt.heap.size + 1 ≤ wr.heap.size := Nat.le_trans hsz2 hbi.size
            by_cases hlti : i < 1 + zb
            · have hlti' : decide ((i : Int) < 1 + (zb : Int)) = true := by simp; omega
              have hSr : Below w.heap.size w wr := (((hbW0.trans (hbr.mono (by omega))).trans (hS1.mono (by omega))).trans (hbj.mono (by omega))).trans ((hS2.mono (by omega)).trans (hbi.mono (by omega)))
              have hk0r : Blk wr w.heap.size 29 #[.slice A ps.length c] := ((((hk0.below hbr (by omega)).below hS1 (by omega)).below hbj (by omega)).below hS2 (by omega)).below hbi (by omega)
              have x0 := hk0r.cell 0
              have x1 := hbki.cell 1
              have xf := hbki.frozen 1
              simp at x0 x1
              have hpr := hpp.out.stays (Stays.of hSr)
              have hpr' := Lib.hid hpr
              have howni' := Lib.hid howni
              have hbki' := Lib.hid hbki
              have e1 : (17 : Int) * (k : Int) + 5 * (j : Int) + (i : Int) = ((17 * k + 5 * j + i : Nat) : Int) := by omega
              have e1' := Lib.hid e1
              have hxl : xs.length = i := by rw [hmi.out]; simp [madeCents]
              have hxl' := Lib.hid hxl
              have hxl2 : xs.length ≤ 3 := by omega
              clear hxl
              have sd1 : xs.length + 1 ≤ maxLen := by unfold maxLen; omega
              have sd2 : wt.heap.size + 1 ≤ wr.heap.size + 1 := by omega
              have sd3 : 17 * k + 5 * j + i ≤ 1000 := by omega
              have sd4 : (xs.length + 1) * 8 ≤ 140737488355328 := by omega
              obtain ⟨i0, hi0, hz0, hz1x, hz2⟩ := info_parts int_info3
              have hneq : some wt.heap.size ≠ cv.ownBlock := fun e => by have := (howni'.out.1.lt _ e.symm).1; omega
              have xa : ∀ (nq : Nat) (o : Obj), ((wr.drewN nq).alloc o).cell? ⟨wt.heap.size, 1, none⟩ = some cv := fun nq o => (World.cell?_alloc_lt _ _ _ (by exact hszi)).trans x1
              have t1 : IntKind.i64.wrap (17 * (k : Int)) = 17 * (k : Int) := IntWalk.i64_in _ (by omega)
              have t2 : IntKind.i64.wrap (5 * (j : Int)) = 5 * (j : Int) := IntWalk.i64_in _ (by omega)
              have t3 : IntKind.i64.wrap (17 * (k : Int) + 5 * (j : Int)) = 17 * (k : Int) + 5 * (j : Int) := IntWalk.i64_in _ (by omega)
              have t4 : IntKind.i64.wrap (17 * (k : Int) + 5 * (j : Int) + (i : Int)) = 17 * (k : Int) + 5 * (j : Int) + (i : Int) := IntWalk.i64_in _ (by omega)
              clear hpr howni hbki hk0r e1

              go_wp2
              go_region_law (first | (go_simp; go_at_call 39; rw [e1'.out]; refine (madePrice_any _ ps _ _ _ sd3 (by exact hpr'.out) hps'.out (by exact x0)).mono ?_; rintro e w' ⟨rfl, nd, rfl⟩; dsimp only) | (refine step_append_lies _ (by rfl) (.tmp 60) (.tmp 70) 38 (by rfl) (wt.heap.size + 1) 3 i0 (.int .i64 0) 1 8 Try.underlying38 hi0 hz0 hz1x hz2 rfl (by decide) cv xs.length _ (by rfl) (by exact howni'.out.1.alloc _) ⟨wr.heap.size, 0, none⟩ 1 1 [.int .i64 (priceAt ps (17 * k + 5 * j + i))] (by rfl) rfl (by exact cell_one_new _ _ _) (by simp [Value.oneCell']) Nat.one_pos sd1 sd4 (by exact Nat.le_trans sd2 (by simp)) (wr.heap.size + 1) (by simp) ?_; intro g cap w1 hown1 hgr1 hat1 hlt1; have hbk1 : Blk w1 wt.heap.size 61 #[.int .i64 (20 + 30 * (j : Int)), cv] := Blk.grown (by exact hbki'.out.alloc _) hgr1 hneq; have y1 := hbk1.cell 1; have yf := hbk1.frozen 1; simp only [List.getElem?_toArray, List.getElem?_cons_succ, List.getElem?_cons_zero] at y1; clear hbk1))
              all_goals
                have hR := field_append noInner_inner (i := 1) (a := priceAt ps (17 * k + 5 * j + i)) hbi hbki'.out howni'.out ((drewN_below wr (1 + nd)).alloc (by exact Nat.le_refl _) _) (by omega) (Nat.le_refl _) trivial hown1 rfl hgr1 (hat1.imp_right (fun e => by simp [e]))
                have hmi2 : Hid (xs ++ [priceAt ps (17 * k + 5 * j + i)] = madeCents ps k j (i + 1)) := by rw [madeCents_snoc, ← hmi.out]; rfl
                clear hmi howni' hbki' hown1 hgr1 hat1 hlt1 hbi
                clear t1 t2 t3 t4 xa
                go_wp2
                go_roundw
                case rel => exact ⟨i + 1, _, _, by omega, by go_num, hR.1, hR.2.1, hR.2.2, hmi2⟩
                case measure => simp [intOf]; omega

            · have hlti' : decide ((i : Int) < 1 + (zb : Int)) = false := by simp; omega
              have hti : Below wt.heap.size wt wr := hS2.trans hbi
              have hbq := hbkj'.out.below hti (by omega)
              have hownq := hownj'.out.keep stepIn_inner (Keeps.of_below hti _)
              have hxs : xs = madeCents ps k j (1 + zb) := by rw [hmi.out]; congr 1; omega
              have hin : stepIn (fun b => wq.heap.size + 1 ≤ b ∧ some b ≠ sv.ownBlock) (wr.alloc (.cells #[.int .i64 (20 + 30 * (j : Int)), cv] 61)) (⟨20 + 30 * (j : Int), xs⟩, cv) := by
                refine IsIntsP.keep (OwnInts.ints howni) (Keeps.of_below ((Below.refl _ _).alloc (Nat.le_refl _) _) _) fun b hb hp => ⟨by omega, fun e => ?_⟩
                have := (hownj'.out.block_lt e.symm).2
                omega
              have hone := howni.one
              have x0 := hbki.cell 0
              have x1 := hbki.cell 1
              have y0 := hbq.cell 1
              simp at x0 x1 y0
              have hsl : sps.length = j := by have := congrArg List.length hmj.out; simpa [madeSteps] using this
              have hsl2 : sps.length ≤ 3 := by omega
              have sd1 : sps.length + 1 ≤ maxLen := by unfold maxLen; omega
              have sd2 : wq.heap.size + 1 ≤ wr.heap.size + 1 := by omega
              have sd4 : (sps.length + 1) * 32 ≤ 140737488355328 := by omega
              obtain ⟨i0, hi0, hz0, hz1x, hz2⟩ := info_parts step_info
              have hneq : some wq.heap.size ≠ sv.ownBlock := fun e => by have := (hownq.1.lt _ e.symm).1; omega
              have hbj2 : Below wq.heap.size W1 wr := hbj.trans (hti.mono (by omega))
              have hsvo := Lib.hid hownq
              have hbqo := Lib.hid hbq
              have hxso := Lib.hid hxs
              clear hownq hbq hxs hsl howni hbki hmi hbi
              go_wp2_with (at_builtin; refine wpList_append_lies _ rfl (.tmp 74) (.tmp 76) 55 rfl (wq.heap.size + 1) 61 i0 (.agg #[.int .i64 0, .slice none 0 0]) 2 32 Try.underlying55 hi0 hz0 hz1x hz2 rfl (by decide) sv sps.length _ rfl (by exact hsvo.out.1.alloc _) ⟨wr.heap.size, 0, none⟩ 1 1 [.int .i64 (20 + 30 * (j : Int)), cv] rfl rfl (by exact World.news_of_block (cs := #[.int .i64 (20 + 30 * (j : Int)), cv]) (heap_alloc_new wr _)) (one2 rfl hone) Nat.one_pos sd1 sd4 (by exact Nat.le_trans sd2 (by simp)) (wr.heap.size + 1) (by simp) ?_; intro g cap w1 hown1 hgr1 hat1 hlt1; have hbk1 := Blk.grown (by exact hbqo.out.alloc _) hgr1 hneq; have y1 := hbk1.cell 1; have yf := hbk1.frozen 1; simp only [List.getElem?_toArray, List.getElem?_cons_succ, List.getElem?_cons_zero] at y1; clear hbk1; have hR := field_append stepIn_inner (i := 1) (a := (⟨20 + 30 * (j : Int), xs⟩, cv)) hbj2 hbqo.out hsvo.out ((Below.refl _ _).alloc (Nat.le_refl _) _) (by omega) (Nat.le_refl _) hin hown1 rfl hgr1 (hat1.imp_right (fun e => by simp [e])); clear hown1 hgr1 hat1 hlt1)
              have hmj2 : Hid ((sps ++ [((⟨20 + 30 * (j : Int), xs⟩ : Step), cv)]).map (·.1) = madeSteps ps (1 + zb) k (j + 1)) := by
                rw [madeSteps_snoc, ← hmj.out, ← hxso.out]
                simp [Hid]
              go_roundw
              case rel => exact ⟨j + 1, _, _, by omega, by go_num, hR.1, hR.2.1, hR.2.2, hmj2⟩
              case measure => simp [intOf]; omega
        · have hltj' : decide ((j : Int) ≤ (sb : Int)) = false := by simp; omega
          have htj : Below wq.heap.size wq wr := hS1.trans hbj
          have hbq := hbk'.out.below htj (by omega)
          have hownq := hown'.out.keep rateIn_inner (Keeps.of_below htj _)
          have hss : sps.map (·.1) = madeSteps ps (1 + zb) k (sb + 1) := by rw [hmj.out]; congr 1; omega
          have hin : rateIn (fun b => w.heap.size + 4 ≤ b ∧ some b ≠ rv.ownBlock) (wr.alloc (.cells #[.int .u8 ((k : Int) + 1), sv, .int .i64 (br : Int)] 57)) (⟨(k : Int) + 1, sps.map (·.1), br⟩, sv) := by
            refine ⟨IsStepsP.keep (OwnSteps.steps hownj) (Keeps.of_below ((Below.refl _ _).alloc (Nat.le_refl _) _) _) fun b hb hp => ⟨by omega, fun e => ?_⟩, by simp; omega, by simp; omega⟩
            have := (hown'.out.block_lt e.symm).2
            omega
          have hone := hownj.one
          have x0 := hbkj.cell 0
          have x1 := hbkj.cell 1
          have x2 := hbkj.cell 2
          have y0 := hbq.cell 0
          simp at x0 x1 x2 y0
          have hsl : rps.length = k := by have := congrArg List.length hmr.out; simpa [madeRates] using this
          have hsl2 : rps.length ≤ 3 := by omega
          have sd1 : rps.length + 1 ≤ maxLen := by unfold maxLen; omega
          have sd2 : w.heap.size + 4 ≤ wr.heap.size + 1 := by omega
          have sd4 : (rps.length + 1) * 40 ≤ 140737488355328 := by omega
          obtain ⟨i0, hi0, hz0, hz1x, hz2⟩ := info_parts rate_info
          have hneq : some (w.heap.size + 1 + 1 + 1) ≠ rv.ownBlock := fun e => by have := (hownq.1.lt _ e.symm).1; omega
          have hbj2 : Below (w.heap.size + 3) W0 wr := hbr.trans (htj.mono (by omega))
          have hrvo := Lib.hid hownq
          have hbqo := Lib.hid hbq
          have hsso := Lib.hid hss
          clear hownq hbq hss hsl hownj hbkj hmj hbj
          go_wp2_with (at_builtin; refine wpList_append_lies _ rfl (.tmp 80) (.tmp 82) 22 rfl (w.heap.size + 4) 57 i0 (.agg #[.int .u8 0, .slice none 0 0, .int .i64 0]) 3 40 Try.underlying22 hi0 hz0 hz1x hz2 rfl (by decide) rv rps.length _ rfl (by exact hrvo.out.1.alloc _) ⟨wr.heap.size, 0, none⟩ 1 1 [.int .u8 ((k : Int) + 1), sv, .int .i64 (br : Int)] rfl rfl (by exact World.news_of_block (cs := #[.int .u8 ((k : Int) + 1), sv, .int .i64 (br : Int)]) (heap_alloc_new wr _)) (one3 rfl hone rfl) Nat.one_pos sd1 sd4 (by exact Nat.le_trans sd2 (by simp)) (wr.heap.size + 1) (by simp) ?_; intro g cap w1 hown1 hgr1 hat1 hlt1; have hbk1 := Blk.grown (by exact hbqo.out.alloc _) hgr1 hneq; have y1 := hbk1.cell 0; have yf := hbk1.frozen 0; simp only [List.getElem?_toArray, List.getElem?_cons_zero] at y1; clear hbk1; have hR := field_append rateIn_inner (i := 0) (a := (⟨(k : Int) + 1, sps.map (·.1), br⟩, sv)) hbj2 hbqo.out hrvo.out ((Below.refl _ _).alloc (Nat.le_refl _) _) (by omega) (by omega) hin hown1 rfl hgr1 (hat1.imp_right (fun e => by simp [e])); clear hown1 hgr1 hat1 hlt1)
          have hmr2 : Hid ((rps ++ [((⟨(k : Int) + 1, sps.map (·.1), (br : Int)⟩ : Rate), sv)]).map (·.1) = madeRates ps (1 + zb) (sb + 1) br (k + 1)) := by
            rw [madeRates_snoc, ← hmr.out, ← hsso.out]
            simp [Hid]
          go_roundw
          case rel => exact ⟨k + 1, _, _, by omega, by go_num, hR.1, hR.2.1, hR.2.2, hmr2⟩
          case measure => simp [intOf]; omega

    · have hlt' : decide ((k : Int) ≤ (cb : Int)) = false := by simp; omega
      obtain ⟨we, rfl⟩ : ∃ we : World, we = wr := ⟨_, rfl⟩
      have hP : Blk (we.alloc (.cells pairCells 86)) we.heap.size 86 pairCells := Blk.new _ _ _
      have hPb : Below we.heap.size we (we.alloc (.cells pairCells 86)) := (Below.refl _ _).alloc (Nat.le_refl _) _
      have hown2 := hown.keep rateIn_inner (Keeps.of_below hPb _)
      have hbk2 := hbk.below hPb hbk.lt
      have hb4 : Below (w.heap.size + 3) W0 (we.alloc (.cells pairCells 86)) := hbr.trans (hPb.mono (by omega))
      have hz2 := hk2.below hb4 (by omega)
      have hr1 := hk1.below hb4 (by omega)
      have hmr2 : Hid (rps.map (·.1) = madeRates ps (1 + zb) (sb + 1) br (cb + 1)) := by
        have : k = cb + 1 := by omega
        rw [← this]; exact hmr
      have ho2 := Lib.hid hown2
      have hb5 := Lib.hid hbk2
      clear hown2 hbk2 hown hbk hmr hk2 hk1 hk3 hbr
      go_wp2
      simp only [r2]
      change Code.wp _ _ _ _ (we.alloc (.cells pairCells 86))
      generalize (we.alloc (.cells pairCells 86)) = W4 at hP hPb ho2 hb5 hb4 hz2 hr1 ⊢
      have hs4 : we.heap.size < W4.heap.size := hP.lt
      have hPP := Lib.hid hP
      clear hP
      go_loopw [96] (fun iv wr => ∃ (i : Nat) (zs : List Zone) (zv : Value), i ≤ 9 ∧ iv = .int .i64 i ∧ Below (w.heap.size + 2) W4 wr ∧ Keeps (fun b => w.heap.size + 4 ≤ b) W4 wr ∧ Blk wr (w.heap.size + 1 + 1 + 1) 25 #[rv, zv] ∧ OwnZones (w.heap.size + 2) wr zv zs ∧ ZAt w.heap.size W4 zv ∧ Hid (zs = madeRows (n / 2048) (1 + zb) i))
        (fun iv _ => 9 - (intOf iv).toNat)
      case atStart =>
        refine ⟨0, [⟨⟨#[]⟩, ⟨#[]⟩, 1⟩], _, by omega, rfl, Below.refl _ _, ⟨Nat.le_refl _, fun _ _ _ => rfl⟩, hb5.out, ?_, .inl rfl, rfl⟩
        exact ⟨⟨rfl, .inr ⟨_, 1, _, rfl, by omega, hz2, Nat.le_refl _, small_max (by omega), rfl, rfl⟩⟩, fun p hp => by rw [List.mem_singleton.1 hp]; exact ⟨Nat.zero_le _, Nat.zero_le _⟩⟩
      case round =>
        obtain ⟨i, zs, zv, hi, rfl, hbz, hkz, hbkz, hownz, hzat, hmz⟩ := hrel
        have hszz : W4.heap.size ≤ wr.heap.size := hkz.size
        by_cases hlti : i < 9
        · obtain ⟨pf, pt, hp1, hp2⟩ := pairCells_at i hlti
          have c0 : wr.cell? ⟨we.heap.size, i * 2, none⟩ = some (.string (pairAt i).1) := (hkz.cell (by omega) (by omega)).trans ((hPP.out.cell _).trans pf)
          have c1x : wr.cell? ⟨we.heap.size, i * 2 + 1, none⟩ = some (.string (pairAt i).2) := (hkz.cell (by omega) (by omega)).trans ((hPP.out.cell _).trans pt)
          clear pf pt
          have hrow : Hid (madeRow (1 + zb) i = ⟨(pairAt i).1, (pairAt i).2, 1 + (i : Int) % (1 + (zb : Int))⟩) := by unfold madeRow; simp [Hid]
          generalize (pairAt i).1 = sf at *
          generalize (pairAt i).2 = st at *
          have hlti' : decide ((i : Int) < 9) = true := by simp; omega
          have i0 : (0 : Int) ≤ (i : Int) := by omega
          have i1 : (i : Int) < 9 := by omega
          have q5 := shr_bit n i hn
          have hbz' := Lib.hid hbz
          have hownz' := Lib.hid hownz
          have hbkz' := Lib.hid hbkz
          clear hownz hbkz hbz
          by_cases hbit : n / 2048 / 2 ^ i % 2 = 1
          · rw [hbit] at q5
            have h5 : Below wr.heap.size wr (wr.alloc (.cells #[.string sf, .string st] 86)) := (Below.refl _ _).alloc (Nat.le_refl _) _
            have k5 : Blk (wr.alloc (.cells #[.string sf, .string st] 86)) wr.heap.size 86 #[.string sf, .string st] := Blk.new _ _ _
            have hbz5 := hbz'.out.trans (h5.mono (by omega))
            have hkz5 := hkz.trans (Keeps.of_below h5 _)
            have hbk5 := hbkz'.out.below h5 hbkz'.out.lt
            have hown5 := hownz'.out.keep zoneIn_inner (Keeps.of_below h5 _)
            go_wp2
            generalize (wr.alloc (.cells #[.string sf, .string st] 86)) = W5 at *
            have hs5 : wr.heap.size < W5.heap.size := k5.lt
            have e0 := k5.cell 0
            have e1 := k5.cell 1
            have e2 := hbk5.cell 1
            simp at e0 e1 e2
            have xa : ∀ (o : Obj), (W5.alloc o).cell? ⟨w.heap.size + 1 + 1 + 1, 1, none⟩ = some zv := fun o => (World.cell?_alloc_lt _ _ _ (by show w.heap.size + 1 + 1 + 1 < _; omega)).trans e2
            have hzl : zs.length ≤ 10 := by rw [hmz.out]; have := (madeRows_len (n / 2048) (1 + zb) i).2; omega
            have sd1 : zs.length + 1 ≤ maxLen := by unfold maxLen; omega
            have sd2 : w.heap.size + 2 ≤ W5.heap.size + 1 := by omega
            have sd4 : (zs.length + 1) * 40 ≤ 140737488355328 := by omega
            obtain ⟨i0x, hi0, hz0, hz1x, hz2x⟩ := info_parts zone_info
            have hneq : some (w.heap.size + 1 + 1 + 1) ≠ zv.ownBlock := fun e => by
              rcases hzat with e2 | ⟨h, e2, h3⟩
              · rw [← e] at e2; injection e2 with e2; omega
              · rw [← e] at e2; injection e2 with e2; omega
            have d1 : ((1 + (zb : Int)) == 0) = false := by rw [beq_eq_false_iff_ne]; omega
            have d2 : (1 : Int) ≤ 1 + (zb : Int) := by omega
            have d3 : 0 ≤ (i : Int) % (1 + (zb : Int)) := Int.emod_nonneg _ (by omega)
            have d4 : (i : Int) % (1 + (zb : Int)) < 1 + (zb : Int) := Int.emod_lt_of_pos _ (by omega)
            have d5 : ¬ (1 + (zb : Int) = 0) := by omega
            have t0 : (i : Int).tmod (1 + (zb : Int)) = (i : Int) % (1 + (zb : Int)) := Int.tmod_eq_emod_of_nonneg (by omega)
            have t1 : IntKind.i64.wrap (1 + (i : Int) % (1 + (zb : Int))) = 1 + (i : Int) % (1 + (zb : Int)) := IntWalk.i64_in _ (by omega)
            have hs4' : w.heap.size + 4 ≤ W4.heap.size := by omega
            have hszs : sf.size ≤ maxLen ∧ st.size ≤ maxLen := ⟨small_max (by omega), small_max (by omega)⟩
            have hmz2 : Hid (zs ++ [⟨sf, st, 1 + (i : Int) % (1 + (zb : Int))⟩] = madeRows (n / 2048) (1 + zb) (i + 1)) := by rw [madeRows, if_pos hbit, hrow.out, ← hmz.out]; rfl
            clear hbit
            have hown5' := Lib.hid hown5
            have hbk5' := Lib.hid hbk5
            clear hown5 hbk5 c0 c1x hownz' hbkz' hbz' hkz
            go_region_law ((refine step_append_lies _ (by rfl) (.tmp 108) (.tmp 118) 23 (by rfl) (w.heap.size + 2) 67 i0x (.agg #[.string ⟨#[]⟩, .string ⟨#[]⟩, .int .i64 0]) 3 40 Try.underlying23 hi0 hz0 hz1x hz2x rfl (by decide) zv zs.length _ (by rfl) (by exact hown5'.out.1.alloc _) ⟨W5.heap.size, 0, none⟩ 1 1 [.string sf, .string st, .int .i64 (1 + (i : Int) % (1 + (zb : Int)))] (by rfl) rfl (by exact World.news_of_block (cs := #[.string sf, .string st, .int .i64 (1 + (i : Int) % (1 + (zb : Int)))]) (heap_alloc_new _ _)) (one3 rfl rfl rfl) Nat.one_pos sd1 sd4 (by exact Nat.le_trans sd2 (by simp)) (W5.heap.size + 1) (by simp) ?_; intro g cap w1 hown1 hgr1 hat1 hlt1; have hbk1 := Blk.grown (by exact hbk5'.out.alloc _) hgr1 hneq; have y1 := hbk1.cell 1; have yf := hbk1.frozen 1; simp only [List.getElem?_toArray, List.getElem?_cons_succ, List.getElem?_cons_zero] at y1; clear hbk1))
            all_goals
              have hR := zrows_append (z := ⟨sf, st, 1 + (i : Int) % (1 + (zb : Int))⟩) hbz5 hkz5 hbk5'.out hown5'.out hzat hs4' (by first | exact ((Below.refl _ _).alloc (Nat.le_refl _) _).drew | exact (Below.refl _ _).drew.alloc (Nat.le_refl _) _) hszs hown1 rfl hgr1 (hat1.imp_right (fun e => by simp [e]))
              clear hown1 hgr1 hat1 hlt1 t0 t1
              go_wp2
              go_roundw
              case rel => exact ⟨i + 1, _, _, by omega, by go_num, hR.1, hR.2.1, hR.2.2.1, hR.2.2.2.1, hR.2.2.2.2, hmz2⟩
              case measure => simp [intOf]; omega
          · have hbit0 : n / 2048 / 2 ^ i % 2 = 0 := by omega
            rw [hbit0] at q5
            have h5 : Below wr.heap.size wr (wr.alloc (.cells #[.string sf, .string st] 86)) := (Below.refl _ _).alloc (Nat.le_refl _) _
            have hbz5 := hbz'.out.trans (h5.mono (by omega))
            have hkz5 := hkz.trans (Keeps.of_below h5 _)
            have hbk5 := Lib.hid (hbkz'.out.below h5 hbkz'.out.lt)
            have hown5 := Lib.hid (hownz'.out.keep zoneIn_inner (Keeps.of_below h5 _))
            have hmz2 : Hid (zs = madeRows (n / 2048) (1 + zb) (i + 1)) := by rw [madeRows, if_neg hbit]; exact hmz
            clear hbit hbit0
            go_wp2
            go_roundw
            case rel => exact ⟨i + 1, zs, zv, by omega, by go_num, hbz5, hkz5, hbk5.out, hown5.out, hzat, hmz2⟩
            case measure => simp [intOf]; omega
        · have hlti' : decide ((i : Int) < 9) = false := by simp; omega
          have hi9 : i = 9 := by omega
          subst hi9
          have e0 := hbkz.cell 0
          have e1 := hbkz.cell 1
          have hr2 := hr1.below hbz (by omega)
          have f0 := hr2.cell 0
          have f1 := hr2.cell 1
          have g0 := hr2.frozen 0
          have g1 := hr2.frozen 1
          simp at e0 e1 f0 f1
          have hfin : IsRates wr rv (madeRates ps (1 + zb) (sb + 1) br (cb + 1)) := by rw [← hmr2.out]; exact OwnRates.rates (ho2.out.keep rateIn_inner hkz)
          have hfz : IsZones wr zv (madeRows (n / 2048) (1 + zb) 9) := by rw [← hmz.out]; exact OwnZones.zones hownz
          have hfr' := Lib.hid hfin
          have hfz' := Lib.hid hfz
          have hr2' := Lib.hid hr2
          obtain ⟨A3, c3, rfl, _, _, _⟩ := hfin
          obtain ⟨A4, c4, rfl, _, _, _⟩ := hfz
          have hres : Blk ((wr.setCell ⟨w.heap.size + 1, 0, none⟩ (.slice A3 (madeRates ps (1 + zb) (sb + 1) br (cb + 1)).length c3)).setCell ⟨w.heap.size + 1, 1, none⟩ (.slice A4 (madeRows (n / 2048) (1 + zb) 9).length c4)) (w.heap.size + 1) 25 #[.slice A3 (madeRates ps (1 + zb) (sb + 1) br (cb + 1)).length c3, .slice A4 (madeRows (n / 2048) (1 + zb) 9).length c4] := (hr2'.out.set_ 0 _).set_ 1 _
          have hbW : Below w.heap.size w ((wr.setCell ⟨w.heap.size + 1, 0, none⟩ (.slice A3 (madeRates ps (1 + zb) (sb + 1) br (cb + 1)).length c3)).setCell ⟨w.heap.size + 1, 1, none⟩ (.slice A4 (madeRows (n / 2048) (1 + zb) 9).length c4)) := ((((hbW0.trans (hb4.mono (by omega))).trans (hbz.mono (by omega))).setCell (by simp) _).setCell (by simp) _)
          have hkS : Keeps (fun b => w.heap.size + 2 ≤ b) wr ((wr.setCell ⟨w.heap.size + 1, 0, none⟩ (.slice A3 (madeRates ps (1 + zb) (sb + 1) br (cb + 1)).length c3)).setCell ⟨w.heap.size + 1, 1, none⟩ (.slice A4 (madeRows (n / 2048) (1 + zb) 9).length c4)) := (Keeps.set_ _ _ _ (by simp)).trans (Keeps.set_ _ _ _ (by simp))
          have hfr2 : Hid (IsRates ((wr.setCell ⟨w.heap.size + 1, 0, none⟩ (.slice A3 (madeRates ps (1 + zb) (sb + 1) br (cb + 1)).length c3)).setCell ⟨w.heap.size + 1, 1, none⟩ (.slice A4 (madeRows (n / 2048) (1 + zb) 9).length c4)) (.slice A3 (madeRates ps (1 + zb) (sb + 1) br (cb + 1)).length c3) (madeRates ps (1 + zb) (sb + 1) br (cb + 1))) := by
            have := OwnRates.rates ((ho2.out.keep rateIn_inner hkz).keep rateIn_inner ⟨hkS.size, fun b hb hp => hkS.block b hb (by omega)⟩)
            rw [hmr2.out] at this
            exact this
          have hfz2 : Hid (IsZones ((wr.setCell ⟨w.heap.size + 1, 0, none⟩ (.slice A3 (madeRates ps (1 + zb) (sb + 1) br (cb + 1)).length c3)).setCell ⟨w.heap.size + 1, 1, none⟩ (.slice A4 (madeRows (n / 2048) (1 + zb) 9).length c4)) (.slice A4 (madeRows (n / 2048) (1 + zb) 9).length c4) (madeRows (n / 2048) (1 + zb) 9)) := by
            have := OwnZones.zones (hownz.keep zoneIn_inner hkS)
            rw [hmz.out] at this
            exact this
          clear hkS hfr' hfz'
          generalize hL1 : (madeRates ps (1 + zb) (sb + 1) br (cb + 1)).length = l1 at *
          generalize hL2 : (madeRows (n / 2048) (1 + zb) 9).length = l2 at *
          have hL1' := Lib.hid hL1
          have hL2' := Lib.hid hL2
          clear hr2 hownz hmz hmr2 hL1 hL2
          go_wp2
          refine bodyPost_ret (results_cell_row Try.results12 _ _ _ _ _ (0, 0) _ rfl hres Try.underlying25 rfl size25) rfl ⟨_, _, rfl, hfr2.out, hfz2.out, hbW⟩
end Go.Proofs.Ythbnbfeolfkkaaa
