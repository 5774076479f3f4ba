/- The walk of TariffAdds: it returns true. -/
import Derived.Test.YthbnbfeolfkkaaaL3
import Derived.Test.YthbnbfeolfkkaaaL10
import Derived.Test.YthbnbfeolfkkaaaL12
import Derived.Test.YthbnbfeolfkkaaaL13
import Derived.Test.YthbnbfeolfkkaaaMadeW2
import Derived.Test.YthbnbfeolfkkaaaAddsQ
import Derived.Deep.DeepCutAuto
import Derived.Outline
namespace Go.Proofs.Ythbnbfeolfkkaaa
open Go.RowKit Go.Maps
attribute [local go_sem ↓] Go.wp_at_zero Go.wp_at_succ
attribute [local go_sem] World.cell?_alloc_lt World.frozen?_alloc_past

theorem nat_modA {x n : Int} (hn : 1 ≤ n) : ∃ k : Nat, x % n = (k : Int) ∧ (k : Int) < n := by
  have h0 : 0 ≤ x % n := Int.emod_nonneg _ (by omega)
  have h1 : x % n < n := Int.emod_lt_of_pos _ (by omega)
  exact ⟨(x % n).toNat, by omega, by omega⟩

theorem Blk.drew_ {w : World} {g : Nat} {t : TypeId} {cs : Array Value} (h : Blk w g t cs) : Blk w.drew g t cs := h
theorem Blk.setA {W : World} {v : Nat} {a b x y : Value} (h : Blk W v 25 #[a, b]) : Blk ((W.setCell ⟨v, 0, none⟩ x).setCell ⟨v, 1, none⟩ y) v 25 #[x, y] := (h.set_ 0 x).set_ 1 y
theorem Blk.setB {W : World} {v : Nat} {a b c d x y z u : Value} (h : Blk W v 36 #[a, b, c, d]) : Blk ((((W.setCell ⟨v, 0, none⟩ x).setCell ⟨v, 1, none⟩ y).setCell ⟨v, 2, none⟩ z).setCell ⟨v, 3, none⟩ u) v 36 #[x, y, z, u] := (((h.set_ 0 x).set_ 1 y).set_ 2 z).set_ 3 u
/-- as w, but for blocks that are new and the two blocks vA, vB -/
structure Near (vA vB : Nat) (w W : World) : Prop where
  os : W.os = w.os
  tape : W.tape = w.tape
  output : W.output = w.output
  size : w.heap.size ≤ W.heap.size
  block : ∀ b, b ≠ vA → b ≠ vB → b < w.heap.size → W.heap[b]? = w.heap[b]?
theorem Near.refl (vA vB : Nat) (w : World) : Near vA vB w w := ⟨rfl, rfl, rfl, Nat.le_refl _, fun _ _ _ _ => rfl⟩
theorem Near.drew {vA vB : Nat} {w W : World} (h : Near vA vB w W) : Near vA vB w W.drew := ⟨h.os, h.tape, h.output, h.size, h.block⟩
theorem Near.alloc {vA vB : Nat} {w W : World} (h : Near vA vB w W) (o : Obj) : Near vA vB w (W.alloc o) :=
  ⟨h.os, h.tape, h.output, by simp; have := h.size; omega, fun b h1 h2 h3 => (Below.heap_alloc W o b (Nat.lt_of_lt_of_le h3 h.size)).trans (h.block b h1 h2 h3)⟩
theorem Near.setA {vA vB : Nat} {w W : World} (h : Near vA vB w W) (i : Nat) (u : Value) : Near vA vB w (W.setCell ⟨vA, i, none⟩ u) :=
  ⟨h.os, h.tape, h.output, by simp [World.setCell]; exact h.size, fun b h1 h2 h3 => (Below.heap_setCell W ⟨vA, i, none⟩ u b h1).trans (h.block b h1 h2 h3)⟩
theorem Near.setB {vA vB : Nat} {w W : World} (h : Near vA vB w W) (i : Nat) (u : Value) : Near vA vB w (W.setCell ⟨vB, i, none⟩ u) :=
  ⟨h.os, h.tape, h.output, by simp [World.setCell]; exact h.size, fun b h1 h2 h3 => (Below.heap_setCell W ⟨vB, i, none⟩ u b h2).trans (h.block b h1 h2 h3)⟩
/-- what the region of TariffAdds leaves: the tariff, the scheme and the mailing -/
def AddsCut (w1 : World) (rs : List Rate) (zs : List Zone) (ls : List Level) (cls : Int) (o : ByteArray) (pcs : List Piece) (s15 s16 s17 : Value) (wx : World) : Prop :=
  ∃ vA vB rv zv qv, s15 = .pointer (some ⟨vA, 0, none⟩) ∧ s17 = .pointer (some ⟨vB, 0, none⟩) ∧ Blk wx vA 25 #[rv, zv] ∧ Blk wx vB 36 #[.int .u8 cls, .int .u8 1, .string o, qv] ∧
    IsRates wx rv rs ∧ IsZones wx zv zs ∧ IsLevels wx s16 ls ∧ IsPieces wx qv pcs ∧ Below w1.heap.size w1 wx
theorem adds_meet {w1 w2 w3 w4 Wf : World} {L2 L3 L4 vA vB : Nat} {rv zv xv qv : Value} {rs : List Rate} {zs : List Zone} {ls : List Level} {lps : List (Level × Value)} {pcs : List Piece} {cls : Int} {o : ByteArray}
    (hR : IsRatesP (fun b => L2 ≤ b) w2 rv rs) (hZ : OwnZones L2 w2 zv zs) (hX : OwnLevels L3 w3 xv lps) (hlp : lps.map (·.1) = ls) (hM : OwnPieces L4 w4 qv pcs) (h23 : Below w2.heap.size w2 w3) (h34 : Below w3.heap.size w3 w4) (h14 : Below w1.heap.size w1 w4)
    (hN : Near vA vB w4 Wf) (hA : Blk Wf vA 25 #[rv, zv]) (hB : Blk Wf vB 36 #[.int .u8 cls, .int .u8 1, .string o, qv])
    (hA1 : w1.heap.size ≤ vA) (hB1 : w1.heap.size ≤ vB) (hA2 : vA < L2 ∨ w2.heap.size ≤ vA) (hB2 : vB < L2 ∨ w2.heap.size ≤ vB) (hA3 : vA < L3 ∨ w3.heap.size ≤ vA) (hB3 : vB < L3 ∨ w3.heap.size ≤ vB) (hA4 : vA < L4 ∨ w4.heap.size ≤ vA) (hB4 : vB < L4 ∨ w4.heap.size ≤ vB) :
    AddsCut w1 rs zs ls cls o pcs (.pointer (some ⟨vA, 0, none⟩)) xv (.pointer (some ⟨vB, 0, none⟩)) Wf := by
  have s23 := h23.size
  have s34 := h34.size
  have hsz := hN.size
  have k2 : Keeps (fun b => L2 ≤ b) w2 Wf := ⟨by omega, fun b hb hp => by rw [hN.block b (by omega) (by omega) (by omega), h34.block b (by omega), h23.block b hb]⟩
  have k3 : Keeps (fun b => L3 ≤ b) w3 Wf := ⟨by omega, fun b hb hp => by rw [hN.block b (by omega) (by omega) (by omega), h34.block b hb]⟩
  have k4 : Keeps (fun b => L4 ≤ b) w4 Wf := ⟨hsz, fun b hb hp => hN.block b (by omega) (by omega) hb⟩
  have s14 := h14.size
  have hbl : Below w1.heap.size w1 Wf := h14.trans ⟨hN.os, hN.tape, hN.output, hsz, fun b hb => hN.block b (by omega) (by omega) (by omega)⟩
  refine ⟨vA, vB, rv, zv, qv, rfl, rfl, hA, hB, (hR.keep k2 (fun _ _ h => h)).plain, OwnZones.zones (hZ.keep zoneIn_inner k2), ?_, OwnPieces.pieces (hM.keep pieceIn_inner k4), hbl⟩
  rw [← hlp]
  exact OwnLevels.levels (hX.keep levelIn_inner k3)

/-- what TariffAdds holds in memory -/
def AddsHas (w : World) (vA vB : Nat) (rv zv xv qv : Value) (cls : Int) (o : ByteArray) (rs : List Rate) (zs : List Zone) (ls : List Level) (pcs : List Piece) : Prop :=
  (vA < w.heap.size ∧ vB < w.heap.size ∧ w.cell? ⟨vA, 0, none⟩ = some rv ∧ w.cell? ⟨vA, 1, none⟩ = some zv ∧ w.cell? ⟨vB, 0, none⟩ = some (.int .u8 cls) ∧ w.cell? ⟨vB, 1, none⟩ = some (.int .u8 1) ∧ w.cell? ⟨vB, 2, none⟩ = some (.string o) ∧ w.cell? ⟨vB, 3, none⟩ = some qv) ∧
    IsRates w rv rs ∧ IsZones w zv zs ∧ IsLevels w xv ls ∧ IsPieces w qv pcs
theorem AddsHas.stays {w w' : World} {vA vB : Nat} {rv zv xv qv : Value} {cls : Int} {o : ByteArray} {rs : List Rate} {zs : List Zone} {ls : List Level} {pcs : List Piece} (h : AddsHas w vA vB rv zv xv qv cls o rs zs ls pcs) (hs : Stays w w') : AddsHas w' vA vB rv zv xv qv cls o rs zs ls pcs := by
  obtain ⟨⟨h1, h2, h3, h4, h5, h6, h7, h8⟩, h9, h10, h11, h12⟩ := h
  exact ⟨⟨Nat.lt_of_lt_of_le h1 hs.1, Nat.lt_of_lt_of_le h2 hs.1, (hs.2 _ h1).trans h3, (hs.2 _ h1).trans h4, (hs.2 _ h2).trans h5, (hs.2 _ h2).trans h6, (hs.2 _ h2).trans h7, (hs.2 _ h2).trans h8⟩, h9.stays hs, h10.stays hs, h11.stays hs, h12.stays hs⟩
theorem plan_bd {k many : Nat} {l : List Int} (hm : 1 ≤ many) : ∀ x ∈ planOf k many l, 0 ≤ x ∧ x < (many : Int) := by
  intro x hx
  obtain ⟨i, _, rfl⟩ := List.mem_map.1 hx
  exact planAt_bd many l i hm

set_option maxRecDepth 100000 in
set_option maxHeartbeats 16000000 in
theorem adds_any (n s : Nat) (ps cs ql l : List Int) (pv cv qv lv : Value) (cls : Int) (w : World) (hn : n < 4294967296) (hs : s < 4294967296) (hp : IsKs .u8 w pv ps) (hps : ∀ x ∈ ps, 0 ≤ x ∧ x ≤ 255) (hc : IsKs .u8 w cv cs) (hcs : ∀ x ∈ cs, 0 ≤ x ∧ x ≤ 255)
    (hq : IsKs .u8 w qv ql) (hqs : ∀ x ∈ ql, 0 ≤ x ∧ x ≤ 255) (hl : IsKs .u16 w lv l) (hls : ∀ x ∈ l, 0 ≤ x ∧ x ≤ 65535) (hc0 : 0 ≤ cls) (_hc1 : cls ≤ 255) :
    Calls Try.prog 4 #[.int .u32 (n : Int), .int .u32 (s : Int), pv, cv, qv, .int .u8 cls, lv] w fun e w' => e = .returned (.bool true) ∧ Below w.heap.size w w' := by
  have hpp := Lib.hid hp
  have hcc := Lib.hid hc
  have hqq := Lib.hid hq
  have hll := Lib.hid hl
  have hps' := Lib.hid hps
  have hcs' := Lib.hid hcs
  have hqs' := Lib.hid hqs
  have hls' := Lib.hid hls
  obtain ⟨Ap, cp, rfl, _, hpm, hAp⟩ := hp
  obtain ⟨Ac, cc, rfl, _, hcm, hAc⟩ := hc
  obtain ⟨Aq, cq, rfl, _, hqm, hAq⟩ := hq
  obtain ⟨Al, cl, rfl, _, hlm, hAl⟩ := hl
  clear hAp hAc hAq hAl hps hcs hqs hls
  go_enter Try.func4, Try.ntmps4
  go_wp2_with fail
  refine (awake_any _).mono ?_
  rintro e w1 ⟨rfl, hb1⟩
  replace hpp := Lib.hid (hpp.out.stays (Stays.of hb1))
  replace hcc := Lib.hid (hcc.out.stays (Stays.of hb1))
  replace hqq := Lib.hid (hqq.out.stays (Stays.of hb1))
  replace hll := Lib.hid (hll.out.stays (Stays.of hb1))
  have z1 : 1 ≤ 1 + n / 16 % 4 % 3 ∧ 1 + n / 16 % 4 % 3 ≤ 3 := by omega
  have z2 : n % 4 % 3 ≤ 2 := by omega
  have z3 : 1 ≤ n / 4 % 4 % 3 + 1 ∧ n / 4 % 4 % 3 + 1 ≤ 3 := by omega
  have z4 : n / 64 % 32 ≤ 31 := by omega
  have q2 : bits .and .u32 (n : Int) 3 = ((n % 4 : Nat) : Int) := and_mod n 3 (by omega) 2 rfl (by omega)
  have hmade := fun W (h : IsKs .u8 W (.slice Ap ps.length cp) ps) => made_own n _ _ _ _ ps _ W hn h hps'.out rfl rfl rfl rfl
  have hmade' := Lib.hid hmade
  clear hmade
  generalize 1 + n / 16 % 4 % 3 = nz at *
  generalize n / 4 % 4 % 3 + 1 = ns at *
  generalize n / 64 % 32 = br at *
  generalize n / 2048 = m at *
  have e1 : ((n % 4 : Nat) : Int).tmod 3 = ((n % 4 % 3 : Nat) : Int) := by rw [Int.tmod_eq_emod_of_nonneg (by omega)]; omega
  have z5 : n % 4 ≤ 3 := by omega
  generalize n % 4 % 3 = cb at *
  generalize n % 4 = c4 at *
  have e2 : IntKind.u32.wrap (1 + (cb : Int)) = 1 + (cb : Int) := by rw [IntKind.wrap_u32]; omega
  have e3 : IntKind.u8.wrap (1 + (cb : Int)) = 1 + (cb : Int) := by rw [IntKind.wrap_u8]; omega
  have e4 : ¬ (1 + (cb : Int) = 0) := by omega
  obtain ⟨kk, hkk, hkk2⟩ := nat_modA (x := cls) (n := 1 + (cb : Int)) (by omega)
  have e5 : cls.tmod (1 + (cb : Int)) = (kk : Int) := by rw [Int.tmod_eq_emod_of_nonneg hc0]; exact hkk
  clear hkk
  have hmail := fun W (h : IsKs .u16 W (.slice Al l.length cl) l) => mail_any (kk : Int) _ l W (by omega) (by omega) h hls'.out
  have emf : mailOf (kk : Int) l = ⟨(kk : Int) + 1, 1, ⟨#[49, 48, 48, 50, 51]⟩, mailPieces 0 (l.take 2000)⟩ := by unfold mailOf; congr 1; omega
  rw [emf] at hmail
  have gm1 : mailing ⟨(kk : Int) + 1, 1, ⟨#[49, 48, 48, 50, 51]⟩, mailPieces 0 (l.take 2000)⟩ = true := by rw [← emf]; exact mailing_mail _ l hls'.out
  have gm2 := mail_grams (l.take 2000) 0 (fun x hx => hls'.out x (List.mem_of_mem_take hx))
  have gm3 : (mailPieces 0 (l.take 2000)).length ≤ 2000 := by rw [mailPieces_len]; exact List.length_take_le _ _
  generalize mailPieces 0 (l.take 2000) = pcs at *
  have hmail' := Lib.hid hmail
  have gm1' := Lib.hid gm1
  have gm2' := Lib.hid gm2
  clear hmail emf gm1 gm2
  go_upto_region 3 with fail
  go_cut [15, 16, 17] (fun s15 s16 s17 wx => AddsCut w1 (madeRates ps nz ns br (cb + 1)) (madeRows m nz 9) (madeLevels s cs) ((kk : Int) + 1) ⟨#[49, 48, 48, 50, 51]⟩ pcs s15 s16 s17 wx)
  case first =>
    go_region_law (first | (go_simp; go_at_call 12; refine (hmade'.out _ (by exact hpp.out.stays (Stays.of (by (repeat first | exact Below.refl _ _ | assumption | apply Below.drew | (refine Below.alloc ?_ (by first | (simp; done) | (simp; omega) | omega) _)))))).mono ?_; rintro e w2 ⟨rv, zv, rfl, hR2, hZ2, hb2⟩; have hB2 : Below w1.heap.size w1 w2 := Below.trans (by (repeat first | exact Below.refl _ _ | assumption | apply Below.drew | (refine Below.alloc ?_ (by first | (simp; done) | (simp; omega) | omega) _))) (hb2.mono (by first | (simp; done) | (simp; omega) | omega)); have hR2h := Lib.hid hR2; have hZ2h := Lib.hid hZ2; obtain ⟨A1, c1, rfl, _, _, _⟩ := hR2; obtain ⟨A2, c2, rfl⟩ := hZ2.form_; clear hZ2; have hs2 := hb2.size; (try simp at hs2); (try (have lt12 : w1.heap.size < w2.heap.size := by omega)); (try (have ne12 : w1.heap.size ≠ w2.heap.size := by omega)); (try (have lt12p : w1.heap.size + 1 < w2.heap.size := by omega)); (try (have ne12p : w1.heap.size + 1 ≠ w2.heap.size := by omega)); obtain ⟨hcx2, hfx2⟩ := bcell hb2; (try simp at hcx2 hfx2); dsimp only) | (go_simp; go_at_call 13; refine (madeScheme_any s _ cs _ hs (by exact hcc.out.stays (Stays.of (by (repeat first | exact Below.refl _ _ | assumption | apply Below.drew | (refine Below.alloc ?_ (by first | (simp; done) | (simp; omega) | omega) _))))) hcs'.out).mono ?_; rintro e w3 ⟨xv, lps, rfl, hX3, hlp3, hb3⟩; have hB3 : Below w1.heap.size w1 w3 := Below.trans (by (repeat first | exact Below.refl _ _ | assumption | apply Below.drew | (refine Below.alloc ?_ (by first | (simp; done) | (simp; omega) | omega) _))) (hb3.mono (by first | (simp; done) | (simp; omega) | omega)); have hC3 : Below w2.heap.size w2 w3 := Below.trans (by (repeat first | exact Below.refl _ _ | assumption | apply Below.drew | (refine Below.alloc ?_ (by first | (simp; done) | (simp; omega) | omega) _))) (hb3.mono (by first | (simp; done) | (simp; omega) | omega)); have hX3h := Lib.hid hX3; have hlp := Lib.hid hlp3; obtain ⟨A3, c3, rfl⟩ := hX3.form_; clear hX3 hlp3; have hs3 := hb3.size; (try simp at hs3); (try (have lt13 : w1.heap.size < w3.heap.size := by omega)); (try (have ne13 : w1.heap.size ≠ w3.heap.size := by omega)); (try (have lt13p : w1.heap.size + 1 < w3.heap.size := by omega)); (try (have ne13p : w1.heap.size + 1 ≠ w3.heap.size := by omega)); (try (have lt23 : w2.heap.size < w3.heap.size := by omega)); (try (have ne23 : w2.heap.size ≠ w3.heap.size := by omega)); (try (have lt23p : w2.heap.size + 1 < w3.heap.size := by omega)); (try (have ne23p : w2.heap.size + 1 ≠ w3.heap.size := by omega)); obtain ⟨hcx3, hfx3⟩ := bcell hb3; (try simp at hcx3 hfx3); dsimp only) | (go_simp; go_at_call 14; refine (hmail'.out _ (by exact hll.out.stays (Stays.of (by (repeat first | exact Below.refl _ _ | assumption | apply Below.drew | (refine Below.alloc ?_ (by first | (simp; done) | (simp; omega) | omega) _)))))).mono ?_; rintro e w4 ⟨qv4, rfl, hM4, hb4⟩; have hB4 : Below w1.heap.size w1 w4 := Below.trans (by (repeat first | exact Below.refl _ _ | assumption | apply Below.drew | (refine Below.alloc ?_ (by first | (simp; done) | (simp; omega) | omega) _))) (hb4.mono (by first | (simp; done) | (simp; omega) | omega)); have hC4 : Below w3.heap.size w3 w4 := Below.trans (by (repeat first | exact Below.refl _ _ | assumption | apply Below.drew | (refine Below.alloc ?_ (by first | (simp; done) | (simp; omega) | omega) _))) (hb4.mono (by first | (simp; done) | (simp; omega) | omega)); have hM4h := Lib.hid hM4; obtain ⟨A4, c4x, rfl⟩ := hM4.form_; clear hM4; have hs4 := hb4.size; (try simp at hs4); (try (have lt14 : w1.heap.size < w4.heap.size := by omega)); (try (have ne14 : w1.heap.size ≠ w4.heap.size := by omega)); (try (have lt14p : w1.heap.size + 1 < w4.heap.size := by omega)); (try (have ne14p : w1.heap.size + 1 ≠ w4.heap.size := by omega)); (try (have lt24 : w2.heap.size < w4.heap.size := by omega)); (try (have ne24 : w2.heap.size ≠ w4.heap.size := by omega)); (try (have lt24p : w2.heap.size + 1 < w4.heap.size := by omega)); (try (have ne24p : w2.heap.size + 1 ≠ w4.heap.size := by omega)); (try (have lt34 : w3.heap.size < w4.heap.size := by omega)); (try (have ne34 : w3.heap.size ≠ w4.heap.size := by omega)); (try (have lt34p : w3.heap.size + 1 < w4.heap.size := by omega)); (try (have ne34p : w3.heap.size + 1 ≠ w4.heap.size := by omega)); obtain ⟨hcx4, hfx4⟩ := bcell hb4; (try simp at hcx4 hfx4); dsimp only))
    all_goals
      go_wp2_with fail
      go_meet
      (try clear ne12); (try clear ne12p); (try clear ne13); (try clear ne13p); (try clear ne14); (try clear ne14p); (try clear ne23); (try clear ne23p); (try clear ne24); (try clear ne24p); (try clear ne34); (try clear ne34p); (try clear hcx2); (try clear hcx3); (try clear hcx4); (try clear hfx2); (try clear hfx3); (try clear hfx4)
      (with_reducible refine adds_meet hR2h.out hZ2h.out hX3h.out hlp.out hM4h.out hC3 hC4 hB4 ?_ ?_ ?_ ?_ ?_ ?_ ?_ ?_ ?_ ?_ ?_)
      · repeat first | (with_reducible exact Near.refl _ _ _) | (with_reducible refine Near.drew ?_) | (with_reducible refine Near.setA ?_ _ _) | (with_reducible refine Near.setB ?_ _ _) | (with_reducible refine Near.alloc ?_ _)
      · repeat first | (with_reducible exact Blk.new _ _ _) | ((with_reducible refine Blk.new_at _ _ _ _ ?_); (focus (first | rfl | (simp; done)))) | (with_reducible refine Blk.setA (a := .slice none 0 0) (b := .slice none 0 0) ?_) | (with_reducible refine Blk.drew_ ?_) | (with_reducible refine Blk.alloc ?_ _) | ((with_reducible refine Blk.far ?_ ?_ _); rotate_left; (focus (first | omega | (simp <;> omega))); skip) | ((with_reducible refine Blk.below ?_ hb4 ?_); rotate_left; (focus (first | omega | (simp <;> omega))); skip) | ((with_reducible refine Blk.below ?_ hb3 ?_); rotate_left; (focus (first | omega | (simp <;> omega))); skip) | ((with_reducible refine Blk.below ?_ hb2 ?_); rotate_left; (focus (first | omega | (simp <;> omega))); skip)
      · repeat first | (with_reducible exact Blk.new _ _ _) | ((with_reducible refine Blk.new_at _ _ _ _ ?_); (focus (first | rfl | (simp; done)))) | (with_reducible refine Blk.setB (a := .int .u8 0) (b := .int .u8 0) (c := .string ⟨#[]⟩) (d := .slice none 0 0) ?_) | (with_reducible refine Blk.drew_ ?_) | (with_reducible refine Blk.alloc ?_ _) | ((with_reducible refine Blk.far ?_ ?_ _); rotate_left; (focus (first | omega | (simp <;> omega))); skip) | ((with_reducible refine Blk.below ?_ hb4 ?_); rotate_left; (focus (first | omega | (simp <;> omega))); skip) | ((with_reducible refine Blk.below ?_ hb3 ?_); rotate_left; (focus (first | omega | (simp <;> omega))); skip) | ((with_reducible refine Blk.below ?_ hb2 ?_); rotate_left; (focus (first | omega | (simp <;> omega))); skip)
      all_goals (focus (first | omega | (simp <;> omega)))
  case rest =>
    clear hmade' hmail' hpp hcc hll hpm hcm hqm hlm
    obtain ⟨vA, vB, rv, zv, qv4, rfl, rfl, hBA, hBB, hRx, hZx, hLx, hMx, hb1x⟩ := hcut
    obtain ⟨gl1, gl2, gl3⟩ := madeLevels_good s cs hcs'.out
    have glr := Lib.hid (schemeRight_made s cs hcs'.out)
    have gl1' := Lib.hid gl1
    clear gl1
    generalize madeLevels s cs = lvs at *
    have hH0 : AddsHas wc vA vB rv zv _ qv4 ((kk : Int) + 1) ⟨#[49, 48, 48, 50, 51]⟩ _ _ _ _ := ⟨⟨hBA.lt, hBB.lt, hBA.cell 0, hBA.cell 1, hBB.cell 0, hBB.cell 1, hBB.cell 2, hBB.cell 3⟩, hRx, hZx, hLx, hMx⟩
    have hH := Lib.hid hH0
    clear hH0
    obtain ⟨A1, c1, rfl, _, hc1m, _⟩ := hRx
    obtain ⟨A2, c2, rfl, _, hc2m, _⟩ := hZx
    obtain ⟨A3, c3, rfl, _, hc3m, _⟩ := hLx
    obtain ⟨A4, c4x, rfl, _, hc4m, _⟩ := hMx
    clear hBA hBB
    obtain ⟨⟨hAl, hBl, a0, a1, b0, b1, b2, b3⟩, -⟩ := hH.out
    have hmo' : Hid ((⟨#[49, 48, 48, 50, 51]⟩ : ByteArray).size ≤ maxLen) := Lib.hid (small_max (by decide))
    have hq2 := Lib.hid (hqq.out.stays (Stays.of hb1x))
    have gbm := Lib.hid (bases_made hps'.out m nz ns br (cb + 1) z1.1 z1.2 z3.1 z3.2 (by omega) (by omega) (by omega) kk (by omega) 1 ⟨#[49, 48, 48, 50, 51]⟩ pcs gm1'.out (fun p hp => (gm2'.out p hp).2.1))
    have gpm := Lib.hid (fun plan h1 h2 => post_made hps'.out m nz ns br (cb + 1) z1.1 z1.2 z3.1 z3.2 (by omega) (by omega) (by omega) kk (by omega) 1 ⟨#[49, 48, 48, 50, 51]⟩ pcs gm1'.out (fun p hp => (gm2'.out p hp).2.1) glr.out (fun l hl => by have := (gl1'.out l hl).1; omega) (plan := plan) h1 h2)
    have gad := Lib.hid (fun plan h1 h2 => adds_piece hps'.out m nz ns br (cb + 1) z1.1 z1.2 z3.1 z3.2 (by omega) (by omega) (by omega) kk (by omega) ⟨#[49, 48, 48, 50, 51]⟩ (mailing_parts gm1'.out).1 pcs (fun p hp => ⟨(gm2'.out p hp).1, (gm2'.out p hp).2.1, (gm2'.out p hp).2.2.1⟩) (ls := lvs) (fun l hl => (gl1'.out l hl).1) (plan := plan) h1 h2)
    have grm := Lib.hid (right_made hps'.out m nz ns br (cb + 1) z1.1 z1.2 z3.1 z3.2 (by omega) (by omega) (by omega) (by omega))
    have gfm := Lib.hid (fits_made hps'.out m nz ns br (cb + 1) z1.1 z1.2 z3.1 z3.2 (by omega) (by omega) (by omega) (by omega) glr.out (fun l hl => by have := (gl1'.out l hl).1; omega))
    have glb := Lib.hid (fun (l : Level) (hl : l ∈ lvs) => show l.labels.length ≤ 1000000000 by have := (gl1'.out l hl).2.1; omega)
    go_wp2_with fail
    refine (levels_any _ _ _ _ _ pcs lvs.length ql _ hH.out.2.2.2.2 gm3 gl2 (by omega) hq2.out hqs'.out).mono ?_
    rintro e w5 ⟨pv5, rfl, hP5, hb5⟩
    have hlp5 := Lib.hid (planOf_len pcs.length lvs.length ql)
    have hpb5 := Lib.hid (plan_bd (k := pcs.length) (l := ql) gl2)
    generalize planOf pcs.length lvs.length ql = plan at *
    have hP := Lib.hid (OwnInts.ints hP5).plain
    obtain ⟨A5, c5, rfl, _, hc5m, _⟩ := hP.out
    rw [hlp5.out] at hP ⊢
    replace hH := Lib.hid (hH.out.stays (Stays.of hb5))
    have hb15 := hb1x.trans (hb5.mono hb1x.size)
    clear hP5 hb5 a0 a1 b0 b1 b2 b3 hAl hBl hq2 hb1x
    obtain ⟨⟨hAl, hBl, a0, a1, b0, b1, b2, b3⟩, -⟩ := hH.out
    go_wp2_with fail
    refine (bases_any _ _ _ _ _ _ _ _ pcs _ hH.out.2.1 hH.out.2.2.1 hmo'.out hH.out.2.2.2.2).mono ?_
    rw [gbm.out]
    rintro e w6 ⟨bv, rfl, hB6, hb6⟩
    have hbl6 := Lib.hid (show (pcs.map (baseOf (madeSteps ps nz kk ns) (madeRows m nz 9) ⟨#[49, 48, 48, 50, 51]⟩)).length = pcs.length from List.length_map _)
    generalize pcs.map (baseOf (madeSteps ps nz kk ns) (madeRows m nz 9) ⟨#[49, 48, 48, 50, 51]⟩) = bs at *
    have hB := Lib.hid (IsInts.of_own hB6)
    dsimp only at hB
    obtain ⟨A6, c6, rfl, _, hc6m, _⟩ := hB.out
    rw [hbl6.out] at hB ⊢
    replace hH := Lib.hid (hH.out.stays (Stays.of hb6))
    replace hP := Lib.hid (hP.out.stays (Stays.of hb6))
    have hb16 := hb15.trans (hb6.mono hb15.size)
    clear hB6 hb6 a0 a1 b0 b1 b2 b3 hAl hBl hb15
    obtain ⟨⟨hAl, hBl, a0, a1, b0, b1, b2, b3⟩, -⟩ := hH.out
    have hgp := gpm.out plan hlp5.out hpb5.out
    go_wp2_with fail
    refine (postage_any _ _ _ _ _ _ _ lvs _ _ _ pcs plan _ hH.out.2.1 hH.out.2.2.1 hH.out.2.2.2.1 glb.out hmo'.out hH.out.2.2.2.2 hP.out).mono ?_
    rw [hgp]
    rintro e w7 ⟨gv, rfl, hG7, hb7⟩
    have hgl7 := Lib.hid (show (postGo br lvs 0 bs pcs plan).length = pcs.length from (postGo_len _ _ _ _ _ _).trans hbl6.out)
    have hgad := Lib.hid (gad.out plan hlp5.out hpb5.out)
    clear hgp gpm gad
    generalize postGo br lvs 0 bs pcs plan = gs at *
    have hG := Lib.hid (IsInts.of_own hG7)
    dsimp only at hG
    obtain ⟨A7, c7, rfl, _, hc7m, _⟩ := hG.out
    rw [hgl7.out] at hG ⊢
    replace hH := Lib.hid (hH.out.stays (Stays.of hb7))
    replace hP := Lib.hid (hP.out.stays (Stays.of hb7))
    replace hB := Lib.hid (hB.out.stays (Stays.of hb7))
    have hb17 := hb16.trans (hb7.mono hb16.size)
    clear hG7 hb7 a0 a1 b0 b1 b2 b3 hAl hBl hb16
    obtain ⟨⟨hAl, hBl, a0, a1, b0, b1, b2, b3⟩, -⟩ := hH.out
    go_wp2_with fail
    refine (right_any _ _ _ _ _ hH.out.2.1 hH.out.2.2.1).mono ?_
    rw [grm.out]
    rintro e w8 ⟨rfl, hb8⟩
    replace hH := Lib.hid (hH.out.stays (Stays.of hb8))
    replace hP := Lib.hid (hP.out.stays (Stays.of hb8))
    replace hB := Lib.hid (hB.out.stays (Stays.of hb8))
    replace hG := Lib.hid (hG.out.stays (Stays.of hb8))
    have hb18 := hb17.trans (hb8.mono hb17.size)
    clear hb8 a0 a1 b0 b1 b2 b3 hAl hBl hb17
    obtain ⟨⟨hAl, hBl, a0, a1, b0, b1, b2, b3⟩, -⟩ := hH.out
    go_wp2_with fail
    refine (mailing_any _ _ _ _ pcs _ hmo'.out hH.out.2.2.2.2).mono ?_
    rw [gm1'.out]
    rintro e w9 ⟨rfl, hb9⟩
    replace hH := Lib.hid (hH.out.stays (Stays.of hb9))
    replace hP := Lib.hid (hP.out.stays (Stays.of hb9))
    replace hB := Lib.hid (hB.out.stays (Stays.of hb9))
    replace hG := Lib.hid (hG.out.stays (Stays.of hb9))
    have hb19 := hb18.trans (hb9.mono hb18.size)
    clear hb9 a0 a1 b0 b1 b2 b3 hAl hBl hb18
    obtain ⟨⟨hAl, hBl, a0, a1, b0, b1, b2, b3⟩, -⟩ := hH.out
    go_wp2_with fail
    refine (fits_tariff_any _ _ _ _ _ lvs _ hH.out.2.1 hH.out.2.2.1 hH.out.2.2.2.1 glb.out).mono ?_
    rw [gfm.out]
    rintro e wl ⟨rfl, hbl⟩
    replace hH := Lib.hid (hH.out.stays (Stays.of hbl))
    replace hP := Lib.hid (hP.out.stays (Stays.of hbl))
    replace hB := Lib.hid (hB.out.stays (Stays.of hbl))
    replace hG := Lib.hid (hG.out.stays (Stays.of hbl))
    have hb1l := hb19.trans (hbl.mono hb19.size)
    clear hbl a0 a1 b0 b1 b2 b3 hAl hBl hb19
    obtain ⟨⟨hAl, hBl, a0, a1, b0, b1, b2, b3⟩, -⟩ := hH.out
    go_wp2
    clear a0 a1 b0 b1 b2 b3 hAl hBl e1 e2 e3 e4 e5 q2 gbm grm gfm glb
    go_loopw [103] (fun iv wr => ∃ i : Nat, i ≤ pcs.length ∧ iv = .int .i64 (i : Int) ∧ Below wl.heap.size wl wr) (fun iv _ => pcs.length - (intOf iv).toNat)
    case atStart => exact ⟨0, by omega, rfl, Below.refl _ _⟩
    case round =>
      obtain ⟨i, hi, rfl, hbr⟩ := hrel
      have hHr := Lib.hid (hH.out.stays (Stays.of hbr))
      by_cases hlt : i < pcs.length
      · have hlt' : decide ((i : Int) < (pcs.length : Int)) = true := by simp; omega
        have gcs : (pcs.getD i Piece.zero).code.size ≤ maxLen := by
          refine small_max ?_
          have := (gm2'.out (pcs.getD i Piece.zero) (by rw [getD_of _ _ _ hlt]; exact List.getElem_mem hlt)).2.2.2
          omega
        obtain ⟨zn, P, C, j, g1, g2, g3, g4, g5, g6, g7, g8, g9, g10, g11⟩ := hgad.out i hlt
        have hpc := (hHr.out.2.2.2.2)
        obtain ⟨A, c, e, _, _, hA⟩ := hpc
        cases e
        obtain ⟨b4, off4, rfl, hb4, hrow4⟩ := hA (by omega)
        have hst : IsPiece wr b4 (off4 + i * 5) (pcs.getD i Piece.zero) := hrow4 i hlt
        generalize pcs.getD i Piece.zero = q at *
        obtain ⟨id, pt, cd, gr, ba⟩ := q
        obtain ⟨r0, r1, r2, r3, r4, _⟩ := hst
        simp only at r0 r1 r2 r3 r4 gcs g1 g2 g11
        obtain ⟨⟨hAl, hBl, a0, a1, b0, b1, b2, b3⟩, -⟩ := hHr.out
        have gcs' := Lib.hid gcs
        have g1' := Lib.hid g1
        have g2' := Lib.hid g2
        have g11' := Lib.hid g11
        have g3' := Lib.hid g3
        have g6' := Lib.hid g6
        have g8' := Lib.hid g8
        clear gcs g1 g2 g11 g3 g6 g8 hrow4 hA
        have hWb : Below wr.heap.size wr (wr.alloc (.cells #[.int .i64 id, .int .i64 pt, .string cd, .int .i64 gr, .bool ba] 48)) := (Below.refl _ _).alloc (Nat.le_refl _) _
        have hWk := Lib.hid (Blk.new wr 48 #[.int .i64 id, .int .i64 pt, .string cd, .int .i64 gr, .bool ba])
        go_wp2_with fail
        refine (zone_any _ _ _ _ _ _ _ (hHr.out.2.1.stays (Stays.of hWb)) (hHr.out.2.2.1.stays (Stays.of hWb)) hmo'.out gcs'.out).mono ?_
        rw [g1'.out]
        rintro e w10 ⟨rfl, hb10⟩
        replace hWk := Lib.hid (hWk.out.below hb10 hWk.out.lt)
        have hb10r : Below wr.heap.size wr w10 := hWb.trans (hb10.mono hWb.size)
        have hH10 := Lib.hid (hHr.out.stays (Stays.of hb10r))
        clear hb10 hWb a0 a1 b0 b1 b2 b3 hAl hBl r0 r1 r2 r3 r4
        obtain ⟨⟨hAl, hBl, a0, a1, b0, b1, b2, b3⟩, -⟩ := hH10.out
        have k2 := hWk.out.cell 2
        have k3 := hWk.out.cell 3
        have k4 := hWk.out.cell 4
        have kl := hWk.out.lt
        simp only [List.getElem?_toArray, List.getElem?_cons_succ, List.getElem?_cons_zero] at k2 k3 k4
        go_wp2_with fail
        refine (price_any _ _ _ _ _ _ _ _ hH10.out.2.1 hH10.out.2.2.1).mono ?_
        rw [g2'.out]
        rintro e w11 ⟨rfl, hb11⟩
        replace hWk := Lib.hid (hWk.out.below hb11 hWk.out.lt)
        have hb11r : Below wl.heap.size wl w11 := hbr.trans ((hb10r.trans (hb11.mono hb10r.size)).mono hbr.size)
        have hH11 := Lib.hid (hH.out.stays (Stays.of hb11r))
        clear hb11 a0 a1 b0 b1 b2 b3 hAl hBl k2 k3 k4 kl hH10 hHr hb10r
        obtain ⟨⟨hAl, hBl, a0, a1, b0, b1, b2, b3⟩, hRr, -, hLr, -⟩ := hH11.out
        have k4 := hWk.out.cell 4
        simp only [List.getElem?_toArray, List.getElem?_cons_succ, List.getElem?_cons_zero] at k4
        -- the plan, the bases, the postage at i
        obtain ⟨Ax, cx, ex, -, -, hAx⟩ := hP.out.stays (Stays.of hb11r)
        injection ex with ex1 ex2 ex3
        subst ex1 ex3
        clear ex2
        obtain ⟨bp, op, rfl, hbp, hrp⟩ := hAx (by rw [hlp5.out]; omega)
        have p0 : w11.cell? ⟨bp, op + i, none⟩ = some (.int .i64 (plan.getD i 0)) := hrp i (by rw [hlp5.out]; exact hlt)
        rw [g6'.out] at p0
        obtain ⟨Ay, cy, ey, -, -, hAy⟩ := hB.out.stays (Stays.of hb11r)
        injection ey with ey1 ey2 ey3
        subst ey1 ey3
        clear ey2
        obtain ⟨bb, ob, rfl, hbb, hrb⟩ := hAy (by rw [hbl6.out]; omega)
        have p1 : w11.cell? ⟨bb, ob + i, none⟩ = some (.int .i64 (bs.getD i 0)) := hrb i (by rw [hbl6.out]; exact hlt)
        rw [g3'.out] at p1
        obtain ⟨Az, cz, ez, -, -, hAz⟩ := hG.out.stays (Stays.of hb11r)
        injection ez with ez1 ez2 ez3
        subst ez1 ez3
        clear ez2
        obtain ⟨bg, og, rfl, hbg, hrg⟩ := hAz (by rw [hgl7.out]; omega)
        have p2 : w11.cell? ⟨bg, og + i, none⟩ = some (.int .i64 (gs.getD i 0)) := hrg i (by rw [hgl7.out]; exact hlt)
        rw [g11'.out] at p2
        obtain ⟨Al3, cl3, el, -, -, hAl3⟩ := hLr
        cases el
        obtain ⟨bv, ov, rfl, hbv, hrv⟩ := hAl3 (by omega)
        have hlv : IsLevel w11 bv (ov + j * 5) (lvs.getD j Level.zero) := hrv j g7
        obtain ⟨-, -, -, -, p3, -⟩ := hlv
        rw [g8'.out] at p3
        obtain ⟨Ar, cr, er, -, -, hAr⟩ := hRr
        cases er
        obtain ⟨b1r, o1r, rfl, hb1r, hrr⟩ := hAr (by rw [madeRates_len]; omega)
        have hrt : IsRate w11 b1r (o1r + kk * 3) ((madeRates ps nz ns br (cb + 1)).getD kk Rate.zero) := hrr kk (by rw [madeRates_len]; omega)
        rw [getD_of _ _ _ (by rw [madeRates_len]; omega)] at hrt
        simp only [madeRates, List.getElem_map, List.getElem_range] at hrt
        obtain ⟨-, -, p4, -, -⟩ := hrt
        have hkl : kk < (madeRates ps nz ns br (cb + 1)).length := by rw [madeRates_len]; omega
        have hkw : IntKind.u8.wrap ((kk : Int) + 1 - 1) = (kk : Int) := by rw [IntKind.wrap_u8]; omega
        have hkz : decide ((kk : Int) < ((madeRates ps nz ns br (cb + 1)).length : Int)) = true := by simp; omega
        clear hrp hrb hrg hrv hrr hAx hAy hAz hAl3 hAr
        have hfin : Below wl.heap.size wl w11 := hb11r
        cases ba
        · simp only [Bool.false_eq_true, if_false] at p2
          have hneg : decide (P - C < 0) = false := decide_eq_false (by omega)
          go_wp2
          go_roundw
          case rel => exact ⟨i + 1, by omega, by go_num, hfin⟩
          case measure => simp [intOf]; omega
        · simp only [if_true] at p2
          rw [show P - (br : Int) - C = P - C - br from by omega] at p2
          have hneg : decide (P - C - (br : Int) < 0) = false := decide_eq_false (by omega)
          go_wp2
          go_roundw
          case rel => exact ⟨i + 1, by omega, by go_num, hfin⟩
          case measure => simp [intOf]; omega
      · have hlt' : decide ((i : Int) < (pcs.length : Int)) = false := by simp; omega
        go_wp2
        go_ret
        exact ⟨rfl, hb1.trans ((hb1l.trans (hbr.mono hb1l.size)).mono hb1.size)⟩
end Go.Proofs.Ythbnbfeolfkkaaa
