/- The walk of TariffWrong, its first part. -/
import Derived.Test.YthbnbfeolfkkaaaL3
import Derived.Test.YthbnbfeolfkkaaaL22
import Derived.Test.YthbnbfeolfkkaaaRegN
import Derived.Test.YthbnbfeolfkkaaaMadeW2
import Derived.Laws.AppendOwnNone
import Derived.Deep.DeepCutAuto
import Derived.Deep.CutBlock
import Derived.Deep.OwnRows
import Derived.Deep.RegionHeld3
namespace Go.Proofs.Ythbnbfeolfkkaaa
open Go.RowKit Go.Maps
attribute [local go_sem ↓] Go.wp_at_zero Go.wp_at_succ
attribute [local go_sem] World.cell?_alloc_lt World.frozen?_alloc_past

theorem u16_info : (Try.prog.info? 72).map (fun i => (i.zero, i.size, i.bytes)) = some (some (.int .u16 0), 1, 2) := by kernel_rfl
/-- a row of the call's own of small integers -/
theorem isKs_own {k : IntKind} {E : TypeId} {B : Nat} {w : World} {v : Value} {xs : List Int} (h : w.ownsRow B E 1 v xs.length (xs.map (Value.int k))) : IsKs k w v xs := by
  have hh := h
  obtain ⟨hl, ⟨rfl, h0⟩ | ⟨g, cap, cur, rfl, hb, hg, hnc, hcm, hcs, htk⟩⟩ := h
  · exact ⟨none, 0, by rw [h0], by omega, Nat.zero_le _, fun h => absurd h (by omega)⟩
  · refine ⟨_, _, rfl, hnc, hcm, fun _ => ⟨g, 0, rfl, (Array.getElem?_eq_some_iff.1 hg).1, fun i hi => ?_⟩⟩
    show w.cell? ⟨g, 0 + i, none⟩ = some (.int k (xs.getD i 0))
    rw [Nat.zero_add, hh.cellAt i (by omega), List.getElem?_map, List.getD_eq_getElem?_getD, List.getElem?_eq_getElem hi]
    rfl
theorem wrong_meet {w w2 w4 : World} {rs : List Rate} {zs : List Zone} {pcs : List Piece} {rv zv qv : Value} {B : Nat} (b12 : Below w.heap.size w w2) (hR : IsRates w2 rv rs) (hZ : IsZones w2 zv zs) (hM : OwnPieces B w4 qv pcs) (h24 : Below w2.heap.size w2 w4) (hF : Hid (WrongFacts rs zs pcs)) :
    ∃ rs zs pcs rv' zv' qv' vA vB B, Value.pointer (some ⟨w4.heap.size, 0, none⟩) = .pointer (some ⟨vA, 0, none⟩) ∧ Value.pointer (some ⟨w4.heap.size + 1, 0, none⟩) = .pointer (some ⟨vB, 0, none⟩) ∧ Hid (WrongFacts rs zs pcs) ∧ Below w.heap.size w ((w4.alloc (.cells #[rv, zv] 25)).alloc (.cells #[.int .u8 1, .int .u8 1, .string ⟨#[49, 48, 48, 50, 51]⟩, qv] 36)) ∧ Blk ((w4.alloc (.cells #[rv, zv] 25)).alloc (.cells #[.int .u8 1, .int .u8 1, .string ⟨#[49, 48, 48, 50, 51]⟩, qv] 36)) vA 25 #[rv', zv'] ∧ Blk ((w4.alloc (.cells #[rv, zv] 25)).alloc (.cells #[.int .u8 1, .int .u8 1, .string ⟨#[49, 48, 48, 50, 51]⟩, qv] 36)) vB 36 #[.int .u8 1, .int .u8 1, .string ⟨#[49, 48, 48, 50, 51]⟩, qv'] ∧
      IsRates ((w4.alloc (.cells #[rv, zv] 25)).alloc (.cells #[.int .u8 1, .int .u8 1, .string ⟨#[49, 48, 48, 50, 51]⟩, qv] 36)) rv' rs ∧ IsZones ((w4.alloc (.cells #[rv, zv] 25)).alloc (.cells #[.int .u8 1, .int .u8 1, .string ⟨#[49, 48, 48, 50, 51]⟩, qv] 36)) zv' zs ∧ OwnPieces B ((w4.alloc (.cells #[rv, zv] 25)).alloc (.cells #[.int .u8 1, .int .u8 1, .string ⟨#[49, 48, 48, 50, 51]⟩, qv] 36)) qv' pcs := by
  have hX : Below w4.heap.size w4 ((w4.alloc (.cells #[rv, zv] 25)).alloc (.cells #[.int .u8 1, .int .u8 1, .string ⟨#[49, 48, 48, 50, 51]⟩, qv] 36)) := ((Below.refl _ _).alloc (Nat.le_refl _) _).alloc (by simp) _
  have h2X := h24.trans (hX.mono h24.size)
  exact ⟨rs, zs, pcs, rv, zv, qv, _, _, B, rfl, rfl, hF, b12.trans (h2X.mono b12.size), (Blk.new _ _ _).alloc _, Blk.new_at _ _ _ _ (by simp), hR.stays (Stays.of h2X), hZ.stays (Stays.of h2X), hM.keep pieceIn_inner (Keeps.of_below hX _)⟩
theorem add_plainW (g o j : Nat) : (⟨g, o, none⟩ : Addr).add j = ⟨g, o + j, none⟩ := by unfold Addr.add; split <;> simp_all
theorem row_cell {w : World} {B : Nat} {E : TypeId} {k g n cap : Nat} {xs : List Value} (h : w.ownsRow B E k (.slice (some ⟨g, 0, none⟩) n cap) n xs) (i : Nat) (hi : i < xs.length) : w.cell? ⟨g, i, none⟩ = xs[i]? := h.cellAt i (by rw [← h.1]; exact hi)
theorem grown_row {w w' : World} {row : Option Nat} {B : Nat} {E : TypeId} {k : Nat} {v : Value} {n : Nat} {xs : List Value} (hgr : w.grownBy w' row) (h : w.ownsRow B E k v n xs) (hne : ∀ g, v.ownBlock = some g → some g ≠ row) : w'.ownsRow B E k v n xs := ownsRow_keepAt h fun g e _ hl => hgr.block g hl (hne g e)
theorem isKs_append7 {w : World} {B : Nat} {v : Value} {l : List Int} (h : w.ownsRow B 72 1 v (1 + l.length) ([.int .u16 7] ++ l.map (Value.int .u16))) : IsKs .u16 w v (7 :: l) := isKs_own (xs := 7 :: l) (by rw [List.length_cons, Nat.add_comm]; exact h)
/-- what TariffWrong holds before its scheme -/
structure WC (wc : World) (vA vB : Nat) (rv zv qv : Value) (rs : List Rate) (zs : List Zone) (pcs : List Piece) (B : Nat) : Prop where
  kA : Blk wc vA 25 #[rv, zv]
  kB : Blk wc vB 36 #[.int .u8 1, .int .u8 1, .string ⟨#[49, 48, 48, 50, 51]⟩, qv]
  hR : IsRates wc rv rs
  hZ : IsZones wc zv zs
  hM : OwnPieces B wc qv pcs
/-- the scheme of one level and the plan, in the two blocks behind -/
def WS (wc : World) (lp : Nat) (c : Int) (w : World) : Prop :=
  Below wc.heap.size wc w ∧ Blk w wc.heap.size 54 #[.string ⟨#[97, 108, 108]⟩, .int .i64 0, .slice none 0 0, .int .i64 0, .int .i64 c] ∧ Blk w (wc.heap.size + 1) 3 (madeCells #[.int .i64 0] lp)
section
variable {wc w w' : World} {lp : Nat} {c : Int} {vA vB B : Nat} {rv zv qv : Value} {rs : List Rate} {zs : List Zone} {pcs : List Piece}
theorem WS.start (wc : World) (lp : Nat) (c : Int) : WS wc lp c ((wc.alloc (.cells #[.string ⟨#[97, 108, 108]⟩, .int .i64 0, .slice none 0 0, .int .i64 0, .int .i64 c] 54)).alloc (.cells (madeCells #[.int .i64 0] lp) 3)) :=
  ⟨((Below.refl _ _).alloc (Nat.le_refl _) _).alloc (by simp) _, (Blk.new _ _ _).alloc _, Blk.new_at _ _ _ _ (by simp)⟩
theorem WS.size (h : WS wc lp c w) : wc.heap.size + 1 < w.heap.size := h.2.2.lt
theorem WS.step {X : Nat} (h : WS wc lp c w) (hb : Below X w w') (hX : wc.heap.size + 1 < X) : WS wc lp c w' := ⟨h.1.trans (hb.mono (by omega)), h.2.1.below hb (by omega), h.2.2.below hb hX⟩
theorem WS.call (h : WS wc lp c w) (hb : Below w.heap.size w w') : WS wc lp c w' := h.step hb h.size
theorem WS.store (h : WS wc lp c w) (c' : Int) : WS wc lp c' (w.setCell ⟨wc.heap.size, 4, none⟩ (.int .i64 c')) := ⟨h.1.setCell (Nat.le_refl _) _, h.2.1.set_ 4 _, h.2.2.far (by simp) _⟩
theorem WS.has (h : WS wc lp c w) (hC : WC wc vA vB rv zv qv rs zs pcs B) : vA < w.heap.size ∧ vB < w.heap.size ∧ w.cell? ⟨vA, 0, none⟩ = some rv ∧ w.cell? ⟨vA, 1, none⟩ = some zv ∧ w.cell? ⟨vB, 0, none⟩ = some (.int .u8 1) ∧ w.cell? ⟨vB, 1, none⟩ = some (.int .u8 1) ∧ w.cell? ⟨vB, 2, none⟩ = some (.string ⟨#[49, 48, 48, 50, 51]⟩) ∧ w.cell? ⟨vB, 3, none⟩ = some qv ∧ w.cell? ⟨wc.heap.size, 4, none⟩ = some (.int .i64 c) ∧ w.frozen? ⟨wc.heap.size, 4, none⟩ = false ∧ wc.heap.size + 1 < w.heap.size := by
  have kA := hC.kA.below h.1 hC.kA.lt
  have kB := hC.kB.below h.1 hC.kB.lt
  exact ⟨kA.lt, kB.lt, kA.cell 0, kA.cell 1, kB.cell 0, kB.cell 1, kB.cell 2, kB.cell 3, h.2.1.cell 4, h.2.1.frozen 4, h.size⟩
theorem WS.rates (h : WS wc lp c w) (hC : WC wc vA vB rv zv qv rs zs pcs B) : IsRates w rv rs := hC.hR.stays (Stays.of h.1)
theorem WS.zones (h : WS wc lp c w) (hC : WC wc vA vB rv zv qv rs zs pcs B) : IsZones w zv zs := hC.hZ.stays (Stays.of h.1)
theorem WS.own (h : WS wc lp c w) (hC : WC wc vA vB rv zv qv rs zs pcs B) : OwnPieces B w qv pcs := hC.hM.keep pieceIn_inner (Keeps.of_below h.1 _)
theorem WS.pieces (h : WS wc lp c w) (hC : WC wc vA vB rv zv qv rs zs pcs B) : IsPieces w qv pcs := OwnPieces.pieces (h.own hC)
theorem WS.levels (h : WS wc lp c w) : IsLevels w (.slice (some ⟨wc.heap.size, 0, none⟩) 1 1) [LD c] := by
  refine ⟨_, _, rfl, Nat.le_refl _, small_max (by omega), fun _ => ⟨_, 0, rfl, h.2.1.lt, fun i hi => ?_⟩⟩
  have hi0 : i = 0 := by simp at hi; omega
  subst hi0
  show IsLevel w wc.heap.size (0 + 0 * 5) (LD c)
  exact ⟨h.2.1.cell 0, h.2.1.cell 1, ⟨_, h.2.1.cell 2, ⟨none, 0, rfl, Nat.le_refl _, Nat.zero_le _, fun h => absurd h (by simp [LD])⟩⟩, h.2.1.cell 3, h.2.1.cell 4, small_max (by show (3 : Nat) ≤ 1000000; omega)⟩
theorem plan_off {w : World} {g k lp n : Nat} (hk : Blk w g 3 (madeCells #[.int .i64 0] lp)) (hn : k + n = lp) (hlp : lp ≤ 100000) : IsInts w (.slice (some ⟨g, k, none⟩) n n) (List.replicate n 0) := by
  refine ⟨some ⟨g, k, none⟩, n, by simp, by simp, small_max (by omega), fun _ => ⟨g, k, rfl, hk.lt, fun i hi => ?_⟩⟩
  have hi' : i < n := by simpa using hi
  show w.cell? ⟨g, k + i, none⟩ = some (.int .i64 ((List.replicate n 0).getD i 0))
  rw [hk.cell, ← Array.getElem?_toList, toList_madeCells_one, List.getElem?_replicate, if_pos (by omega)]
  simp [List.getD_eq_getElem?_getD, hi']
theorem WS.plan (h : WS wc lp c w) (hlp : lp ≤ 100000) : IsInts w (.slice (some ⟨wc.heap.size + 1, 0, none⟩) lp lp) (List.replicate lp 0) := plan_off h.2.2 (by omega) hlp
end
theorem cop_of {w5 w6 : World} {rv zv : Value} {rps : List (Rate × Value)} {zs : List Zone} {M : Nat} (hOR : OwnRates w5.heap.size w6 rv rps) (hH : HeadOwn JR rateIn w5.heap.size M w6 rv rps) (hZ : OwnZones M w6 zv zs) (h1 : w5.heap.size ≤ M) (h2 : M ≤ w6.heap.size) (hb : Below w5.heap.size w5 w6) :
    Cop w5 (w6.alloc (.cells #[rv, zv] 25)) w6.heap.size M rv zv rps zs ∧ HeadOwn JR rateIn w5.heap.size M (w6.alloc (.cells #[rv, zv] 25)) rv rps := by
  have hX : Below w6.heap.size w6 (w6.alloc (.cells #[rv, zv] 25)) := (Below.refl _ _).alloc (Nat.le_refl _) _
  have hH' := hH.keep rateIn_inner JR_inner (Keeps.of_below hX _)
  refine ⟨⟨hb.trans (hX.mono hb.size), Blk.new _ _ _, h1, h2, ⟨(hOR.keep rateIn_inner (Keeps.of_below hX _)).1, fun g e => hH.own_lt e, hH'.all rateIn_inner JR.in_⟩, ?_⟩, hH'⟩
  exact (OwnQ.of_own zoneIn_inner hZ (Nat.le_refl _)).keep zoneIn_inner (Keeps.of_below hX _) fun _ _ h => h
theorem isInts5 (W : World) : IsIntsP (fun b => b = W.heap.size) (W.alloc (.cells #[.int .i64 1, .int .i64 2, .int .i64 3, .int .i64 4, .int .i64 5] 3)) (.slice (some ⟨W.heap.size, 0, none⟩) 5 5) [1, 2, 3, 4, 5] := by
  have hk := Blk.new W 3 #[.int .i64 1, .int .i64 2, .int .i64 3, .int .i64 4, .int .i64 5]
  refine ⟨_, _, rfl, by simp, small_max (by omega), fun _ => ⟨W.heap.size, 0, rfl, hk.lt, rfl, fun i hi => ?_⟩⟩
  show (W.alloc _).cell? ⟨W.heap.size, 0 + i, none⟩ = some (.int .i64 (([1, 2, 3, 4, 5] : List Int).getD i 0))
  rw [hk.cell]
  have hi' : i < 5 := by simpa using hi
  match i, hi' with
  | 0, _ => rfl
  | 1, _ => rfl
  | 2, _ => rfl
  | 3, _ => rfl
  | 4, _ => rfl
/-- the tariff with a defect, at a later time -/
structure BU (w : World) (vb : Nat) (ru zu : Value) (rs : List Rate) (zs : List Zone) : Prop where
  blk : Blk w vb 25 #[ru, zu]
  r : IsRates w ru rs
  z : IsZones w zu zs
theorem BU.call {w w' : World} {vb : Nat} {ru zu : Value} {rs : List Rate} {zs : List Zone} (h : BU w vb ru zu rs zs) (hb : Below w.heap.size w w') : BU w' vb ru zu rs zs := ⟨h.blk.below hb h.blk.lt, h.r.stays (Stays.of hb), h.z.stays (Stays.of hb)⟩
theorem BU.has {w : World} {vb : Nat} {ru zu : Value} {rs : List Rate} {zs : List Zone} (h : BU w vb ru zu rs zs) : vb < w.heap.size ∧ w.cell? ⟨vb, 0, none⟩ = some ru ∧ w.cell? ⟨vb, 1, none⟩ = some zu := ⟨h.blk.lt, h.blk.cell 0, h.blk.cell 1⟩
/-- the mailing with a defect -/
structure BW (w : World) (vw : Nat) (cls country : Int) (o : ByteArray) (pv : Value) (ps : List Piece) : Prop where
  blk : Blk w vw 36 #[.int .u8 cls, .int .u8 country, .string o, pv]
  p : IsPieces w pv ps
theorem BW.call {w w' : World} {vw : Nat} {cls country : Int} {o : ByteArray} {pv : Value} {ps : List Piece} (h : BW w vw cls country o pv ps) (hb : Below w.heap.size w w') : BW w' vw cls country o pv ps := ⟨h.blk.below hb h.blk.lt, h.p.stays (Stays.of hb)⟩
theorem BW.has {w : World} {vw : Nat} {cls country : Int} {o : ByteArray} {pv : Value} {ps : List Piece} (h : BW w vw cls country o pv ps) : vw < w.heap.size ∧ w.cell? ⟨vw, 0, none⟩ = some (.int .u8 cls) ∧ w.cell? ⟨vw, 1, none⟩ = some (.int .u8 country) ∧ w.cell? ⟨vw, 2, none⟩ = some (.string o) ∧ w.cell? ⟨vw, 3, none⟩ = some pv := ⟨h.blk.lt, h.blk.cell 0, h.blk.cell 1, h.blk.cell 2, h.blk.cell 3⟩
theorem copM_of {w13 w14 : World} {qv : Value} {pcs : List Piece} {cls country : Int} {o : ByteArray} (hQ : OwnPieces w13.heap.size w14 qv pcs) (hb : Below w13.heap.size w13 w14) (hl : pcs.length ≤ 2000) (ho : o.size ≤ maxLen) :
    CopM w13 (w14.alloc (.cells #[.int .u8 cls, .int .u8 country, .string o, qv] 36)) w14.heap.size cls country o qv pcs := by
  have hX : Below w14.heap.size w14 (w14.alloc (.cells #[.int .u8 cls, .int .u8 country, .string o, qv] 36)) := (Below.refl _ _).alloc (Nat.le_refl _) _
  exact ⟨hb.trans (hX.mono hb.size), Blk.new _ _ _, hb.size, hl, ho, (OwnQ.of_own pieceIn_inner hQ (Nat.le_refl _)).keep pieceIn_inner (Keeps.of_below hX _) fun _ _ h => h⟩
theorem post_no {rs : List Rate} {zs : List Zone} {ls : List Level} (h : fits rs zs ls = false) (m : Mailing) (plan : List Int) : postRes rs zs ls m plan = ([], 2) := by unfold postRes; rw [if_pos (.inl h)]
theorem isInts_zero (w : World) (A : Option Addr) : IsInts w (.slice A 0 0) [] := ⟨A, 0, rfl, Nat.le_refl _, Nat.zero_le _, fun h => absurd h (by simp)⟩
theorem ints_none {w w' : World} {v : Value} (h : w'.ownsRow w.heap.size 3 1 v ([] : List Int).length (([] : List Int).map (Value.int .i64))) : ∃ A c, v = .slice A 0 c ∧ c ≤ maxLen := by
  rcases h.2 with ⟨e, _⟩ | ⟨g, cap, cur, e, _, _, _, hm, _⟩
  · exact ⟨_, _, e, Nat.zero_le _⟩
  · exact ⟨_, _, e, hm⟩
set_option maxRecDepth 100000 in
set_option maxHeartbeats 16000000 in
theorem wrong_any (n : Nat) (ps l : List Int) (pv lv : Value) (dd : Int) (w : World) (hn : n < 4294967296) (hp : IsKs .u8 w pv ps) (hps : ∀ x ∈ ps, 0 ≤ x ∧ x ≤ 255) (hl : IsKs .u16 w lv l) (hls : ∀ x ∈ l, 0 ≤ x ∧ x ≤ 65535) (hlb : (1 + l.length) * 2 ≤ 140737488355328) (hl0 : ∀ n c, lv = .slice none n c → c = 0) (hd0 : 0 ≤ dd) (hd1 : dd ≤ 255) :
    Calls Try.prog 8 #[.int .u32 (n : Int), pv, .int .u8 dd, lv] w fun e w' => e = .returned (.bool true) ∧ Below w.heap.size w w' := by
  have hpp := Lib.hid hp
  have hll := Lib.hid hl
  have hps' := Lib.hid hps
  have hls' := Lib.hid hls
  obtain ⟨Ap, cp, rfl, _, hpm, hAp⟩ := hp
  obtain ⟨Al, cl, rfl, _, hlm, hAl⟩ := hl
  clear hAp hAl hps hls
  obtain ⟨i0, hi0, hz0, hz1, hz2⟩ := info_parts u16_info
  go_enter Try.func8, Try.ntmps8
  go_wp2_with fail
  refine (awake_any _).mono ?_
  rintro e w1 ⟨rfl, hb1⟩
  go_upto_region 3 with fail
  go_cut [9, 10] (fun s9 s10 wx => ∃ rs zs pcs rv zv qv vA vB B, s9 = .pointer (some ⟨vA, 0, none⟩) ∧ s10 = .pointer (some ⟨vB, 0, none⟩) ∧ Hid (WrongFacts rs zs pcs) ∧ Below w.heap.size w wx ∧ Blk wx vA 25 #[rv, zv] ∧ Blk wx vB 36 #[.int .u8 1, .int .u8 1, .string ⟨#[49, 48, 48, 50, 51]⟩, qv] ∧ IsRates wx rv rs ∧ IsZones wx zv zs ∧ OwnPieces B wx qv pcs)
  case first =>
    --<Z>
    as_aux_lemma =>
    go_wp2_with fail
    refine (made_own n _ _ _ _ ps _ _ hn (hpp.out.stays (Stays.of hb1)) hps'.out rfl rfl rfl rfl).mono ?_
    rintro e w2 ⟨rv, zv, rfl, hR2, hZ2, hb2⟩
    have b12 : Below w.heap.size w w2 := hb1.trans (hb2.mono hb1.size)
    have hl2 := Lib.hid (hll.out.stays (Stays.of (b12.alloc b12.size (.cells #[.int .u16 7] 72))))
    have own0 : Hid ((w2.alloc (.cells #[.int .u16 7] 72)).ownsRow w2.heap.size 72 1 (.slice (some ⟨w2.heap.size, 0, none⟩) 1 1) 1 [.int .u16 7]) := Lib.hid ⟨by simp, .inr ⟨w2.heap.size, 1, #[.int .u16 7], rfl, Nat.le_refl _, heap_alloc_new _ _, Nat.le_refl _, small_max (by omega), by simp, by simp⟩⟩
    have sd1 : 1 + l.length ≤ maxLen := by unfold maxLen; omega
    have hsz2 : w2.heap.size ≤ (w2.alloc (.cells #[.int .u16 7] 72)).heap.size := by simp
    have z1 : 1 ≤ 1 + n / 16 % 4 % 3 ∧ 1 + n / 16 % 4 % 3 ≤ 3 := by omega
    have z2 : 1 ≤ n % 4 % 3 + 1 ∧ n % 4 % 3 + 1 ≤ 3 := by omega
    have z3 : 1 ≤ n / 4 % 4 % 3 + 1 ∧ n / 4 % 4 % 3 + 1 ≤ 3 := by omega
    have z4 : n / 64 % 32 ≤ 31 := by omega
    have hF := Lib.hid (wrongFacts (l := l) hps'.out hls'.out (n / 2048) _ _ _ _ z1.1 z1.2 z3.1 z3.2 z2.1 z2.2 z4)
    generalize madeRates ps (1 + n / 16 % 4 % 3) (n / 4 % 4 % 3 + 1) (↑(n / 64 % 32)) (n % 4 % 3 + 1) = rs at *
    generalize madeRows (n / 2048) (1 + n / 16 % 4 % 3) 9 = zs at *
    clear z1 z2 z3 z4
    have hR2h := Lib.hid hR2.plain
    have hZ2h := Lib.hid (OwnZones.zones hZ2)
    obtain ⟨A1, c1, rfl, -, -, -⟩ := hR2
    obtain ⟨A2, c2, rfl⟩ := hZ2.form_
    clear hZ2
    generalize hlr : rs.length = lr at *
    generalize hlz : zs.length = lz at *
    have hlr' := Lib.hid hlr
    have hlz' := Lib.hid hlz
    clear hlr hlz
    cases Al with
    | none =>
      obtain rfl : cl = 0 := hl0 _ _ rfl
      have hl00 : l = [] := by
        obtain ⟨A', c', e, _, _, hA⟩ := hll.out
        rcases Nat.eq_zero_or_pos l.length with h | h
        · exact List.eq_nil_of_length_eq_zero h
        · obtain ⟨b, off, e2, _⟩ := hA h
          injection e with e1
          rw [e2] at e1
          cases e1
      subst hl00
      go_wp2_with (at_builtin; refine wpList_append_own_none rfl _ _ 30 rfl w2.heap.size 72 i0 1 Try.underlying30 hi0 (.slice (some ⟨w2.heap.size, 0, none⟩) 1 1) 1 [.int .u16 7] rfl own0.out rfl ?_)
      have hk7 := Lib.hid (isKs_own (xs := [7]) own0.out)
      clear own0 hl2 hll hl0 hlb sd1 hsz2 hlm
      go_wp2_with fail
      refine (mail_any 0 _ [7] _ (by omega) (by omega) hk7.out (by simp)).mono ?_
      rintro e w3 ⟨qv, rfl, hM3, hb3⟩
      change OwnPieces _ w3 qv (mailPieces 0 (List.take 2000 [7])) at hM3
      generalize mailPieces 0 (List.take 2000 [7]) = pcs at hM3 hF
      have hM' := Lib.hid hM3
      obtain ⟨A3, c3, rfl⟩ := hM3.form_
      have h24 : Below w2.heap.size w2 w3 := ((Below.refl _ _).alloc (Nat.le_refl _) _).trans (hb3.mono (by simp))
      clear hM3 hk7
      go_wp2_with fail
      go_meet
      exact wrong_meet b12 hR2h.out hZ2h.out hM'.out h24 hF
    | some ad =>
      have hN : Hid (∀ j u, (l.map (Value.int .u16))[j]? = some u → (w2.alloc (.cells #[.int .u16 7] 72)).cell? (ad.add j) = some u) := Lib.hid fun j u hu => by
        obtain ⟨A', c', e, _, _, hA⟩ := hl2.out
        have hj : j < l.length := by simpa using (List.getElem?_eq_some_iff.1 hu).1
        obtain ⟨b, off, e2, hb, hr⟩ := hA (by omega)
        injection e with e1
        rw [e2] at e1
        injection e1 with e3
        subst e3
        have h9 : (w2.alloc (.cells #[.int .u16 7] 72)).cell? ⟨b, off + j, none⟩ = some (.int .u16 (l.getD j 0)) := hr j hj
        rw [add_plainW, h9, ← hu, List.getElem?_map, List.getD_eq_getElem?_getD, List.getElem?_eq_getElem hj]
        rfl
      have hO : Hid (∀ u ∈ l.map (Value.int .u16), u.oneCell' = true) := Lib.hid fun u hu => by
        obtain ⟨x, _, rfl⟩ := List.mem_map.1 hu
        rfl
      have hFl : Hid ((l.map (Value.int .u16)).length = l.length * 1) := Lib.hid (by simp)
      go_wp2_with (at_builtin; refine wpList_append_own_at _ rfl _ _ 30 rfl w2.heap.size 72 i0 (.int .u16 0) 1 2 Try.underlying30 hi0 hz0 hz1 hz2 rfl (by decide) (.slice (some ⟨w2.heap.size, 0, none⟩) 1 1) 1 [.int .u16 7] rfl own0.out ad l.length cl (l.map (Value.int .u16)) rfl hFl.out hN.out hO.out sd1 hlb hsz2 ?_; intro v' w3 hown1 hgr1 hnil1 hat1)
      have hk7 : Hid (IsKs .u16 w3 v' (7 :: l)) := Lib.hid (isKs_append7 hown1)
      have hgr1' := Lib.hid hgr1
      have hat1' := Lib.hid hat1
      obtain ⟨A7, c7, rfl, -, -, -⟩ := hk7.out
      clear own0 hl2 hll hl0 hlb sd1 hsz2 hlm hown1 hgr1 hat1 hnil1 hN hO hFl
      go_wp2_with fail
      refine (mail_any 0 _ (7 :: l) _ (by omega) (by omega) hk7.out (by simpa using hls'.out)).mono ?_
      rintro e w4 ⟨qv, rfl, hM3, hb3⟩
      change OwnPieces _ w4 qv (mailPieces 0 ((7 :: l).take 2000)) at hM3
      generalize mailPieces 0 ((7 :: l).take 2000) = pcs at hM3 hF
      have hM' := Lib.hid hM3
      obtain ⟨A3, c3, rfl⟩ := hM3.form_
      have h24 : Below w2.heap.size w2 w4 := (((Below.refl _ _).alloc (Nat.le_refl _) _).grown hgr1'.out (by simp) (fun h e => by simp [Value.ownBlock] at e; omega)).trans (hb3.mono (by have := hgr1'.out.size; simp at this; omega))
      clear hM3 hk7 hgr1' hat1'
      go_wp2_with fail
      go_meet
      exact wrong_meet b12 hR2h.out hZ2h.out hM'.out h24 hF
    --</Z>
  case rest =>
    obtain ⟨rs, zs, pcs, rv, zv, qv, vA, vB, B, rfl, rfl, hF, b0, kA, kB, hR, hZ, hM⟩ := hcut
    rename World => w0
    clear hl0 hll hlm hlb hpp hpm hps' hls' hi0 hz0 hz1 hz2 hb1 hn
    have hlr : Hid (1 ≤ rs.length ∧ rs.length ≤ 3) := Lib.hid hF.out.rl
    have hlz : Hid (1 ≤ zs.length ∧ zs.length ≤ 10) := Lib.hid hF.out.zl
    have hlp := hF.out.pl
    have hC := Lib.hid (WC.mk kA kB hR hZ hM)
    obtain ⟨A1, c1, rfl, -, -, -⟩ := hR
    obtain ⟨A2, c2, rfl, -, -, -⟩ := hZ
    obtain ⟨A3, c3, rfl⟩ := hM.form_
    generalize hlr0 : rs.length = lr at *
    generalize hlz0 : zs.length = lz at *
    generalize hlp0 : pcs.length = lp at *
    have hlr1 := Lib.hid hlr0
    have hlz1 := Lib.hid hlz0
    have hlp1 := Lib.hid hlp0
    clear hlr0 hlz0 hlp0 kA kB hM
    have hmk := run_make_row' (P := Try.prog) 38 3 (.int .i64 0) 8 Try.underlying38 int_info rfl .i64 .i64 lp (by omega) (by omega)
    have hS := Lib.hid (WS.start w0 lp 269)
    have hmo : Hid ((⟨#[49, 48, 48, 50, 51]⟩ : ByteArray).size ≤ maxLen) := Lib.hid (small_max (by decide))
    have hlb : Hid (∀ l ∈ [LD 269], l.labels.length ≤ 1000000000) := Lib.hid fun l hl => by rw [List.mem_singleton.1 hl]; exact Nat.zero_le _
    obtain ⟨xs, hpost⟩ := hF.out.post (List.replicate lp 0) (by rw [List.length_replicate, hlp1.out]) (fun x hx => (List.mem_replicate.1 hx).2)
    have hpost' := Lib.hid hpost
    have a0 := hC.out.kA.cell 0
    have a1 := hC.out.kA.cell 1
    have e0 := hC.out.kB.cell 0
    have e1 := hC.out.kB.cell 1
    have e2 := hC.out.kB.cell 2
    have e3 := hC.out.kB.cell 3
    have hAl := hC.out.kA.lt
    have hBl := hC.out.kB.lt
    simp only [List.getElem?_toArray, List.getElem?_cons_succ, List.getElem?_cons_zero] at a0 a1 e0 e1 e2 e3
    clear hpost
    go_wp2_with fail
    refine (postage_any _ _ _ _ _ rs zs [LD 269] _ _ _ pcs (List.replicate lp 0) _ (hS.out.rates hC.out) (hS.out.zones hC.out) hS.out.levels hlb.out hmo.out (hS.out.pieces hC.out) (hS.out.plan (by omega))).mono ?_
    rw [hpost'.out]
    rintro e w5 ⟨av, rfl, hA5, hb5⟩
    have hA := IsInts.of_own hA5
    obtain ⟨A5, c5, rfl, -, hc5, -⟩ := hA
    replace hS := Lib.hid (hS.out.call hb5)
    clear hA5 hb5 a0 a1 e0 e1 e2 e3 hAl hBl hpost' hmk
    obtain ⟨hAl, hBl, a0, a1, e0, e1, e2, e3, x4, xf, hs5⟩ := hS.out.has hC.out
    go_wp2_with fail
    refine (copyTariff_own _ _ rs zs _ (hS.out.rates hC.out) (hS.out.zones hC.out) (by rw [hlr1.out]; exact hlr.out.1) (by rw [hlr1.out]; have := hlr.out.2; omega) (fun r hr => by have := hF.out.small r hr; exact ⟨this.1, by omega, fun s hs => by have := this.2.2 s hs; omega⟩) (by rw [hlz1.out]; exact hlz.out.1) (by rw [hlz1.out]; have := hlz.out.2; omega)).mono ?_
    rintro e w6 ⟨rv2, zv2, rps, M, rfl, hOR, hmp, hHd, hOZ, hM1, hM2, hb6⟩
    have hcp := cop_of hOR hHd hOZ hM1 hM2 hb6
    have hrpl : rps.length = lr := by rw [← hlr1.out, ← hmp, List.length_map]
    obtain ⟨g7, c7, rfl, hg7a, hg7b, hc7a, hc7b⟩ := ownsRow_form hOR.1 (by rw [hrpl]; exact hlr.out.1)
    obtain ⟨gz, cz, rfl, hgza, hgzb, hcza, hczb⟩ := ownsRow_form hOZ.1 (by rw [hlz1.out]; exact hlz.out.1)
    rw [hrpl, hlz1.out] at hcp ⊢
    have hcp' := Lib.hid hcp
    have hmp' := Lib.hid hmp
    clear hcp hmp hOR hHd hOZ
    go_upto_block 0 with fail
    have hcop := Lib.hid hcp'.out.1
    have hhd := Lib.hid hcp'.out.2
    clear hcp'
    generalize w6.alloc (.cells #[.slice (some ⟨g7, 0, none⟩) lr c7, .slice (some ⟨gz, 0, none⟩) lz cz] 25) = W6 at *
    go_cut [15, 53] (fun s15 _ wx => s15 = .pointer (some ⟨w6.heap.size, 0, none⟩) ∧ BadT w5 w6.heap.size wx)
    case first =>
      have hk : dd % 6 = 0 ∨ dd % 6 = 1 ∨ dd % 6 = 2 ∨ dd % 6 = 3 ∨ dd % 6 = 4 ∨ dd % 6 = 5 := by omega
      obtain ⟨r0, v0, s0, c0, ts, t, H, H1, hrps, hr0, hmid, hfst⟩ := Mid.of hcop.out hhd.out
      subst hrps
      have hrsm := hF.out.small r0 (by rw [← hmp'.out]; simp)
      have hs0m := hrsm.2.2 s0 (by rw [hr0]; simp)
      have hns0 : ((s0, c0) :: ts).length ≤ 3 := by have := hrsm.2.1; rw [hr0] at this; simpa using this
      have hr0' := Lib.hid hr0
      have hsm := Lib.hid hs0m
      obtain ⟨gs, cs, rfl, hgsa, hgsb, hcsa, hcsb⟩ := ownsRow_form hmid.steps.1 (by simp)
      obtain ⟨gc, cc, rfl, hgca, hgcb, hcca, hccb⟩ := ownsRow_form hfst.cents.1 hsm.out.1
      have rowR := hcop.out.rates.1
      have rowZ := hcop.out.zones.1
      have rowS := hmid.steps.1
      have rowC := hfst.cents.1
      rw [hrpl] at rowR
      rw [hlz1.out] at rowZ
      clear hrsm hs0m hr0
      generalize hns : ((s0, (Value.slice (some ⟨gc, 0, none⟩) s0.cents.length cc)) :: ts).length = ns at *
      generalize hnc : s0.cents.length = nc at *
      have hns' := Lib.hid hns
      have hnc' := Lib.hid hnc
      clear hns hnc
      have q0 := row_cell rowR 0 (by simp [rateCells])
      have q1 := row_cell rowR 1 (by simp [rateCells])
      have q2 := row_cell rowR 2 (by simp [rateCells])
      have y0 := row_cell rowS 0 (by simp [stepCells])
      have y1 := row_cell rowS 1 (by simp [stepCells])
      have yf := ownsRow_frozen rowS rfl 1
      have qf := ownsRow_frozen rowR rfl 1
      simp only [rateCells, stepCells, List.flatMap_cons, List.cons_append, List.nil_append, List.getElem?_cons_succ, List.getElem?_cons_zero] at q0 q1 q2 y0 y1
      obtain ⟨tz, hzt⟩ := hF.out.zhead
      have hzt' := Lib.hid hzt
      rw [hzt] at rowZ
      have zc0 := row_cell rowZ 0 (by simp [zoneCells])
      have zc1 := row_cell rowZ 1 (by simp [zoneCells])
      have zc2 := row_cell rowZ 2 (by simp [zoneCells])
      have zf0 := ownsRow_frozen rowZ rfl 0
      have zf2 := ownsRow_frozen rowZ rfl 2
      simp only [zoneCells, List.flatMap_cons, List.cons_append, List.nil_append, List.getElem?_cons_succ, List.getElem?_cons_zero] at zc0 zc1 zc2
      have rowR' := Lib.hid rowR
      have rowZ' := Lib.hid rowZ
      have rowS' := Lib.hid rowS
      have rowC' := Lib.hid rowC
      have hmid' := Lib.hid hmid
      have hfst' := Lib.hid hfst
      have hU := Lib.hid hcop.out.blk
      have u0 := hU.out.cell 0
      have u1 := hU.out.cell 1
      have uf0 := hU.out.frozen 0
      have uf1 := hU.out.frozen 1
      simp only [List.getElem?_toArray, List.getElem?_cons_succ, List.getElem?_cons_zero] at u0 u1
      have hvl := hU.out.lt
      have hg7l : g7 < W6.heap.size := (rowR.lt g7 rfl).2
      have hgzl : gz < W6.heap.size := (rowZ.lt gz rfl).2
      have hgsl : gs < W6.heap.size := (rowS.lt gs rfl).2
      have hgcl : gc < W6.heap.size := (rowC.lt gc rfl).2
      have hg7M : g7 < M := hcop.out.rates.2.1 g7 rfl
      have hgzM : M ≤ gz ∧ gz < w6.heap.size := hcop.out.zones.2.1 gz rfl
      have hgsH : H1 ≤ gs ∧ gs < H := hfst.rowb gs rfl
      have hgcH : gc < H1 := hfst.cents.2.1 gc rfl
      have hg7H : H ≤ g7 ∧ g7 < M := hmid.rowb g7 rfl
      have hMv := hmid.mv
      have hW5 : w5.heap.size ≤ W6.heap.size := hcop.out.bel.size
      have hlr3 : lr ≤ 3 := hlr.out.2
      have hlz3 : lz ≤ 10 := hlz.out.2
      have hnc3 : nc ≤ 3 := hsm.out.2
      have hlr9 : 0 < lr := hlr.out.1
      have hlz9 : 0 < lz := hlz.out.1
      have hns9 : 0 < ns := by rw [← hns'.out]; simp
      have hnc9 : 0 < nc := by have := hsm.out.1; omega
      have hrpl' := Lib.hid hrpl
      clear rowR rowZ rowS rowC hmid hfst hzt hsm hrpl a0 a1 e0 e1 e2 e3 x4 xf hs5 hAl hBl hc5 hb6 hc7a hc7b hcza hczb hcsa hcsb hcca hccb hlp hhd
      obtain ⟨iR, hiR, hiR0, hiR1, hiR2⟩ := info_parts rate_info
      obtain ⟨iZ, hiZ, hiZ0, hiZ1, hiZ2⟩ := info_parts zone_info
      obtain ⟨iS, hiS, hiS0, hiS1, hiS2⟩ := info_parts step_info
      obtain ⟨iI, hiI, hiI0, hiI1, hiI2⟩ := info_parts int_info
      rcases hk with hk | hk | hk | hk | hk | hk
      · --<A>
        as_aux_lemma =>
        simp only [hk]
        have sd1 : lr + 1 ≤ maxLen := by unfold maxLen; omega
        have sd4 : (lr + 1) * 40 ≤ 140737488355328 := by omega
        have hneq : some w6.heap.size ≠ (Value.slice (some ⟨g7, 0, none⟩) lr c7).ownBlock := fun e => by simp [Value.ownBlock] at e; omega
        clear hiZ hiS hiI hiZ0 hiZ1 hiZ2 hiS0 hiS1 hiS2 hiI0 hiI1 hiI2 zc0 zc1 zc2 y0 y1 yf qf zf0 zf2
        go_upto_region 14 with fail
        go_region_law ((refine step_append_lies _ (by rfl) (.tmp 87) (.tmp 92) 22 (by rfl) w5.heap.size 57 iR (.agg #[.int .u8 0, .slice none 0 0, .int .i64 0]) 3 40 Try.underlying22 hiR hiR0 hiR1 hiR2 rfl (by decide) (.slice (some ⟨g7, 0, none⟩) lr c7) lr _ (by rfl) (by exact rowR'.out.alloc _) ⟨W6.heap.size, 0, none⟩ 1 1 [.int .u8 r0.cls, .slice (some ⟨gs, 0, none⟩) ns cs, .int .i64 r0.bar] (by rfl) rfl (by exact World.news_of_block (cs := #[.int .u8 r0.cls, .slice (some ⟨gs, 0, none⟩) ns cs, .int .i64 r0.bar]) (heap_alloc_new _ _)) (one3 rfl rfl rfl) Nat.one_pos sd1 sd4 (by exact Nat.le_trans hW5 (by simp)) (W6.heap.size + 1) (by simp) ?_; intro g cap w8 hown1 hgr1 hat1 hlt1; have hbk1 := Blk.grown (by exact hU.out.alloc _) hgr1 hneq; have yy := hbk1.cell 0; have yyf := hbk1.frozen 0; simp only [List.getElem?_toArray, List.getElem?_cons_zero] at yy; clear hbk1))
        all_goals
          have hR := Lib.hid (Cop.rate (rp := (r0, .slice (some ⟨gs, 0, none⟩) ns cs)) hcop.out (by first | exact (Below.refl _ _).alloc (Nat.le_refl _) _ | exact ((Below.refl _ _).alloc (Nat.le_refl _) _).drew | exact (Below.refl _ _).drew.alloc (Nat.le_refl _) _) (by simp) hown1 (by rw [hrpl'.out]) hgr1 (hat1.imp_right (fun e => by simp [e])) (by rw [List.map_append, hmp'.out]; exact wrong_rate _ _ _ (by rw [← hmp'.out]; simp)))
          clear hown1 hgr1 hat1 hlt1
          go_wp2_with fail
          go_meet
          exact ⟨rfl, hR.out⟩
        --</A>
      · --<B>
        as_aux_lemma =>
        simp only [hk]
        have sd1 : lz + 1 ≤ maxLen := by unfold maxLen; omega
        have sd4 : (lz + 1) * 40 ≤ 140737488355328 := by omega
        have hneq : some w6.heap.size ≠ (Value.slice (some ⟨gz, 0, none⟩) lz cz).ownBlock := fun e => by simp [Value.ownBlock] at e; omega
        have hMW : M ≤ W6.heap.size := by omega
        clear hiR hiS hiI hiR0 hiR1 hiR2 hiS0 hiS1 hiS2 hiI0 hiI1 hiI2 q0 q1 q2 y0 y1 yf qf zf0 zf2
        go_upto_region 16 with fail
        go_region_law ((refine step_append_lies _ (by rfl) (.tmp 98) (.tmp 103) 23 (by rfl) M 67 iZ (.agg #[.string ⟨#[]⟩, .string ⟨#[]⟩, .int .i64 0]) 3 40 Try.underlying23 hiZ hiZ0 hiZ1 hiZ2 rfl (by decide) (.slice (some ⟨gz, 0, none⟩) lz cz) lz _ (by rfl) (by exact rowZ'.out.alloc _) ⟨W6.heap.size, 0, none⟩ 1 1 [.string ⟨#[]⟩, .string ⟨#[]⟩, .int .i64 1] (by rfl) rfl (by exact World.news_of_block (cs := #[.string ⟨#[]⟩, .string ⟨#[]⟩, .int .i64 1]) (heap_alloc_new _ _)) (one3 rfl rfl rfl) Nat.one_pos sd1 sd4 (by exact Nat.le_trans hMW (by simp)) (W6.heap.size + 1) (by simp) ?_; intro g cap w8 hown1 hgr1 hat1 hlt1; have hbk1 := Blk.grown (by exact hU.out.alloc _) hgr1 hneq; have yy := hbk1.cell 1; have yyf := hbk1.frozen 1; simp only [List.getElem?_toArray, List.getElem?_cons_succ, List.getElem?_cons_zero] at yy; clear hbk1))
        all_goals
          have hR := Lib.hid (Cop.row (z := ⟨⟨#[]⟩, ⟨#[]⟩, 1⟩) hcop.out (by first | exact (Below.refl _ _).alloc (Nat.le_refl _) _ | exact ((Below.refl _ _).alloc (Nat.le_refl _) _).drew | exact (Below.refl _ _).drew.alloc (Nat.le_refl _) _) (by rw [hzt'.out]; simp) (by rw [hzt'.out]; exact hown1) (by rw [hlz1.out]) hgr1 (hat1.imp_right (fun e => by simp [e])) (by rw [hmp'.out]; exact wrong_row _ _ _ (by rw [hzt'.out]; simp)))
          clear hown1 hgr1 hat1 hlt1
          go_wp2_with fail
          go_meet
          exact ⟨rfl, hR.out⟩
        --</B>
      · --<C>
        as_aux_lemma =>
        simp only [hk]
        go_wp2_with fail
        go_meet
        exact ⟨rfl, Cop.store (z' := ⟨⟨#[57]⟩, ⟨#[]⟩, 1⟩) hcop.out rfl hzt'.out 0 (by decide) _ rfl ⟨small_max (by decide), small_max (by decide)⟩ (by rw [hmp'.out]; exact bad2 (by rw [← hzt'.out]; exact hF.out.rt))⟩
        --</C>
      · --<D>
        as_aux_lemma =>
        simp only [hk]
        go_wp2_with fail
        go_meet
        exact ⟨rfl, Cop.store (z' := ⟨⟨#[]⟩, ⟨#[]⟩, 0⟩) hcop.out rfl hzt'.out 2 (by decide) _ rfl ⟨small_max (by decide), small_max (by decide)⟩ (by rw [hmp'.out]; exact bad3 _ _ _ _)⟩
        --</D>
      · --<E>
        as_aux_lemma =>
        simp only [hk]
        have sd1 : ns + 1 ≤ maxLen := by unfold maxLen; omega
        have sd4 : (ns + 1) * 32 ≤ 140737488355328 := by omega
        have hneq : some w6.heap.size ≠ (Value.slice (some ⟨gs, 0, none⟩) ns cs).ownBlock := fun e => by simp [Value.ownBlock] at e; omega
        have hne7 : ∀ b, (Value.slice (some ⟨g7, 0, none⟩) lr c7).ownBlock = some b → some b ≠ (Value.slice (some ⟨gs, 0, none⟩) ns cs).ownBlock := fun b e e2 => by simp [Value.ownBlock] at e e2; omega
        have hne7' := Lib.hid hne7
        clear hne7
        clear hiR hiZ hiI hiR0 hiR1 hiR2 hiZ0 hiZ1 hiZ2 hiI0 hiI1 hiI2 zc0 zc1 zc2 yf zf0 zf2
        go_upto_region 22 with fail
        refine wpAnyN.start 15 (fun w' => w'.cell? ⟨w6.heap.size, 0, none⟩ = some (.slice (some ⟨g7, 0, none⟩) lr c7)) (fun w' => w'.cell? ⟨g7, 1, none⟩ = some (.slice (some ⟨gs, 0, none⟩) ns cs) ∧ w'.cell? ⟨gs, 0, none⟩ = some (.int .i64 s0.grams) ∧ w'.cell? ⟨gs, 1, none⟩ = some (.slice (some ⟨gc, 0, none⟩) nc cc)) (by kernel_rfl) (by exact ⟨u0, q1, y0, y1⟩) (fun hS hcl => ?_)
        refine wpAnyN.takeA (i := 0) (oi := ⟨some 120, _, _, _, _, _⟩) (v := ?v0e) hcl rfl (by kernel_rfl) (by kernel_rfl) (by kernel_rfl) (by decide) (fun _ _ _ h => h) (by rfl) ?hy0e hS (fun hcl => ?rest0e)
        case hy0e => (intro wz hz; (try dsimp only at hz); go_simp; try with_reducible rfl)
        simp only [Act.put, List.setIfInBounds_toArray, List.set_cons_zero, List.set_cons_succ]
        refine wpAnyN.takeA (i := 1) (oi := ⟨some 121, _, _, _, _, _⟩) (v := ?v1e) hcl rfl (by kernel_rfl) (by kernel_rfl) (by kernel_rfl) (by decide) (fun _ _ _ h => h) (by rfl) ?hy1e hS (fun hcl => ?rest1e)
        case hy1e => (intro wz hz; (try dsimp only at hz); go_simp; try with_reducible rfl)
        simp only [Act.put, List.setIfInBounds_toArray, List.set_cons_zero, List.set_cons_succ]
        refine wpAnyN.takeA (i := 2) (oi := ⟨some 122, _, _, _, _, _⟩) (v := ?v2e) hcl rfl (by kernel_rfl) (by kernel_rfl) (by kernel_rfl) (by decide) (fun _ _ _ h => h) (by rfl) ?hy2e hS (fun hcl => ?rest2e)
        case hy2e => (intro wz hz; (try dsimp only at hz); go_simp; try with_reducible rfl)
        simp only [Act.put, List.setIfInBounds_toArray, List.set_cons_zero, List.set_cons_succ]
        refine wpAnyN.takeA (i := 3) (oi := ⟨some 123, _, _, _, _, _⟩) (v := ?v3e) hcl rfl (by kernel_rfl) (by kernel_rfl) (by kernel_rfl) (by decide) (fun _ _ _ h => h) (by rfl) ?hy3e hS (fun hcl => ?rest3e)
        case hy3e => (intro wz hz; (try dsimp only at hz); go_simp; try with_reducible rfl)
        simp only [Act.put, List.setIfInBounds_toArray, List.set_cons_zero, List.set_cons_succ]
        refine wpAnyN.takeA (i := 4) (oi := ⟨some 124, _, _, _, _, _⟩) (v := ?v4e) hcl rfl (by kernel_rfl) (by kernel_rfl) (by kernel_rfl) (by decide) (fun _ _ _ h => h) (by rfl) ?hy4e hS (fun hcl => ?rest4e)
        case hy4e => (intro wz hz; (try dsimp only at hz); go_simp; try with_reducible rfl)
        simp only [Act.put, List.setIfInBounds_toArray, List.set_cons_zero, List.set_cons_succ]
        refine wpAnyN.takeA (i := 5) (oi := ⟨some 125, _, _, _, _, _⟩) (v := ?v5e) hcl rfl (by kernel_rfl) (by kernel_rfl) (by kernel_rfl) (by decide) (fun _ _ _ h => h) (by rfl) ?hy5e hS (fun hcl => ?rest5e)
        case hy5e => (intro wz hz; (try dsimp only at hz); go_simp; try with_reducible rfl)
        simp only [Act.put, List.setIfInBounds_toArray, List.set_cons_zero, List.set_cons_succ]
        refine wpAnyN.takeB (i := 6) (oi := ⟨some 126, _, _, _, _, _⟩) (v := ?v6e) hcl rfl (by kernel_rfl) (by kernel_rfl) (by kernel_rfl) (Behind.step (i := 6) (j := 15) (Behind.refl 15) (by kernel_rfl)) (by decide) (fun _ _ _ h => h) (by rfl) ?hy6e hS (fun hcl => ?rest6e)
        case hy6e => (intro wz hz; (try dsimp only at hz); obtain ⟨hzA, hzB⟩ := hz; go_simp; try with_reducible rfl)
        simp only [Act.put, List.setIfInBounds_toArray, List.set_cons_zero, List.set_cons_succ]
        refine wpAnyN.takeA (i := 7) (oi := ⟨some 127, _, _, _, _, _⟩) (v := ?v7e) hcl rfl (by kernel_rfl) (by kernel_rfl) (by kernel_rfl) (by decide) (fun _ _ _ h => h) (by rfl) ?hy7e hS (fun hcl => ?rest7e)
        case hy7e => (intro wz hz; (try dsimp only at hz); go_simp; try with_reducible rfl)
        simp only [Act.put, List.setIfInBounds_toArray, List.set_cons_zero, List.set_cons_succ]
        refine wpAnyN.takeA (i := 8) (oi := ⟨some 128, _, _, _, _, _⟩) (v := ?v8e) hcl rfl (by kernel_rfl) (by kernel_rfl) (by kernel_rfl) (by decide) (fun _ _ _ h => h) (by rfl) ?hy8e hS (fun hcl => ?rest8e)
        case hy8e => (intro wz hz; (try dsimp only at hz); go_simp; try with_reducible rfl)
        simp only [Act.put, List.setIfInBounds_toArray, List.set_cons_zero, List.set_cons_succ]
        refine wpAnyN.takeA (i := 9) (oi := ⟨some 129, _, _, _, _, _⟩) (v := ?v9e) hcl rfl (by kernel_rfl) (by kernel_rfl) (by kernel_rfl) (by decide) (fun _ _ _ h => h) (by rfl) ?hy9e hS (fun hcl => ?rest9e)
        case hy9e => (intro wz hz; (try dsimp only at hz); go_simp; try with_reducible rfl)
        simp only [Act.put, List.setIfInBounds_toArray, List.set_cons_zero, List.set_cons_succ]
        refine wpAnyN.takeA (i := 10) (oi := ⟨some 130, _, _, _, _, _⟩) (v := ?v10e) hcl rfl (by kernel_rfl) (by kernel_rfl) (by kernel_rfl) (by decide) (fun _ _ _ h => h) (by rfl) ?hy10e hS (fun hcl => ?rest10e)
        case hy10e => (intro wz hz; (try dsimp only at hz); go_simp; try with_reducible rfl)
        simp only [Act.put, List.setIfInBounds_toArray, List.set_cons_zero, List.set_cons_succ]
        refine wpAnyN.takeB (i := 11) (oi := ⟨some 131, _, _, _, _, _⟩) (v := ?v11e) hcl rfl (by kernel_rfl) (by kernel_rfl) (by kernel_rfl) (Behind.step (i := 11) (j := 12) (Behind.step (i := 12) (j := 13) (Behind.step (i := 13) (j := 14) (Behind.step (i := 14) (j := 15) (Behind.refl 15) (by kernel_rfl)) (by kernel_rfl)) (by kernel_rfl)) (by kernel_rfl)) (by decide) (fun _ _ _ h => h) (by rfl) ?hy11e hS (fun hcl => ?rest11e)
        case hy11e => (intro wz hz; (try dsimp only at hz); obtain ⟨hzA, hzB⟩ := hz; go_simp; try with_reducible rfl)
        simp only [Act.put, List.setIfInBounds_toArray, List.set_cons_zero, List.set_cons_succ]
        refine wpAnyN.takeA (i := 12) (oi := ⟨some 132, _, _, _, _, _⟩) (v := ?v12e) hcl rfl (by kernel_rfl) (by kernel_rfl) (by kernel_rfl) (by decide) (fun _ _ _ h => h) (by rfl) ?hy12e hS (fun hcl => ?rest12e)
        case hy12e => (intro wz hz; (try dsimp only at hz); go_simp; try with_reducible rfl)
        simp only [Act.put, List.setIfInBounds_toArray, List.set_cons_zero, List.set_cons_succ]
        refine wpAnyN.takeB (i := 13) (oi := ⟨some 133, _, _, _, _, _⟩) (v := ?v13e) hcl rfl (by kernel_rfl) (by kernel_rfl) (by kernel_rfl) (Behind.step (i := 13) (j := 14) (Behind.step (i := 14) (j := 15) (Behind.refl 15) (by kernel_rfl)) (by kernel_rfl)) (by decide) (fun _ _ _ h => h) (by rfl) ?hy13e hS (fun hcl => ?rest13e)
        case hy13e => (intro wz hz; (try dsimp only at hz); obtain ⟨hzA, hzB⟩ := hz; go_simp; try with_reducible rfl)
        simp only [Act.put, List.setIfInBounds_toArray, List.set_cons_zero, List.set_cons_succ]
        refine wpAnyN.go (i := 14) (oi := ⟨some 134, _, _, _, _, _⟩) (by kernel_rfl) rfl (by rfl) (fun K hK => ?_)
        go_simp
        refine hK.out _ _ (by exact (World.cell?_alloc_lt _ _ _ (by exact hvl)).trans u0) (fun _ => by exact ⟨(World.cell?_alloc_lt _ _ _ (by exact hg7l)).trans q1, (World.cell?_alloc_lt _ _ _ (by exact hgsl)).trans y0, (World.cell?_alloc_lt _ _ _ (by exact hgsl)).trans y1⟩) ?_
        clear hK K
        try simp only [Act.put, List.setIfInBounds_toArray, List.set_cons_zero, List.set_cons_succ]
        refine wpAnyN.go (i := 15) (oi := ⟨some 135, _, _, _, _, _⟩) (by kernel_rfl) rfl (by rfl) (fun K hK => ?_)
        refine wp_append_lies _ (.tmp 126) (.tmp 134) 55 (by rfl) w5.heap.size 61 iS (.agg #[.int .i64 0, .slice none 0 0]) 2 32 Try.underlying55 hiS hiS0 hiS1 hiS2 rfl (by decide) (.slice (some ⟨gs, 0, none⟩) ns cs) ns _ (by rfl) (by exact rowS'.out.alloc _) ⟨W6.heap.size, 0, none⟩ 1 1 [.int .i64 s0.grams, .slice (some ⟨gc, 0, none⟩) nc cc] (by rfl) rfl (by exact World.news_of_block (cs := #[.int .i64 s0.grams, .slice (some ⟨gc, 0, none⟩) nc cc]) (heap_alloc_new _ _)) (one2 rfl rfl) Nat.one_pos sd1 sd4 (by exact Nat.le_trans hW5 (by simp)) (W6.heap.size + 1) (by simp) ?_
        intro g cap w8 hown1 hgr1 hat1 hlt1
        have hbk1 := Blk.grown (by exact hU.out.alloc _) hgr1 hneq
        have yy := hbk1.cell 0
        simp only [List.getElem?_toArray, List.getElem?_cons_zero] at yy
        have hr8 := grown_row hgr1 (by exact rowR'.out.alloc _) hne7'.out
        have y8 := row_cell hr8 1 (by simp [rateCells])
        have yyf := ownsRow_frozen hr8 rfl 1
        simp only [rateCells, List.flatMap_cons, List.cons_append, List.nil_append, List.getElem?_cons_succ, List.getElem?_cons_zero] at y8 yyf
        clear hbk1 hr8
        refine hK.out _ _ yy (fun h => absurd h (by decide)) ?_
        clear hK K hS hcl
        try simp only [Act.put, List.setIfInBounds_toArray, List.set_cons_zero, List.set_cons_succ]
        refine wpAnyN.go (i := 16) (oi := ⟨some 136, _, _, _, _, _⟩) (by kernel_rfl) rfl (by rfl) (fun K hK => ?_)
        go_simp
        refine hK.out _ _ yy (fun h => absurd h (by decide)) ?_
        clear hK K
        try simp only [Act.put, List.setIfInBounds_toArray, List.set_cons_zero, List.set_cons_succ]
        refine wpAnyN.go (i := 17) (oi := ⟨some 137, _, _, _, _, _⟩) (by kernel_rfl) rfl (by rfl) (fun K hK => ?_)
        go_simp
        refine hK.out _ _ yy (fun h => absurd h (by decide)) ?_
        clear hK K
        try simp only [Act.put, List.setIfInBounds_toArray, List.set_cons_zero, List.set_cons_succ]
        refine wpAnyN.go (i := 18) (oi := ⟨none, _, _, _, _, _⟩) (by kernel_rfl) rfl (by rfl) (fun K hK => ?_)
        go_simp
        refine hK.out _ _ ((World.cell?_of_block (Below.heap_setCell _ _ _ _ (by simp; omega))).trans yy) (fun h => absurd h (by decide)) ?_
        clear hK K
        refine wpAnyN.done (by kernel_rfl) ?_ _
        all_goals
          have hR := Lib.hid (Mid.append (gr := g7) (a := (s0, .slice (some ⟨gc, 0, none⟩) nc cc)) hmid'.out (by first | exact (Below.refl _ _).alloc (Nat.le_refl _) _ | exact ((Below.refl _ _).alloc (Nat.le_refl _) _).drew | exact (Below.refl _ _).drew.alloc (Nat.le_refl _) _) rfl (stepIn_inner.keep (hmid'.out.steps.2.2 _ (by simp)) (Keeps.of_below (by first | exact (Below.refl _ _).alloc (Nat.le_refl _) _ | exact ((Below.refl _ _).alloc (Nat.le_refl _) _).drew | exact (Below.refl _ _).drew.alloc (Nat.le_refl _) _) _) fun _ _ h => h) hown1 (by rw [hns'.out]) hgr1 (hat1.imp_right (fun e => by simp [e])) (by rw [List.map_append]; exact bad4 _ _ _ _ _ _))
          clear hown1 hgr1 hat1 hlt1
          go_wp2_with fail
          go_meet
          exact ⟨rfl, hR.out⟩
        --</E>
      · --<G>
        as_aux_lemma =>
        simp only [hk]
        have sd1 : nc + 1 ≤ maxLen := by unfold maxLen; omega
        have sd4 : (nc + 1) * 8 ≤ 140737488355328 := by omega
        have hneq : some w6.heap.size ≠ (Value.slice (some ⟨gc, 0, none⟩) nc cc).ownBlock := fun e => by simp [Value.ownBlock] at e; omega
        have hne7 : Hid (∀ b, (Value.slice (some ⟨g7, 0, none⟩) lr c7).ownBlock = some b → some b ≠ (Value.slice (some ⟨gc, 0, none⟩) nc cc).ownBlock) := Lib.hid fun b e e2 => by simp [Value.ownBlock] at e e2; omega
        have hneS : Hid (∀ b, (Value.slice (some ⟨gs, 0, none⟩) ns cs).ownBlock = some b → some b ≠ (Value.slice (some ⟨gc, 0, none⟩) nc cc).ownBlock) := Lib.hid fun b e e2 => by simp [Value.ownBlock] at e e2; omega
        clear hiR hiZ hiR0 hiR1 hiR2 hiZ0 hiZ1 hiZ2 zc0 zc1 zc2 zf0 zf2
        go_upto_region 11 with fail
        go_cut [15] (fun s15 wx => s15 = .pointer (some ⟨w6.heap.size, 0, none⟩) ∧ ∃ gC capC, Mid w5 wx w6.heap.size M (.slice (some ⟨g7, 0, none⟩) lr c7) (.slice (some ⟨gz, 0, none⟩) lz cz) r0 (.slice (some ⟨gs, 0, none⟩) ns cs) ((⟨s0.grams, s0.cents ++ [300]⟩, .slice (some ⟨gC, 0, none⟩) (nc + 1) capC) :: ts) t zs H)
        case first =>
          refine wpAnyN.start 14 (fun w' => w'.cell? ⟨w6.heap.size, 0, none⟩ = some (.slice (some ⟨g7, 0, none⟩) lr c7) ∧ w'.cell? ⟨g7, 1, none⟩ = some (.slice (some ⟨gs, 0, none⟩) ns cs)) (fun w' => w'.cell? ⟨gs, 1, none⟩ = some (.slice (some ⟨gc, 0, none⟩) nc cc)) (by kernel_rfl) (by exact ⟨⟨u0, q1⟩, y1⟩) (fun hS hcl => ?_)
          refine wpAnyN.takeA (i := 0) (oi := ⟨some 54, _, _, _, _, _⟩) (v := ?v0) hcl rfl (by kernel_rfl) (by kernel_rfl) (by kernel_rfl) (by decide) (fun _ _ _ h => h) (by rfl) ?hy0 hS (fun hcl => ?rest0)
          case hy0 => (intro wz hz; (try dsimp only at hz); go_simp; try with_reducible rfl)
          simp only [Act.put, List.setIfInBounds_toArray, List.set_cons_zero, List.set_cons_succ]
          refine wpAnyN.takeA (i := 1) (oi := ⟨some 55, _, _, _, _, _⟩) (v := ?v1) hcl rfl (by kernel_rfl) (by kernel_rfl) (by kernel_rfl) (by decide) (fun _ _ _ h => h) (by rfl) ?hy1 hS (fun hcl => ?rest1)
          case hy1 => (intro wz hz; (try dsimp only at hz); go_simp; try with_reducible rfl)
          simp only [Act.put, List.setIfInBounds_toArray, List.set_cons_zero, List.set_cons_succ]
          refine wpAnyN.takeA (i := 2) (oi := ⟨some 56, _, _, _, _, _⟩) (v := ?v2) hcl rfl (by kernel_rfl) (by kernel_rfl) (by kernel_rfl) (by decide) (fun _ _ _ h => h) (by rfl) ?hy2 hS (fun hcl => ?rest2)
          case hy2 => (intro wz hz; (try dsimp only at hz); go_simp; try with_reducible rfl)
          simp only [Act.put, List.setIfInBounds_toArray, List.set_cons_zero, List.set_cons_succ]
          refine wpAnyN.takeA (i := 3) (oi := ⟨some 57, _, _, _, _, _⟩) (v := ?v3) hcl rfl (by kernel_rfl) (by kernel_rfl) (by kernel_rfl) (by decide) (fun _ _ _ h => h) (by rfl) ?hy3 hS (fun hcl => ?rest3)
          case hy3 => (intro wz hz; (try dsimp only at hz); go_simp; try with_reducible rfl)
          simp only [Act.put, List.setIfInBounds_toArray, List.set_cons_zero, List.set_cons_succ]
          refine wpAnyN.takeA (i := 4) (oi := ⟨some 58, _, _, _, _, _⟩) (v := ?v4) hcl rfl (by kernel_rfl) (by kernel_rfl) (by kernel_rfl) (by decide) (fun _ _ _ h => h) (by rfl) ?hy4 hS (fun hcl => ?rest4)
          case hy4 => (intro wz hz; (try dsimp only at hz); go_simp; try with_reducible rfl)
          simp only [Act.put, List.setIfInBounds_toArray, List.set_cons_zero, List.set_cons_succ]
          refine wpAnyN.takeA (i := 5) (oi := ⟨some 59, _, _, _, _, _⟩) (v := ?v5) hcl rfl (by kernel_rfl) (by kernel_rfl) (by kernel_rfl) (by decide) (fun _ _ _ h => h) (by rfl) ?hy5 hS (fun hcl => ?rest5)
          case hy5 => (intro wz hz; (try dsimp only at hz); go_simp; try with_reducible rfl)
          simp only [Act.put, List.setIfInBounds_toArray, List.set_cons_zero, List.set_cons_succ]
          refine wpAnyN.takeA (i := 6) (oi := ⟨some 60, _, _, _, _, _⟩) (v := ?v6) hcl rfl (by kernel_rfl) (by kernel_rfl) (by kernel_rfl) (by decide) (fun _ _ _ h => h) (by rfl) ?hy6 hS (fun hcl => ?rest6)
          case hy6 => (intro wz hz; (try dsimp only at hz); go_simp; try with_reducible rfl)
          simp only [Act.put, List.setIfInBounds_toArray, List.set_cons_zero, List.set_cons_succ]
          refine wpAnyN.takeA (i := 7) (oi := ⟨some 61, _, _, _, _, _⟩) (v := ?v7) hcl rfl (by kernel_rfl) (by kernel_rfl) (by kernel_rfl) (by decide) (fun _ _ _ h => h) (by rfl) ?hy7 hS (fun hcl => ?rest7)
          case hy7 => (intro wz hz; (try dsimp only at hz); go_simp; try with_reducible rfl)
          simp only [Act.put, List.setIfInBounds_toArray, List.set_cons_zero, List.set_cons_succ]
          refine wpAnyN.takeA (i := 8) (oi := ⟨some 62, _, _, _, _, _⟩) (v := ?v8) hcl rfl (by kernel_rfl) (by kernel_rfl) (by kernel_rfl) (by decide) (fun _ _ _ h => h) (by rfl) ?hy8 hS (fun hcl => ?rest8)
          case hy8 => (intro wz hz; (try dsimp only at hz); go_simp; try with_reducible rfl)
          simp only [Act.put, List.setIfInBounds_toArray, List.set_cons_zero, List.set_cons_succ]
          refine wpAnyN.takeA (i := 9) (oi := ⟨some 63, _, _, _, _, _⟩) (v := ?v9) hcl rfl (by kernel_rfl) (by kernel_rfl) (by kernel_rfl) (by decide) (fun _ _ _ h => h) (by rfl) ?hy9 hS (fun hcl => ?rest9)
          case hy9 => (intro wz hz; (try dsimp only at hz); go_simp; try with_reducible rfl)
          simp only [Act.put, List.setIfInBounds_toArray, List.set_cons_zero, List.set_cons_succ]
          refine wpAnyN.takeA (i := 10) (oi := ⟨some 64, _, _, _, _, _⟩) (v := ?v10) hcl rfl (by kernel_rfl) (by kernel_rfl) (by kernel_rfl) (by decide) (fun _ _ _ h => h) (by rfl) ?hy10 hS (fun hcl => ?rest10)
          case hy10 => (intro wz hz; (try dsimp only at hz); go_simp; try with_reducible rfl)
          simp only [Act.put, List.setIfInBounds_toArray, List.set_cons_zero, List.set_cons_succ]
          refine wpAnyN.takeA (i := 11) (oi := ⟨some 65, _, _, _, _, _⟩) (v := ?v11) hcl rfl (by kernel_rfl) (by kernel_rfl) (by kernel_rfl) (by decide) (fun _ _ _ h => h) (by rfl) ?hy11 hS (fun hcl => ?rest11)
          case hy11 => (intro wz hz; (try dsimp only at hz); go_simp; try with_reducible rfl)
          simp only [Act.put, List.setIfInBounds_toArray, List.set_cons_zero, List.set_cons_succ]
          refine wpAnyN.takeB (i := 12) (oi := ⟨some 66, _, _, _, _, _⟩) (v := ?v12) hcl rfl (by kernel_rfl) (by kernel_rfl) (by kernel_rfl) (Behind.step (i := 12) (j := 14) (Behind.refl 14) (by kernel_rfl)) (by decide) (fun _ _ _ h => h) (by rfl) ?hy12 hS (fun hcl => ?rest12)
          case hy12 => (intro wz hz; (try dsimp only at hz); obtain ⟨hzA, hzB⟩ := hz; go_simp; try with_reducible rfl)
          simp only [Act.put, List.setIfInBounds_toArray, List.set_cons_zero, List.set_cons_succ]
          refine wpAnyN.go (i := 13) (oi := ⟨some 67, _, _, _, _, _⟩) (by kernel_rfl) rfl (by rfl) (fun K hK => ?_)
          go_simp
          refine hK.out _ _ (by exact ⟨(World.cell?_alloc_lt _ _ _ (by exact hvl)).trans u0, (World.cell?_alloc_lt _ _ _ (by exact hg7l)).trans q1⟩) (fun _ => by exact (World.cell?_alloc_lt _ _ _ (by exact hgsl)).trans y1) ?_
          clear hK K
          try simp only [Act.put, List.setIfInBounds_toArray, List.set_cons_zero, List.set_cons_succ]
          refine wpAnyN.go (i := 14) (oi := ⟨some 68, _, _, _, _, _⟩) (by kernel_rfl) rfl (by rfl) (fun K hK => ?_)
          refine wp_append_lies _ (.tmp 66) (.tmp 67) 38 (by rfl) w5.heap.size 3 iI (.int .i64 0) 1 8 Try.underlying38 hiI hiI0 hiI1 hiI2 rfl (by decide) (.slice (some ⟨gc, 0, none⟩) nc cc) nc _ (by rfl) (by exact rowC'.out.alloc _) ⟨W6.heap.size, 0, none⟩ 1 1 [.int .i64 300] (by rfl) rfl (by exact World.news_of_block (cs := #[.int .i64 300]) (heap_alloc_new _ _)) (by intro u hu; rw [List.mem_singleton.1 hu]; rfl) Nat.one_pos sd1 sd4 (by exact Nat.le_trans hW5 (by simp)) (W6.heap.size + 1) (by simp) ?_
          intro g cap w8 hown1 hgr1 hat1 hlt1
          have hbk1 := Blk.grown (by exact hU.out.alloc _) hgr1 hneq
          have yy := hbk1.cell 0
          simp only [List.getElem?_toArray, List.getElem?_cons_zero] at yy
          have hr8 := grown_row hgr1 (by exact rowR'.out.alloc _) hne7.out
          have y8 := row_cell hr8 1 (by simp [rateCells])
          have hs8 := grown_row hgr1 (by exact rowS'.out.alloc _) hneS.out
          have y9 := row_cell hs8 1 (by simp [stepCells])
          have yyf := ownsRow_frozen hs8 rfl 1
          simp only [rateCells, stepCells, List.flatMap_cons, List.cons_append, List.nil_append, List.getElem?_cons_succ, List.getElem?_cons_zero] at y8 y9 yyf
          refine hK.out _ _ ⟨yy, y8⟩ (fun h => absurd h (by decide)) ?_
          clear hK K hS hcl
          try simp only [Act.put, List.setIfInBounds_toArray, List.set_cons_zero, List.set_cons_succ]
          refine wpAnyN.go (i := 15) (oi := ⟨some 69, _, _, _, _, _⟩) (by kernel_rfl) rfl (by rfl) (fun K hK => ?_)
          go_simp
          refine hK.out _ _ ⟨yy, y8⟩ (fun h => absurd h (by decide)) ?_
          clear hK K
          try simp only [Act.put, List.setIfInBounds_toArray, List.set_cons_zero, List.set_cons_succ]
          refine wpAnyN.go (i := 16) (oi := ⟨some 70, _, _, _, _, _⟩) (by kernel_rfl) rfl (by rfl) (fun K hK => ?_)
          go_simp
          refine hK.out _ _ ⟨yy, y8⟩ (fun h => absurd h (by decide)) ?_
          clear hK K
          try simp only [Act.put, List.setIfInBounds_toArray, List.set_cons_zero, List.set_cons_succ]
          refine wpAnyN.go (i := 17) (oi := ⟨none, _, _, _, _, _⟩) (by kernel_rfl) rfl (by rfl) (fun K hK => ?_)
          go_simp
          refine hK.out _ _ ⟨(World.cell?_of_block (Below.heap_setCell _ _ _ _ (by simp; omega))).trans yy, (World.cell?_of_block (Below.heap_setCell _ _ _ _ (by simp; omega))).trans y8⟩ (fun h => absurd h (by decide)) ?_
          clear hK K
          refine wpAnyN.done (by kernel_rfl) ?_ _
          all_goals
            have hR := Lib.hid (Mid.cent (x := 300) hmid'.out hfst'.out (by first | exact (Below.refl _ _).alloc (Nat.le_refl _) _ | exact ((Below.refl _ _).alloc (Nat.le_refl _) _).drew | exact (Below.refl _ _).drew.alloc (Nat.le_refl _) _) rfl hown1 (by rw [hnc'.out]) hgr1 (hat1.imp_right (fun e => by simp [e])))
            clear hown1 hgr1 hat1 hlt1
            go_wp2_with fail
            go_meet
            exact ⟨rfl, _, _, hR.out⟩
        case rest =>
          obtain ⟨rfl, gC, capC, hmid2⟩ := hcut
          rename World => w9
          have rowR9 := hmid2.row
          have rowS9 := hmid2.steps.1
          have hU9 := Lib.hid hmid2.blk
          have hrt : t.length + 1 = lr := by have := hrpl'.out; simpa using this
          have hst : ts.length + 1 = ns := by have := hns'.out; simpa using this
          rw [hrt] at rowR9
          have rowS9' : w9.ownsRow w5.heap.size 61 2 (.slice (some ⟨gs, 0, none⟩) ns cs) ns (((⟨s0.grams, s0.cents ++ [300]⟩, Value.slice (some ⟨gC, 0, none⟩) (nc + 1) capC) :: ts).flatMap stepCells) := by rw [← hst]; rw [← hst] at rowS9; exact rowS9
          have rR := Lib.hid rowR9
          have rS := Lib.hid rowS9'
          have u0 := hU9.out.cell 0
          have q1 := row_cell rowR9 1 (by simp [rateCells])
          have qf := ownsRow_frozen rowR9 rfl 1
          simp only [rateCells, List.getElem?_toArray, List.flatMap_cons, List.cons_append, List.nil_append, List.getElem?_cons_succ, List.getElem?_cons_zero] at u0 q1 qf
          have hvl9 := hU9.out.lt
          have hg79 : g7 < w9.heap.size := (rowR9.lt g7 rfl).2
          have hgs9 : gs < w9.heap.size := (rowS9'.lt gs rfl).2
          have hW9 : w5.heap.size ≤ w9.heap.size := hmid2.bel.size
          have hmid9 := Lib.hid hmid2
          have hst' := Lib.hid hst
          have sd1x : ns + 1 ≤ maxLen := by unfold maxLen; omega
          have sd4x : (ns + 1) * 32 ≤ 140737488355328 := by omega
          have hneqx : some w6.heap.size ≠ (Value.slice (some ⟨gs, 0, none⟩) ns cs).ownBlock := fun e => by simp [Value.ownBlock] at e; omega
          have hne9 : Hid (∀ b, (Value.slice (some ⟨g7, 0, none⟩) lr c7).ownBlock = some b → some b ≠ (Value.slice (some ⟨gs, 0, none⟩) ns cs).ownBlock) := Lib.hid fun b e e2 => by simp [Value.ownBlock] at e e2; omega
          have h5 := Lib.hid (isInts5 w9)
          clear hmid2 rowR9 rowS9 rowS9' hrt hst hne7 hneS hneq sd1 sd4
          go_upto_region 12 with fail
          refine wpAnyN.start 10 (fun w' => w'.cell? ⟨w6.heap.size, 0, none⟩ = some (.slice (some ⟨g7, 0, none⟩) lr c7)) (fun w' => w'.cell? ⟨g7, 1, none⟩ = some (.slice (some ⟨gs, 0, none⟩) ns cs)) (by kernel_rfl) (by exact ⟨u0, q1⟩) (fun hS hcl => ?_)
          refine wpAnyN.takeA (i := 0) (oi := ⟨some 71, _, _, _, _, _⟩) (v := ?v0q) hcl rfl (by kernel_rfl) (by kernel_rfl) (by kernel_rfl) (by decide) (fun _ _ _ h => h) (by rfl) ?hy0q hS (fun hcl => ?rest0q)
          case hy0q => (intro wz hz; (try dsimp only at hz); go_simp; try with_reducible rfl)
          simp only [Act.put, List.setIfInBounds_toArray, List.set_cons_zero, List.set_cons_succ]
          refine wpAnyN.takeA (i := 1) (oi := ⟨some 72, _, _, _, _, _⟩) (v := ?v1q) hcl rfl (by kernel_rfl) (by kernel_rfl) (by kernel_rfl) (by decide) (fun _ _ _ h => h) (by rfl) ?hy1q hS (fun hcl => ?rest1q)
          case hy1q => (intro wz hz; (try dsimp only at hz); go_simp; try with_reducible rfl)
          simp only [Act.put, List.setIfInBounds_toArray, List.set_cons_zero, List.set_cons_succ]
          refine wpAnyN.takeA (i := 2) (oi := ⟨some 73, _, _, _, _, _⟩) (v := ?v2q) hcl rfl (by kernel_rfl) (by kernel_rfl) (by kernel_rfl) (by decide) (fun _ _ _ h => h) (by rfl) ?hy2q hS (fun hcl => ?rest2q)
          case hy2q => (intro wz hz; (try dsimp only at hz); go_simp; try with_reducible rfl)
          simp only [Act.put, List.setIfInBounds_toArray, List.set_cons_zero, List.set_cons_succ]
          refine wpAnyN.takeA (i := 3) (oi := ⟨some 74, _, _, _, _, _⟩) (v := ?v3q) hcl rfl (by kernel_rfl) (by kernel_rfl) (by kernel_rfl) (by decide) (fun _ _ _ h => h) (by rfl) ?hy3q hS (fun hcl => ?rest3q)
          case hy3q => (intro wz hz; (try dsimp only at hz); go_simp; try with_reducible rfl)
          simp only [Act.put, List.setIfInBounds_toArray, List.set_cons_zero, List.set_cons_succ]
          refine wpAnyN.takeA (i := 4) (oi := ⟨some 75, _, _, _, _, _⟩) (v := ?v4q) hcl rfl (by kernel_rfl) (by kernel_rfl) (by kernel_rfl) (by decide) (fun _ _ _ h => h) (by rfl) ?hy4q hS (fun hcl => ?rest4q)
          case hy4q => (intro wz hz; (try dsimp only at hz); go_simp; try with_reducible rfl)
          simp only [Act.put, List.setIfInBounds_toArray, List.set_cons_zero, List.set_cons_succ]
          refine wpAnyN.takeA (i := 5) (oi := ⟨some 76, _, _, _, _, _⟩) (v := ?v5q) hcl rfl (by kernel_rfl) (by kernel_rfl) (by kernel_rfl) (by decide) (fun _ _ _ h => h) (by rfl) ?hy5q hS (fun hcl => ?rest5q)
          case hy5q => (intro wz hz; (try dsimp only at hz); go_simp; try with_reducible rfl)
          simp only [Act.put, List.setIfInBounds_toArray, List.set_cons_zero, List.set_cons_succ]
          refine wpAnyN.takeB (i := 6) (oi := ⟨some 77, _, _, _, _, _⟩) (v := ?v6q) hcl rfl (by kernel_rfl) (by kernel_rfl) (by kernel_rfl) (Behind.step (i := 6) (j := 10) (Behind.refl 10) (by kernel_rfl)) (by decide) (fun _ _ _ h => h) (by rfl) ?hy6q hS (fun hcl => ?rest6q)
          case hy6q => (intro wz hz; (try dsimp only at hz); obtain ⟨hzA, hzB⟩ := hz; go_simp; try with_reducible rfl)
          simp only [Act.put, List.setIfInBounds_toArray, List.set_cons_zero, List.set_cons_succ]
          refine wpAnyN.go (i := 7) (oi := ⟨some 78, _, _, _, _, _⟩) (by kernel_rfl) rfl (by rfl) (fun K hK => ?_)
          refine wp_buildInts5 38 3 _ _ _ _ _ rfl iI .i64 1 2 3 4 5 Try.underlying38 hiI hiI0 hiI1 rfl rfl rfl rfl rfl ?_
          refine hK.out _ _ (by exact (World.cell?_alloc_lt _ _ _ (by exact hvl9)).trans u0) (fun _ => by exact (World.cell?_alloc_lt _ _ _ (by exact hg79)).trans q1) ?_
          clear hK K
          try simp only [Act.put, List.setIfInBounds_toArray, List.set_cons_zero, List.set_cons_succ]
          refine wpAnyN.go (i := 8) (oi := ⟨some 79, _, _, _, _, _⟩) (by kernel_rfl) rfl (by rfl) (fun K hK => ?_)
          go_simp
          refine hK.out _ _ (by exact (World.cell?_alloc_lt _ _ _ (by exact hvl9)).trans u0) (fun _ => by exact (World.cell?_alloc_lt _ _ _ (by exact hg79)).trans q1) ?_
          clear hK K
          try simp only [Act.put, List.setIfInBounds_toArray, List.set_cons_zero, List.set_cons_succ]
          refine wpAnyN.go (i := 9) (oi := ⟨some 80, _, _, _, _, _⟩) (by kernel_rfl) rfl (by rfl) (fun K hK => ?_)
          go_simp
          refine hK.out _ _ (by exact (World.cell?_alloc_lt _ _ _ (by simp; omega)).trans ((World.cell?_alloc_lt _ _ _ (by exact hvl9)).trans u0)) (fun _ => by exact (World.cell?_alloc_lt _ _ _ (by simp; omega)).trans ((World.cell?_alloc_lt _ _ _ (by exact hg79)).trans q1)) ?_
          clear hK K
          try simp only [Act.put, List.setIfInBounds_toArray, List.set_cons_zero, List.set_cons_succ]
          refine wpAnyN.go (i := 10) (oi := ⟨some 81, _, _, _, _, _⟩) (by kernel_rfl) rfl (by rfl) (fun K hK => ?_)
          refine wp_append_lies _ (.tmp 77) (.tmp 80) 55 (by rfl) w5.heap.size 61 iS (.agg #[.int .i64 0, .slice none 0 0]) 2 32 Try.underlying55 hiS hiS0 hiS1 hiS2 rfl (by decide) (.slice (some ⟨gs, 0, none⟩) ns cs) ns _ (by rfl) (by exact (rS.out.alloc _).alloc _) ⟨w9.heap.size + 1, 0, none⟩ 1 1 [.int .i64 999, .slice (some ⟨w9.heap.size, 0, none⟩) 5 5] (by rfl) rfl (by exact World.news_of_block (cs := #[.int .i64 999, .slice (some ⟨w9.heap.size, 0, none⟩) 5 5]) (Blk.new_at _ _ _ _ (by simp))) (one2 rfl rfl) Nat.one_pos sd1x sd4x (by exact Nat.le_trans hW9 (by simp; omega)) (w9.heap.size + 1 + 1) (by simp) ?_
          intro g cap w8 hown1 hgr1 hat1 hlt1
          have hbk1 := Blk.grown (by exact (hU9.out.alloc _).alloc _) hgr1 hneqx
          have yy := hbk1.cell 0
          simp only [List.getElem?_toArray, List.getElem?_cons_zero] at yy
          have hr8 := grown_row hgr1 (by exact (rR.out.alloc _).alloc _) hne9.out
          have y8 := row_cell hr8 1 (by simp [rateCells])
          have yyf := ownsRow_frozen hr8 rfl 1
          simp only [rateCells, List.flatMap_cons, List.cons_append, List.nil_append, List.getElem?_cons_succ, List.getElem?_cons_zero] at y8 yyf
          refine hK.out _ _ yy (fun h => absurd h (by decide)) ?_
          clear hK K
          try simp only [Act.put, List.setIfInBounds_toArray, List.set_cons_zero, List.set_cons_succ]
          refine wpAnyN.go (i := 11) (oi := ⟨some 82, _, _, _, _, _⟩) (by kernel_rfl) rfl (by rfl) (fun K hK => ?_)
          go_simp
          refine hK.out _ _ yy (fun h => absurd h (by decide)) ?_
          clear hK K
          try simp only [Act.put, List.setIfInBounds_toArray, List.set_cons_zero, List.set_cons_succ]
          refine wpAnyN.go (i := 12) (oi := ⟨some 83, _, _, _, _, _⟩) (by kernel_rfl) rfl (by rfl) (fun K hK => ?_)
          go_simp
          refine hK.out _ _ yy (fun h => absurd h (by decide)) ?_
          clear hK K
          try simp only [Act.put, List.setIfInBounds_toArray, List.set_cons_zero, List.set_cons_succ]
          refine wpAnyN.go (i := 13) (oi := ⟨none, _, _, _, _, _⟩) (by kernel_rfl) rfl (by rfl) (fun K hK => ?_)
          go_simp
          refine hK.out _ _ ((World.cell?_of_block (Below.heap_setCell _ _ _ _ (by simp; omega))).trans yy) (fun h => absurd h (by decide)) ?_
          clear hK K
          refine wpAnyN.done (by kernel_rfl) ?_ _
          all_goals
            have hR := Lib.hid (Mid.append (gr := g7) (a := (⟨999, [1, 2, 3, 4, 5]⟩, .slice (some ⟨w9.heap.size, 0, none⟩) 5 5)) hmid9.out (by first | exact ((Below.refl _ _).alloc (Nat.le_refl _) _).alloc (by simp) _ | exact (((Below.refl _ _).alloc (Nat.le_refl _) _).alloc (by simp) _).drew | exact ((Below.refl _ _).alloc (Nat.le_refl _) _).drew.alloc (by simp) _ | exact ((Below.refl _ _).drew.alloc (Nat.le_refl _) _).alloc (by simp) _) rfl (IsIntsP.keep h5.out (Keeps.of_below (by first | exact (Below.refl _ _).alloc (Nat.le_refl _) _ | exact ((Below.refl _ _).alloc (Nat.le_refl _) _).drew | exact (Below.refl _ _).drew.alloc (Nat.le_refl _) _) _) (fun b _ h => ⟨.inr (by rw [h]; exact hvl9), fun e => by simp [Value.ownBlock] at e; omega⟩)) hown1 (by rw [← hst'.out]; rfl) hgr1 (hat1.imp_right (fun e => by simp [e])) (by rw [List.map_append]; exact bad5 _ _ _ _ _ _ _ (by rw [hnc'.out]; exact hnc3)))
            clear hown1 hgr1 hat1 hlt1
            go_wp2_with fail
            go_meet
            exact ⟨rfl, hR.out⟩
        --</G>
    case rest =>
      --<R>
      as_aux_lemma =>
      obtain ⟨rfl, hBT⟩ := hcut
      rename World => w7
      obtain ⟨hb57, ru, zu, rs', zs', kU, hRu, hZu, hbad⟩ := hBT
      replace hS := Lib.hid (hS.out.step hb57 hs5)
      have hB := Lib.hid (BU.mk kU hRu hZu)
      have hbad' := Lib.hid hbad
      obtain ⟨A8, c8, rfl, -, -, -⟩ := hRu
      obtain ⟨A9, c9, rfl, -, -, -⟩ := hZu
      generalize hl8 : rs'.length = l8 at *
      generalize hl9 : zs'.length = l9 at *
      clear hl8 hl9 hbad kU hb57 hcop hhd hmp' hrpl a0 a1 e0 e1 e2 e3 x4 xf hs5 hAl hBl hb6 hM1 hM2 hg7a hg7b hc7a hc7b hgza hgzb hcza hczb
      have hm1 : Hid ((⟨#[49]⟩ : ByteArray).size ≤ maxLen) := Lib.hid (small_max (by decide))
      obtain ⟨hAl, hBl, a0, a1, e0, e1, e2, e3, x4, xf, hs5⟩ := hS.out.has hC.out
      obtain ⟨hvl, v0, v1⟩ := hB.out.has
      go_wp2_with fail
      refine (zone_any _ _ rs' zs' _ _ _ hB.out.r hB.out.z hm1.out hm1.out).mono ?_
      rw [zone_bad hbad'.out]
      rintro e w8 ⟨rfl, hb8⟩
      replace hS := Lib.hid (hS.out.call hb8)
      replace hB := Lib.hid (hB.out.call hb8)
      clear hb8 a0 a1 e0 e1 e2 e3 x4 xf hs5 hAl hBl v0 v1 hvl
      obtain ⟨hAl, hBl, a0, a1, e0, e1, e2, e3, x4, xf, hs5⟩ := hS.out.has hC.out
      obtain ⟨hvl, v0, v1⟩ := hB.out.has
      as_aux_lemma =>
      go_wp2_with fail
      refine (price_any _ _ rs' zs' _ _ _ _ hB.out.r hB.out.z).mono ?_
      rw [price_bad hbad'.out]
      rintro e w9 ⟨rfl, hb9⟩
      replace hS := Lib.hid (hS.out.call hb9)
      replace hB := Lib.hid (hB.out.call hb9)
      clear hb9 a0 a1 e0 e1 e2 e3 x4 xf hs5 hAl hBl v0 v1 hvl
      obtain ⟨hAl, hBl, a0, a1, e0, e1, e2, e3, x4, xf, hs5⟩ := hS.out.has hC.out
      obtain ⟨hvl, v0, v1⟩ := hB.out.has
      as_aux_lemma =>
      go_wp2_with fail
      refine (bases_any _ _ _ rs' zs' _ _ _ pcs _ hB.out.r hB.out.z hmo.out (hS.out.pieces hC.out)).mono ?_
      rw [bases_bad hbad'.out]
      rintro e w10 ⟨cv10, rfl, hv10, hb10⟩
      obtain ⟨A10, c10, rfl, hc10⟩ := ints_none hv10
      clear hv10
      replace hS := Lib.hid (hS.out.call hb10)
      replace hB := Lib.hid (hB.out.call hb10)
      clear hb10 a0 a1 e0 e1 e2 e3 x4 xf hs5 hAl hBl v0 v1 hvl
      obtain ⟨hAl, hBl, a0, a1, e0, e1, e2, e3, x4, xf, hs5⟩ := hS.out.has hC.out
      obtain ⟨hvl, v0, v1⟩ := hB.out.has
      go_wp2_with fail
      refine (postage_any _ _ _ _ _ rs' zs' [LD 269] _ _ _ pcs (List.replicate lp 0) _ hB.out.r hB.out.z hS.out.levels hlb.out hmo.out (hS.out.pieces hC.out) (hS.out.plan (by omega))).mono ?_
      rw [post_bad hbad'.out]
      rintro e w11 ⟨cv11, rfl, hv11, hb11⟩
      obtain ⟨A11, c11, rfl, hc11⟩ := ints_none hv11
      clear hv11
      replace hS := Lib.hid (hS.out.call hb11)
      replace hB := Lib.hid (hB.out.call hb11)
      clear hb11 a0 a1 e0 e1 e2 e3 x4 xf hs5 hAl hBl v0 v1 hvl
      obtain ⟨hAl, hBl, a0, a1, e0, e1, e2, e3, x4, xf, hs5⟩ := hS.out.has hC.out
      obtain ⟨hvl, v0, v1⟩ := hB.out.has
      as_aux_lemma =>
      go_wp2_with fail
      refine (right_any _ _ rs' zs' _ hB.out.r hB.out.z).mono ?_
      rw [hbad'.out]
      rintro e w12 ⟨rfl, hb12⟩
      replace hS := Lib.hid (hS.out.call hb12)
      replace hB := Lib.hid (hB.out.call hb12)
      clear hb12 a0 a1 e0 e1 e2 e3 x4 xf hs5 hAl hBl v0 v1 hvl
      obtain ⟨hAl, hBl, a0, a1, e0, e1, e2, e3, x4, xf, hs5⟩ := hS.out.has hC.out
      obtain ⟨hvl, v0, v1⟩ := hB.out.has
      go_wp2_with fail
      refine (fits_tariff_any _ _ _ rs' zs' [LD 269] _ hB.out.r hB.out.z hS.out.levels hlb.out).mono ?_
      rw [fits_bad hbad'.out]
      rintro e w13 ⟨rfl, hb13⟩
      replace hS := Lib.hid (hS.out.call hb13)
      replace hB := Lib.hid (hB.out.call hb13)
      clear hb13 a0 a1 e0 e1 e2 e3 x4 xf hs5 hAl hBl v0 v1 hvl
      obtain ⟨hAl, hBl, a0, a1, e0, e1, e2, e3, x4, xf, hs5⟩ := hS.out.has hC.out
      obtain ⟨hvl, v0, v1⟩ := hB.out.has
      clear v0 v1 hvl hB hbad'
      as_aux_lemma =>
      go_wp2_with fail
      refine (copyMailing_any B _ _ _ _ pcs _ (hS.out.own hC.out) (by rw [hlp1.out]; omega)).mono ?_
      rintro e w14 ⟨qv2, rfl, hQ14, hb14⟩
      dsimp only at hQ14 ⊢
      have hcm := Lib.hid (copM_of (cls := 1) (country := 1) hQ14 hb14 (by rw [hlp1.out]; exact hlp.2) hmo.out)
      obtain ⟨g14, c14, rfl, -, -, -, hc14⟩ := ownsRow_form hQ14.1 (by rw [hlp1.out]; exact hlp.1)
      clear hQ14 hb14
      rw [hlp1.out] at hcm ⊢
      go_upto_block 1 with fail
      generalize w14.alloc (.cells #[.int .u8 1, .int .u8 1, .string ⟨#[49, 48, 48, 50, 51]⟩, .slice (some ⟨g14, 0, none⟩) lp c14] 36) = W14 at *
      clear a0 a1 e0 e1 e2 e3 x4 xf hAl hBl
      go_cut [24, 200] (fun s24 _ wx => s24 = .pointer (some ⟨w14.heap.size, 0, none⟩) ∧ BadM w13 w14.heap.size wx)
      case first =>
        have hk : dd % 6 = 0 ∨ dd % 6 = 1 ∨ dd % 6 = 2 ∨ dd % 6 = 3 ∨ dd % 6 = 4 ∨ dd % 6 = 5 := by omega
        obtain ⟨p0, tp, hpt⟩ := hF.out.pieces
        have hpt' := Lib.hid hpt
        have rowP := hcm.out.pieces.1
        rw [hlp1.out, hpt] at rowP
        have p0c := row_cell rowP 0 (by simp [pieceCells])
        have p1c := row_cell rowP 1 (by simp [pieceCells])
        have p2c := row_cell rowP 2 (by simp [pieceCells])
        have p3c := row_cell rowP 3 (by simp [pieceCells])
        have p4c := row_cell rowP 4 (by simp [pieceCells])
        have pf2 := ownsRow_frozen rowP rfl 2
        have pf3 := ownsRow_frozen rowP rfl 3
        simp only [pieceCells, List.flatMap_cons, List.cons_append, List.nil_append, List.getElem?_cons_succ, List.getElem?_cons_zero] at p0c p1c p2c p3c p4c
        have hU := Lib.hid hcm.out.blk
        have u0 := hU.out.cell 0
        have u1 := hU.out.cell 1
        have u2 := hU.out.cell 2
        have u3 := hU.out.cell 3
        have uf0 := hU.out.frozen 0
        have uf1 := hU.out.frozen 1
        have uf2 := hU.out.frozen 2
        have uf3 := hU.out.frozen 3
        simp only [List.getElem?_toArray, List.getElem?_cons_succ, List.getElem?_cons_zero] at u0 u1 u2 u3
        have hvl := hU.out.lt
        have hgl : g14 < W14.heap.size := (rowP.lt g14 rfl).2
        have hgM : w13.heap.size ≤ g14 ∧ g14 < w14.heap.size := hcm.out.pieces.2.1 g14 rfl
        have hW13 : w13.heap.size ≤ W14.heap.size := hcm.out.bel.size
        have rowP' := Lib.hid rowP
        have h97 : Hid ((⟨#[97]⟩ : ByteArray).size ≤ maxLen) := Lib.hid (small_max (by decide))
        have hlp9 : 0 < lp := hlp.1
        clear rowP hpt
        rcases hk with hk | hk | hk | hk | hk | hk
        · --<H>
          as_aux_lemma =>
          simp only [hk]
          go_wp2_with fail
          go_meet
          exact ⟨rfl, CopM.field hcm.out 0 _ 0 1 _ rfl hmo.out (wrong_class (by show (0 : Int) < 1; decide))⟩
          --</H>
        · --<I>
          as_aux_lemma =>
          simp only [hk]
          go_wp2_with fail
          go_meet
          exact ⟨rfl, CopM.field hcm.out 1 _ 1 4 _ rfl hmo.out (wrong_country (by show (3 : Int) < 4; decide))⟩
          --</I>
        · --<J>
          as_aux_lemma =>
          simp only [hk]
          go_wp2_with fail
          go_meet
          exact ⟨rfl, CopM.field hcm.out 2 _ 1 1 ⟨#[]⟩ rfl (small_max (by decide)) (wrong_origin no_code1)⟩
          --</J>
        · --<K>
          as_aux_lemma =>
          simp only [hk]
          go_wp2_with fail
          go_meet
          exact ⟨rfl, CopM.store (p' := ⟨p0.id, p0.point, p0.code, 0, p0.barred⟩) hcm.out rfl hpt'.out 3 (by decide) _ rfl (hcm.out.pieces.2.2 p0 (by rw [hpt'.out]; simp)) (wrong_grams (p := ⟨p0.id, p0.point, p0.code, 0, p0.barred⟩) (by simp) (by simp))⟩
          --</K>
        · --<L>
          as_aux_lemma =>
          simp only [hk]
          obtain ⟨iP, hiP, hiP0, hiP1, hiP2⟩ := info_parts piece_info
          have sd1 : lp + 1 ≤ maxLen := by unfold maxLen; omega
          have sd4 : (lp + 1) * 48 ≤ 140737488355328 := by omega
          have hneq : some w14.heap.size ≠ (Value.slice (some ⟨g14, 0, none⟩) lp c14).ownBlock := fun e => by simp [Value.ownBlock] at e; omega
          go_upto_region 41 with fail
          refine wpAnyN.start 7 (fun _ => True) (fun w' => w'.cell? ⟨w14.heap.size, 3, none⟩ = some (.slice (some ⟨g14, 0, none⟩) lp c14) ∧ w'.cell? ⟨g14, 0, none⟩ = some (.int .i64 p0.id) ∧ w'.cell? ⟨g14, 1, none⟩ = some (.int .i64 p0.point) ∧ w'.cell? ⟨g14, 2, none⟩ = some (.string p0.code) ∧ w'.cell? ⟨g14, 3, none⟩ = some (.int .i64 p0.grams) ∧ w'.cell? ⟨g14, 4, none⟩ = some (.bool p0.barred)) (by kernel_rfl) (by exact ⟨trivial, u3, p0c, p1c, p2c, p3c, p4c⟩) (fun hS hcl => ?_)
          refine wpAnyN.takeA (i := 0) (oi := ⟨some 222, _, _, _, _, _⟩) (v := ?v0u) hcl rfl (by kernel_rfl) (by kernel_rfl) (by kernel_rfl) (by decide) (fun _ _ _ h => h) (by rfl) ?hy0u hS (fun hcl => ?rest0u)
          case hy0u => (intro wz hz; (try dsimp only at hz); go_simp; try with_reducible rfl)
          simp only [Act.put, List.setIfInBounds_toArray, List.set_cons_zero, List.set_cons_succ]
          refine wpAnyN.takeB (i := 1) (oi := ⟨some 223, _, _, _, _, _⟩) (v := ?v1u) hcl rfl (by kernel_rfl) (by kernel_rfl) (by kernel_rfl) (Behind.step (i := 1) (j := 7) (Behind.refl 7) (by kernel_rfl)) (by decide) (fun _ _ _ h => h) (by rfl) ?hy1u hS (fun hcl => ?rest1u)
          case hy1u => (intro wz hz; (try dsimp only at hz); obtain ⟨hzA, hzB⟩ := hz; go_simp; try with_reducible rfl)
          simp only [Act.put, List.setIfInBounds_toArray, List.set_cons_zero, List.set_cons_succ]
          refine wpAnyN.takeA (i := 2) (oi := ⟨some 224, _, _, _, _, _⟩) (v := ?v2u) hcl rfl (by kernel_rfl) (by kernel_rfl) (by kernel_rfl) (by decide) (fun _ _ _ h => h) (by rfl) ?hy2u hS (fun hcl => ?rest2u)
          case hy2u => (intro wz hz; (try dsimp only at hz); go_simp; try with_reducible rfl)
          simp only [Act.put, List.setIfInBounds_toArray, List.set_cons_zero, List.set_cons_succ]
          refine wpAnyN.takeB (i := 3) (oi := ⟨some 225, _, _, _, _, _⟩) (v := ?v3u) hcl rfl (by kernel_rfl) (by kernel_rfl) (by kernel_rfl) (Behind.step (i := 3) (j := 4) (Behind.step (i := 4) (j := 5) (Behind.step (i := 5) (j := 6) (Behind.step (i := 6) (j := 7) (Behind.refl 7) (by kernel_rfl)) (by kernel_rfl)) (by kernel_rfl)) (by kernel_rfl)) (by decide) (fun _ _ _ h => h) (by rfl) ?hy3u hS (fun hcl => ?rest3u)
          case hy3u => (intro wz hz; (try dsimp only at hz); obtain ⟨hzA, hzB⟩ := hz; go_simp; try with_reducible rfl)
          simp only [Act.put, List.setIfInBounds_toArray, List.set_cons_zero, List.set_cons_succ]
          refine wpAnyN.takeA (i := 4) (oi := ⟨some 226, _, _, _, _, _⟩) (v := ?v4u) hcl rfl (by kernel_rfl) (by kernel_rfl) (by kernel_rfl) (by decide) (fun _ _ _ h => h) (by rfl) ?hy4u hS (fun hcl => ?rest4u)
          case hy4u => (intro wz hz; (try dsimp only at hz); go_simp; try with_reducible rfl)
          simp only [Act.put, List.setIfInBounds_toArray, List.set_cons_zero, List.set_cons_succ]
          refine wpAnyN.takeB (i := 5) (oi := ⟨some 227, _, _, _, _, _⟩) (v := ?v5u) hcl rfl (by kernel_rfl) (by kernel_rfl) (by kernel_rfl) (Behind.step (i := 5) (j := 6) (Behind.step (i := 6) (j := 7) (Behind.refl 7) (by kernel_rfl)) (by kernel_rfl)) (by decide) (fun _ _ _ h => h) (by rfl) ?hy5u hS (fun hcl => ?rest5u)
          case hy5u => (intro wz hz; (try dsimp only at hz); obtain ⟨hzA, hzB⟩ := hz; go_simp; try with_reducible rfl)
          simp only [Act.put, List.setIfInBounds_toArray, List.set_cons_zero, List.set_cons_succ]
          refine wpAnyN.go (i := 6) (oi := ⟨some 228, _, _, _, _, _⟩) (by kernel_rfl) rfl (by rfl) (fun K hK => ?_)
          refine wp_build5 34 48 (.tmp 227) rfl iP (.int .i64 p0.id) (.int .i64 p0.point) (.string p0.code) (.int .i64 p0.grams) (.bool p0.barred) _ _ _ _ _ Try.underlying34 hiP hiP0 hiP1 rfl ?_
          refine hK.out _ _ trivial (fun _ => by exact ⟨(World.cell?_alloc_lt _ _ _ (by exact hvl)).trans u3, (World.cell?_alloc_lt _ _ _ (by exact hgl)).trans p0c, (World.cell?_alloc_lt _ _ _ (by exact hgl)).trans p1c, (World.cell?_alloc_lt _ _ _ (by exact hgl)).trans p2c, (World.cell?_alloc_lt _ _ _ (by exact hgl)).trans p3c, (World.cell?_alloc_lt _ _ _ (by exact hgl)).trans p4c⟩) ?_
          clear hK K
          try simp only [Act.put, List.setIfInBounds_toArray, List.set_cons_zero, List.set_cons_succ]
          refine wpAnyN.go (i := 7) (oi := ⟨some 229, _, _, _, _, _⟩) (by kernel_rfl) rfl (by rfl) (fun K hK => ?_)
          refine wp_append_lies _ (.tmp 223) (.tmp 228) 34 (by rfl) w13.heap.size 48 iP (.agg #[.int .i64 0, .int .i64 0, .string ⟨#[]⟩, .int .i64 0, .bool false]) 5 48 Try.underlying34 hiP hiP0 hiP1 hiP2 rfl (by decide) (.slice (some ⟨g14, 0, none⟩) lp c14) lp _ (by rfl) (by exact rowP'.out.alloc _) ⟨W14.heap.size, 0, none⟩ 1 1 [.int .i64 p0.id, .int .i64 p0.point, .string p0.code, .int .i64 p0.grams, .bool p0.barred] (by rfl) rfl (by exact World.news_of_block (cs := #[.int .i64 p0.id, .int .i64 p0.point, .string p0.code, .int .i64 p0.grams, .bool p0.barred]) (heap_alloc_new _ _)) (one5 rfl rfl rfl rfl rfl) Nat.one_pos sd1 sd4 (by exact Nat.le_trans hW13 (by simp)) (W14.heap.size + 1) (by simp) ?_
          intro g cap w15 hown1 hgr1 hat1 hlt1
          have hbk1 := Blk.grown (by exact hU.out.alloc _) hgr1 hneq
          have yy := hbk1.cell 3
          have yyf := hbk1.frozen 3
          simp only [List.getElem?_toArray, List.getElem?_cons_succ, List.getElem?_cons_zero] at yy
          refine hK.out _ _ trivial (fun h => absurd h (by decide)) ?_
          clear hK K
          try simp only [Act.put, List.setIfInBounds_toArray, List.set_cons_zero, List.set_cons_succ]
          refine wpAnyN.go (i := 8) (oi := ⟨some 230, _, _, _, _, _⟩) (by kernel_rfl) rfl (by rfl) (fun K hK => ?_)
          go_simp
          refine hK.out _ _ trivial (fun h => absurd h (by decide)) ?_
          clear hK K
          try simp only [Act.put, List.setIfInBounds_toArray, List.set_cons_zero, List.set_cons_succ]
          refine wpAnyN.go (i := 9) (oi := ⟨none, _, _, _, _, _⟩) (by kernel_rfl) rfl (by rfl) (fun K hK => ?_)
          go_simp
          refine hK.out _ _ trivial (fun h => absurd h (by decide)) ?_
          clear hK K
          refine wpAnyN.done (by kernel_rfl) ?_ _
          all_goals
            have hR := Lib.hid (CopM.append (p := p0) hcm.out (by first | exact (Below.refl _ _).alloc (Nat.le_refl _) _ | exact ((Below.refl _ _).alloc (Nat.le_refl _) _).drew | exact (Below.refl _ _).drew.alloc (Nat.le_refl _) _) (by rw [hpt'.out]; simp) (by rw [hpt'.out]; exact hown1) (by rw [hlp1.out]) hgr1 (hat1.imp_right (fun e => by simp [e])) (mailing_pieces (pieces_twice _ _ _ (by rw [hpt'.out]; simp))))
            clear hown1 hgr1 hat1 hlt1
            go_wp2_with fail
            go_meet
            exact ⟨rfl, hR.out⟩
          --</L>
        · --<M>
          as_aux_lemma =>
          simp only [hk]
          go_wp2_with fail
          go_meet
          exact ⟨rfl, CopM.store (p' := ⟨p0.id, p0.point, ⟨#[97]⟩, p0.grams, p0.barred⟩) hcm.out rfl hpt'.out 2 (by decide) _ rfl h97.out (wrong_code (p := ⟨p0.id, p0.point, ⟨#[97]⟩, p0.grams, p0.barred⟩) (by simp) no_code2)⟩
          --</M>
      case rest =>
        --<T>
        as_aux_lemma =>
        obtain ⟨rfl, hBM⟩ := hcut
        rename World => w15
        obtain ⟨hb15, cls', ct', o', pv', ps', kW, hoW, hPW, hlW, hbM⟩ := hBM
        replace hS := Lib.hid (hS.out.step hb15 hs5)
        have hW := Lib.hid (BW.mk kW hPW)
        have hbM' := Lib.hid hbM
        have hoW' := Lib.hid hoW
        obtain ⟨A15, c15, rfl, -, -, -⟩ := hPW
        have hl15 : Hid (ps'.length ≤ 2001) := Lib.hid hlW
        generalize hlq : ps'.length = lq at *
        have hlq' := Lib.hid hlq
        clear hlq hbM kW hb15 hcm hs5 hoW
        obtain ⟨hAl, hBl, a0, a1, e0, e1, e2, e3, x4, xf, hs5⟩ := hS.out.has hC.out
        obtain ⟨hwl, v0, v1, v2, v3⟩ := hW.out.has
        go_wp2_with fail
        refine (bases_any _ _ _ rs zs _ _ _ ps' _ (hS.out.rates hC.out) (hS.out.zones hC.out) hoW'.out hW.out.p).mono ?_
        rw [bases_badM hbM'.out]
        rintro e w16 ⟨cv16, rfl, hv16, hb16⟩
        obtain ⟨A16, c16, rfl, hc16⟩ := ints_none hv16
        clear hv16
        replace hS := Lib.hid (hS.out.call hb16)
        replace hW := Lib.hid (hW.out.call hb16)
        clear hb16 a0 a1 e0 e1 e2 e3 x4 xf hs5 hAl hBl v0 v1 v2 v3 hwl
        obtain ⟨hAl, hBl, a0, a1, e0, e1, e2, e3, x4, xf, hs5⟩ := hS.out.has hC.out
        obtain ⟨hwl, v0, v1, v2, v3⟩ := hW.out.has
        have hlq1 : lq ≤ 2001 := hl15.out
        have hmq := run_make_row' (P := Try.prog) 38 3 (.int .i64 0) 8 Try.underlying38 int_info rfl .i64 .i64 lq (by omega) (by omega)
        go_upto_region 43 with fail
        have hb16x : Below w16.heap.size w16 ((w16.alloc (.cells (madeCells #[.int .i64 0] lq) 3)).drew) := ((Below.refl _ _).alloc (Nat.le_refl _) _).drew
        have hSX := Lib.hid (hS.out.call hb16x)
        have hWX := Lib.hid (hW.out.call hb16x)
        have hplX := Lib.hid (plan_off (k := 0) (n := lq) (Blk.drewW (Blk.new w16 3 (madeCells #[.int .i64 0] lq))) (by omega) (by omega))
        clear hb16x hc10 hc11 hc14 hc5
        go_region_held3 (fun w' => w'.cell? ⟨vA, 0, none⟩ = some (.slice A1 lr c1) ∧ w'.cell? ⟨vA, 1, none⟩ = some (.slice A2 lz c2) ∧ w'.cell? ⟨w14.heap.size, 0, none⟩ = some (.int .u8 cls') ∧ w'.cell? ⟨w14.heap.size, 1, none⟩ = some (.int .u8 ct') ∧ w'.cell? ⟨w14.heap.size, 2, none⟩ = some (.string o') ∧ w'.cell? ⟨w14.heap.size, 3, none⟩ = some (.slice A15 lq c15)) (first | go_keep | (refine ⟨?_, ?_, ?_, ?_, ?_, ?_⟩ <;> (rw [hb17.cell (by simp <;> omega)]; go_keep))) ((go_at_call 17; refine (postage_any _ _ _ _ _ rs zs [LD 269] _ _ _ ps' (List.replicate lq 0) _ (hSX.out.rates hC.out) (hSX.out.zones hC.out) hSX.out.levels hlb.out hoW'.out hWX.out.p hplX.out).mono ?_; rw [post_badM hbM'.out]; rintro e w17 ⟨cv17, rfl, hv17, hb17⟩; obtain ⟨A17, c17, rfl, hc17⟩ := ints_none hv17; clear hv17))
        as_aux_lemma =>
        rename_i hHeld
        replace hS := Lib.hid (hSX.out.call hb17)
        replace hW := Lib.hid (hWX.out.call hb17)
        clear hSX hWX hplX hb17 hHeld hmq a0 a1 e0 e1 e2 e3 x4 xf hs5 hAl hBl v0 v1 v2 v3 hwl
        obtain ⟨hAl, hBl, a0, a1, e0, e1, e2, e3, x4, xf, hs5⟩ := hS.out.has hC.out
        obtain ⟨hwl, v0, v1, v2, v3⟩ := hW.out.has
        go_wp2_with fail
        refine (mailing_any _ _ _ _ ps' _ hoW'.out hW.out.p).mono ?_
        rw [hbM'.out]
        rintro e w18 ⟨rfl, hb18⟩
        replace hS := Lib.hid (hS.out.call hb18)
        clear hb18 hW a0 a1 e0 e1 e2 e3 x4 xf hs5 hAl hBl v0 v1 v2 v3 hwl
        obtain ⟨hAl, hBl, a0, a1, e0, e1, e2, e3, x4, xf, hs5⟩ := hS.out.has hC.out
        go_upto_region 47 with fail
        as_aux_lemma =>
        replace hS := Lib.hid (hS.out.store 556)
        clear a0 a1 e0 e1 e2 e3 x4 xf hs5 hAl hBl
        generalize w18.setCell ⟨w0.heap.size, 4, none⟩ (.int .i64 556) = w19 at *
        obtain ⟨hAl, hBl, a0, a1, e0, e1, e2, e3, x4, xf, hs5⟩ := hS.out.has hC.out
        have hlb5 : Hid (∀ l ∈ [LD 556], l.labels.length ≤ 1000000000) := Lib.hid fun l hl => by rw [List.mem_singleton.1 hl]; exact Nat.zero_le _
        have hlb6 : Hid (∀ l ∈ [LD 0], l.labels.length ≤ 1000000000) := Lib.hid fun l hl => by rw [List.mem_singleton.1 hl]; exact Nat.zero_le _
        go_wp2_with fail
        refine (postage_any _ _ _ _ _ rs zs [LD 556] _ _ _ pcs (List.replicate lp 0) _ (hS.out.rates hC.out) (hS.out.zones hC.out) hS.out.levels hlb5.out hmo.out (hS.out.pieces hC.out) (hS.out.plan (by omega))).mono ?_
        rw [post_no hF.out.no]
        rintro e w20 ⟨cv20, rfl, hv20, hb20⟩
        obtain ⟨A20, c20, rfl, hc20⟩ := ints_none hv20
        clear hv20
        replace hS := Lib.hid (hS.out.call hb20)
        clear hb20 a0 a1 e0 e1 e2 e3 x4 xf hs5 hAl hBl
        obtain ⟨hAl, hBl, a0, a1, e0, e1, e2, e3, x4, xf, hs5⟩ := hS.out.has hC.out
        go_upto_region 49 with fail
        as_aux_lemma =>
        replace hS := Lib.hid (hS.out.store 0)
        clear a0 a1 e0 e1 e2 e3 x4 xf hs5 hAl hBl
        generalize w20.setCell ⟨w0.heap.size, 4, none⟩ (.int .i64 0) = w21 at *
        obtain ⟨hAl, hBl, a0, a1, e0, e1, e2, e3, x4, xf, hs5⟩ := hS.out.has hC.out
        have hb21 : Below w21.heap.size w21 w21.drew := (Below.refl _ _).drew
        have hSX := Lib.hid (hS.out.call hb21)
        have hne : Hid ((List.replicate (lp - 1) (0 : Int)).length ≠ pcs.length) := Lib.hid (by rw [hlp1.out, List.length_replicate]; omega)
        by_cases hlp2 : lp = 1
        · --<U>
          subst hlp2
          have hne2 : Hid (([] : List Int).length ≠ pcs.length) := Lib.hid (by rw [hlp1.out]; simp)
          clear hne
          go_region_held3 (fun w' => w'.cell? ⟨vA, 0, none⟩ = some (.slice A1 lr c1) ∧ w'.cell? ⟨vA, 1, none⟩ = some (.slice A2 lz c2) ∧ w'.cell? ⟨vB, 0, none⟩ = some (.int .u8 1) ∧ w'.cell? ⟨vB, 1, none⟩ = some (.int .u8 1) ∧ w'.cell? ⟨vB, 2, none⟩ = some (.string ⟨#[49, 48, 48, 50, 51]⟩) ∧ w'.cell? ⟨vB, 3, none⟩ = some (.slice A3 1 c3)) (first | go_keep | (refine ⟨?_, ?_, ?_, ?_, ?_, ?_⟩ <;> (rw [hb22.cell (by simp <;> omega)]; go_keep))) ((go_at_call 17; refine (postage_any _ _ _ _ _ rs zs [LD 0] _ _ _ pcs [] _ (hSX.out.rates hC.out) (hSX.out.zones hC.out) hSX.out.levels hlb6.out hmo.out (hSX.out.pieces hC.out) (by exact isInts_zero _ _)).mono ?_; rw [post_badP hne2.out]; rintro e w22 ⟨cv22, rfl, hv22, hb22⟩; obtain ⟨A22, c22, rfl, hc22⟩ := ints_none hv22; clear hv22))
          have hE : Below w.heap.size w w22 := b0.trans ((hSX.out.call hb22).1.mono b0.size)
          go_wp2_with fail
          go_ret
          exact ⟨rfl, hE⟩
          --</U>
        · --<V>
          have hlp3 : 1 < lp := by omega
          have ib1 : (1 : Int) ≤ (lp : Int) := by omega
          have ib2 : (1 : Int) < (lp : Int) := by omega
          have ib3 : ¬ (lp : Int) - 1 = 0 := by omega
          have ib4 : ¬ lp = 1 := by omega
          have hpl2 := Lib.hid (plan_off (k := 1) (n := lp - 1) hSX.out.2.2 (by omega) (by omega))
          clear hlp2
          go_region_held3 (fun w' => w'.cell? ⟨vA, 0, none⟩ = some (.slice A1 lr c1) ∧ w'.cell? ⟨vA, 1, none⟩ = some (.slice A2 lz c2) ∧ w'.cell? ⟨vB, 0, none⟩ = some (.int .u8 1) ∧ w'.cell? ⟨vB, 1, none⟩ = some (.int .u8 1) ∧ w'.cell? ⟨vB, 2, none⟩ = some (.string ⟨#[49, 48, 48, 50, 51]⟩) ∧ w'.cell? ⟨vB, 3, none⟩ = some (.slice A3 lp c3)) (first | go_keep | (refine ⟨?_, ?_, ?_, ?_, ?_, ?_⟩ <;> (rw [hb22.cell (by simp <;> omega)]; go_keep))) ((go_at_call 17; refine (postage_any _ _ _ _ _ rs zs [LD 0] _ _ _ pcs (List.replicate (lp - 1) 0) _ (hSX.out.rates hC.out) (hSX.out.zones hC.out) hSX.out.levels hlb6.out hmo.out (hSX.out.pieces hC.out) hpl2.out).mono ?_; rw [post_badP hne.out]; rintro e w22 ⟨cv22, rfl, hv22, hb22⟩; obtain ⟨A22, c22, rfl, hc22⟩ := ints_none hv22; clear hv22))
          have hE : Below w.heap.size w w22 := b0.trans ((hSX.out.call hb22).1.mono b0.size)
          go_wp2_with fail
          go_ret
          exact ⟨rfl, hE⟩
          --</V>
        --</T>
      --</R>
end Go.Proofs.Ythbnbfeolfkkaaa
