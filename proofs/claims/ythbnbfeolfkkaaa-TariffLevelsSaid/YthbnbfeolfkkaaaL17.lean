/- The walk of TariffLevels: it returns true. -/
import Derived.Test.YthbnbfeolfkkaaaL16
import Derived.Deep.DeepCutAuto
namespace Go.Proofs.Ythbnbfeolfkkaaa
open Go.RowKit Go.Maps
attribute [local go_sem ↓] Go.wp_at_zero Go.wp_at_succ
attribute [local go_sem] World.cell?_alloc_lt World.frozen?_alloc_past

theorem isKs_none (k : IntKind) (w : World) : IsKs k w (.slice none 0 0) [] := ⟨_, _, rfl, Nat.le_refl _, Nat.zero_le _, fun h => absurd h (by simp)⟩
theorem plan_bds {k many : Nat} {l : List Int} (hm : 1 ≤ many) : ∀ x ∈ planOf k many l, 0 ≤ x ∧ x < (many : Int) := by
  intro x hx
  obtain ⟨i, _, rfl⟩ := List.mem_map.1 hx
  exact planAt_bd many l i hm
theorem ints_at_ {w : World} {A : Option Addr} {n c : Nat} {xs : List Int} (h : IsInts w (.slice A n c) xs) {i : Nat} (hi : i < xs.length) : ∃ b off, A = some ⟨b, off, none⟩ ∧ b < w.heap.size ∧ w.cell? ⟨b, off + i, none⟩ = some (.int .i64 (xs.getD i 0)) := by
  obtain ⟨A', c', e, -, -, hA⟩ := h
  injection e with e1
  subst e1
  obtain ⟨b, off, rfl, hb, hr⟩ := hA (by omega)
  exact ⟨b, off, rfl, hb, hr i hi⟩
theorem level_at {w : World} {g n c : Nat} {ls : List Level} (h : IsLevels w (.slice (some ⟨g, 0, none⟩) n c) ls) {j : Nat} (hj : j < ls.length) : w.cell? ⟨g, j * 5 + 4, none⟩ = some (.int .i64 (ls.getD j Level.zero).cents) := by
  obtain ⟨A', c', e, -, -, hA⟩ := h
  injection e with e1
  obtain ⟨b, off, rfl, hb, hr⟩ := hA (by omega)
  injection e1 with e2
  injection e2 with e3 e4
  subst e3 e4
  have : IsLevel w g (0 + j * 5) (ls.getD j Level.zero) := hr j hj
  obtain ⟨-, -, -, -, h4, -⟩ := this
  simpa using h4
theorem pieces_step {B : Nat} {w : World} {n c gp i : Nat} {pcs : List Piece} (h : OwnPieces B w (.slice (some ⟨gp, 0, none⟩) n c) (mapTo noBar i pcs)) (hi : i < pcs.length) :
    OwnPieces B (w.setCell ⟨gp, i * 5 + 4, none⟩ (.bool false)) (.slice (some ⟨gp, 0, none⟩) n c) (mapTo noBar (i + 1) pcs) ∧ w.frozen? ⟨gp, i * 5 + 4, none⟩ = false ∧ ∃ b, w.cell? ⟨gp, i * 5 + 4, none⟩ = some (.bool b) := by
  have hn : n = (mapTo noBar i pcs).length := by
    rcases h.1.2 with ⟨e, _⟩ | ⟨g', cap, cur, e, _⟩
    · cases e
    · injection e
  subst hn
  have hi2 : i < (mapTo noBar i pcs).length := by rw [mapTo_len]; exact hi
  have hlt : i * 5 + 4 < (mapTo noBar i pcs).length * 5 := by omega
  refine ⟨?_, ownsRow_frozen h.1 rfl _, pcs[i].barred, ?_⟩
  · have := OwnL.setOne (E := 48) (k := 5) (cells := pieceCells) (I := pieceIn) pieceIn_inner (fun _ => rfl) h rfl i 4 hi2 (by decide) (.bool false) (noBar pcs[i]) (by rw [mapTo_get hi]; rfl) (by
      have := h.2 _ (List.getElem_mem hi2)
      rw [mapTo_get hi] at this
      exact this)
    rw [mapTo_set hi] at this
    exact this
  · rw [h.1.cellAt (i * 5 + 4) hlt, flat_get pieceCells 5 (fun _ => rfl) _ i 4 hi2 (by omega), mapTo_get hi]
    rfl
def noC (p : Level × Value) : Level × Value := (noCents p.1, p.2)
theorem levels_step {B : Nat} {w : World} {n c gp i : Nat} {lps : List (Level × Value)} (h : OwnLevels B w (.slice (some ⟨gp, 0, none⟩) n c) (mapTo noC i lps)) (hi : i < lps.length) :
    OwnLevels B (w.setCell ⟨gp, i * 5 + 4, none⟩ (.int .i64 0)) (.slice (some ⟨gp, 0, none⟩) n c) (mapTo noC (i + 1) lps) ∧ w.frozen? ⟨gp, i * 5 + 4, none⟩ = false ∧ ∃ x, w.cell? ⟨gp, i * 5 + 4, none⟩ = some (.int .i64 x) := by
  have hn : n = (mapTo noC i lps).length := by
    rcases h.1.2 with ⟨e, _⟩ | ⟨g', cap, cur, e, _⟩
    · cases e
    · injection e
  subst hn
  have hi2 : i < (mapTo noC i lps).length := by rw [mapTo_len]; exact hi
  have hlt : i * 5 + 4 < (mapTo noC i lps).length * 5 := by omega
  refine ⟨?_, ownsRow_frozen h.1 rfl _, lps[i].1.cents, ?_⟩
  · have := OwnL.setOne (E := 54) (k := 5) (cells := levelCells) (I := levelIn) levelIn_inner (fun _ => rfl) h rfl i 4 hi2 (by decide) (.int .i64 0) (noC lps[i]) (by rw [mapTo_get hi]; rfl) (by
      have := h.2 _ (List.getElem_mem hi2)
      rw [mapTo_get hi] at this
      exact this)
    rw [mapTo_set hi] at this
    exact this
  · rw [h.1.cellAt (i * 5 + 4) hlt, flat_get levelCells 5 (fun _ => rfl) _ i 4 hi2 (by omega), mapTo_get hi]
    rfl
/-- what TariffLevels holds once the savings are gone -/
def LevEnd (w : World) (vA vB vC : Nat) (rv zv qv pv ov xv cv : Value) (cls : Int) (o : ByteArray) (rs : List Rate) (zs : List Zone) (pcs : List Piece) (p q : List Int) (ls : List Level) (pcs0 : List Piece) : Prop :=
  (vA < w.heap.size ∧ vB < w.heap.size ∧ vC < w.heap.size ∧ w.cell? ⟨vA, 0, none⟩ = some rv ∧ w.cell? ⟨vA, 1, none⟩ = some zv ∧ w.cell? ⟨vB, 0, none⟩ = some (.int .u8 cls) ∧ w.cell? ⟨vB, 1, none⟩ = some (.int .u8 1) ∧ w.cell? ⟨vB, 2, none⟩ = some (.string o) ∧ w.cell? ⟨vB, 3, none⟩ = some qv ∧
    w.cell? ⟨vC, 0, none⟩ = some (.int .u8 cls) ∧ w.cell? ⟨vC, 1, none⟩ = some (.int .u8 1) ∧ w.cell? ⟨vC, 2, none⟩ = some (.string o) ∧ w.cell? ⟨vC, 3, none⟩ = some cv) ∧
    IsRates w rv rs ∧ IsZones w zv zs ∧ IsPieces w qv pcs ∧ IsInts w pv p ∧ IsInts w ov q ∧ IsLevels w xv ls ∧ IsPieces w cv pcs0
theorem LevEnd.stays {w w' : World} {vA vB vC : Nat} {rv zv qv pv ov xv cv : Value} {cls : Int} {o : ByteArray} {rs : List Rate} {zs : List Zone} {pcs : List Piece} {p q : List Int} {ls : List Level} {pcs0 : List Piece} (h : LevEnd w vA vB vC rv zv qv pv ov xv cv cls o rs zs pcs p q ls pcs0) (hs : Stays w w') : LevEnd w' vA vB vC rv zv qv pv ov xv cv cls o rs zs pcs p q ls pcs0 := by
  obtain ⟨⟨h1, h2, h3, e1, e2, e3, e4, e5, e6, e7, e8, e9, e10⟩, f1, f2, f3, f4, f5, f6, f7⟩ := h
  exact ⟨⟨Nat.lt_of_lt_of_le h1 hs.1, Nat.lt_of_lt_of_le h2 hs.1, Nat.lt_of_lt_of_le h3 hs.1, (hs.2 _ h1).trans e1, (hs.2 _ h1).trans e2, (hs.2 _ h2).trans e3, (hs.2 _ h2).trans e4, (hs.2 _ h2).trans e5, (hs.2 _ h2).trans e6, (hs.2 _ h3).trans e7, (hs.2 _ h3).trans e8, (hs.2 _ h3).trans e9, (hs.2 _ h3).trans e10⟩, f1.stays hs, f2.stays hs, f3.stays hs, f4.stays hs, f5.stays hs, f6.stays hs, f7.stays hs⟩
theorem levEnd_of {gx : Nat} {w0 w : World} {vA vB vC B B2 n c3 : Nat} {rv zv qv pv ov cv : Value} {cls : Int} {o : ByteArray} {rs : List Rate} {zs : List Zone} {pcs : List Piece} {p q : List Int} {ls ls0 : List Level} {lps : List (Level × Value)} {pcs0 : List Piece}
    (h : LevMem gx w0 vA vB rv zv qv pv ov cls o rs zs pcs p q) (k : Keeps (· ≠ gx) w0 w) (hC : Blk w0 vC 36 #[.int .u8 cls, .int .u8 1, .string o, cv]) (hCn : vC ≠ gx) (hP : OwnPieces B w0 cv pcs0) (hBg : gx < B)
    (hX : OwnLevels B2 w (.slice (some ⟨gx, 0, none⟩) n c3) (lps.map noC)) (hl : lps.map (·.1) = ls) (hz : ls.map noCents = ls0) :
    LevEnd w vA vB vC rv zv qv pv ov (.slice (some ⟨gx, 0, none⟩) n c3) cv cls o rs zs pcs p q ls0 pcs0 := by
  obtain ⟨⟨h1, h2, n1, n2, h3, h4, h5, h6, h7, h8⟩, h9, h10, h11, h12, h13⟩ := h.keep k
  have hcl := hC.lt
  refine ⟨⟨h1, h2, Nat.lt_of_lt_of_le hcl k.size, h3, h4, h5, h6, h7, h8, (k.cell hcl hCn).trans (hC.cell 0), (k.cell hcl hCn).trans (hC.cell 1), (k.cell hcl hCn).trans (hC.cell 2), (k.cell hcl hCn).trans (hC.cell 3)⟩, h9.plain, h10.plain, h11.plain, h12.plain, h13.plain, ?_, ?_⟩
  · have := OwnLevels.levels hX
    rw [List.map_map] at this
    rw [← hz, ← hl, List.map_map]
    exact this
  · exact ((OwnPieces.piecesP hP).keep (Q := (· ≠ gx)) (Keeps.of_below (Below.refl _ _) _) (fun b _ hp => by show b ≠ gx; omega)).keep k (fun _ _ h => h) |>.plain
set_option maxRecDepth 100000 in
set_option maxHeartbeats 16000000 in
theorem levelsLaw_any (n s : Nat) (cs pl ol l : List Int) (cv pv ov lv : Value) (w : World) (hn : n < 4294967296) (hs : s < 4294967296) (hc : IsKs .u8 w cv cs) (hcs : ∀ x ∈ cs, 0 ≤ x ∧ x ≤ 255) (hp : IsKs .u8 w pv pl) (hps : ∀ x ∈ pl, 0 ≤ x ∧ x ≤ 255)
    (ho : IsKs .u8 w ov ol) (hos : ∀ x ∈ ol, 0 ≤ x ∧ x ≤ 255) (hl : IsKs .u16 w lv l) (hls : ∀ x ∈ l, 0 ≤ x ∧ x ≤ 65535) :
    Calls Try.prog 7 #[.int .u32 (n : Int), .int .u32 (s : Int), cv, pv, ov, lv] w fun e w' => e = .returned (.bool true) ∧ Below w.heap.size w w' := by
  have hpp := Lib.hid hp
  have hcc := Lib.hid hc
  have hoo := Lib.hid ho
  have hll := Lib.hid hl
  have hps' := Lib.hid hps
  have hcs' := Lib.hid hcs
  have hos' := Lib.hid hos
  have hls' := Lib.hid hls
  obtain ⟨Ap, cp, rfl, _, hpm, hAp⟩ := hp
  obtain ⟨Ac, cc, rfl, _, hcm, hAc⟩ := hc
  obtain ⟨Ao, co, rfl, _, hom, hAo⟩ := ho
  obtain ⟨Al, cl, rfl, _, hlm, hAl⟩ := hl
  clear hAp hAc hAo hAl hps hcs hos hls
  go_enter Try.func7, Try.ntmps7
  go_wp2_with fail
  refine (awake_any _).mono ?_
  rintro e w1 ⟨rfl, hb1⟩
  go_wp2_with fail
  refine (made_own n _ _ _ _ [] _ _ hn (isKs_none _ _) (by simp) rfl rfl rfl rfl).mono ?_
  rintro e w2 ⟨rv, zv, rfl, hR2, hZ2, hb2⟩
  have z1 : 1 ≤ 1 + n / 16 % 4 % 3 ∧ 1 + n / 16 % 4 % 3 ≤ 3 := by omega
  have z2 : 1 ≤ n % 4 % 3 + 1 ∧ n % 4 % 3 + 1 ≤ 3 := by omega
  have z3 : 1 ≤ n / 4 % 4 % 3 + 1 ∧ n / 4 % 4 % 3 + 1 ≤ 3 := by omega
  have z4 : n / 64 % 32 ≤ 31 := by omega
  generalize 1 + n / 16 % 4 % 3 = nz at *
  generalize n % 4 % 3 + 1 = nc at *
  generalize n / 4 % 4 % 3 + 1 = ns at *
  generalize n / 64 % 32 = br at *
  generalize n / 2048 = m at *
  have b12 : Below w.heap.size w w2 := hb1.trans (hb2.mono hb1.size)
  have s12 := b12.size
  have hR2h := Lib.hid hR2
  have hZ2h := Lib.hid (OwnZones.zones hZ2)
  obtain ⟨A1, c1, rfl, _, _, _⟩ := hR2
  obtain ⟨A2, c2, rfl⟩ := hZ2.form_
  clear hZ2
  rw [madeRates_len] at hR2h ⊢
  generalize hlz : (madeRows m nz 9).length = lz at *
  have hlz' := Lib.hid hlz
  clear hlz
  go_wp2_with fail
  refine (madeScheme_any s _ cs _ hs (hcc.out.stays (Stays.of (b12.mono (Nat.le_refl _)))) hcs'.out).mono ?_
  rintro e w3 ⟨xv, lps, rfl, hX3, hlp3, hb3⟩
  have b13 : Below w.heap.size w w3 := b12.trans (hb3.mono s12)
  have hX3h := Lib.hid hX3
  have hlp := Lib.hid hlp3
  obtain ⟨gl1, gl2, gl3⟩ := madeLevels_good s cs hcs'.out
  have hlen : lps.length = (madeLevels s cs).length := by rw [← hlp3, List.length_map]
  have hgx : ∃ gx c3, xv = .slice (some ⟨gx, 0, none⟩) lps.length c3 ∧ w2.heap.size ≤ gx ∧ gx < w3.heap.size ∧ c3 ≤ maxLen := by
    rcases hX3.1.2 with ⟨_, h0⟩ | ⟨g, cap, cur, e, hb, hg, _, hcm, _⟩
    · omega
    · exact ⟨g, cap, e, hb, (Array.getElem?_eq_some_iff.1 hg).1, hcm⟩
  obtain ⟨gx, c3, rfl, hgx1, hgx2, hc3m⟩ := hgx
  have hl1 : 1 ≤ lps.length := by omega
  have hl4 : lps.length ≤ 4 := by omega
  have hlen' := Lib.hid hlen
  clear hX3 hlp3 hlen gl2 gl3
  go_wp2_with fail
  refine (mail_any 0 _ l _ (by omega) (by omega) (hll.out.stays (Stays.of b13)) hls'.out).mono ?_
  rw [show mailOf 0 l = ⟨1, 1, ⟨#[49, 48, 48, 50, 51]⟩, mailPieces 0 (l.take 2000)⟩ from rfl]
  have gm1 : mailing ⟨1, 1, ⟨#[49, 48, 48, 50, 51]⟩, mailPieces 0 (l.take 2000)⟩ = true := mailing_mail 0 l hls'.out
  have gm2 := mail_grams (l.take 2000) 0 (fun x hx => hls'.out x (List.mem_of_mem_take hx))
  have gm3 : (mailPieces 0 (l.take 2000)).length ≤ 2000 := by rw [mailPieces_len]; exact List.length_take_le _ _
  generalize mailPieces 0 (l.take 2000) = pcs at *
  rintro e w4 ⟨qv, rfl, hM4, hb4⟩
  have hM4h := Lib.hid hM4
  obtain ⟨A4, c4, rfl⟩ := hM4.form_
  obtain ⟨bs, hbl, hbm, hf1, hf2, hf3⟩ := levels_facts (ps := []) (fun x hx => by cases hx) m nz ns br nc z1.1 z1.2 z3.1 z3.2 z2.2 (by omega) (by omega) 0 (by omega) ⟨#[49, 48, 48, 50, 51]⟩ pcs gm1 (fun p hp => ⟨(gm2 p hp).1, (gm2 p hp).2.1, (gm2 p hp).2.2.1⟩) s cs hcs'.out
  have e01 : ((0 : Nat) : Int) + 1 = 1 := rfl
  simp only [e01] at hbm hf1 hf2 hf3
  clear e01
  have hncm := Lib.hid (noCents_made s cs)
  have hlb := Lib.hid (fun (l : Level) (h : l ∈ madeLevels s cs) => show l.labels.length ≤ 1000000000 by have := (gl1 l h).2.1; omega)
  have hlb0 := Lib.hid (fun (l : Level) (h : l ∈ madeLevels s []) => show l.labels.length ≤ 1000000000 by have := ((madeLevels_good s [] (fun x hx => by cases hx)).1 l h).2.1; omega)
  rw [← hlen'.out] at hf1 hf2 hf3
  have hlp5 := Lib.hid (planOf_len pcs.length lps.length pl)
  have hlp6 := Lib.hid (planOf_len pcs.length lps.length ol)
  obtain ⟨a5, ha5, hal5, hf5⟩ := hf1 _ hlp5.out (plan_bds hl1)
  obtain ⟨a6, ha6, hal6, hf6⟩ := hf1 _ hlp6.out (plan_bds hl1)
  have hf7 := Lib.hid (hf2 _ hlp5.out (plan_bds hl1))
  obtain ⟨d6, hd6, hdl6, hf8⟩ := hf3 _ hlp6.out (plan_bds hl1)
  have hbl' := Lib.hid hbl
  have hbm' := Lib.hid hbm
  have ha5' := Lib.hid ha5
  have ha6' := Lib.hid ha6
  have hd6' := Lib.hid hd6
  have hal5' := Lib.hid hal5
  have hal6' := Lib.hid hal6
  have hdl6' := Lib.hid hdl6
  have hf5' := Lib.hid hf5
  have hf6' := Lib.hid hf6
  have hf8' := Lib.hid hf8
  clear hM4 gm1 gm2 gl1 hf1 hf2 hf3 hbl hbm ha5 ha6 hd6 hal5 hal6 hdl6 hf5 hf6 hf8 hlen'
  generalize madeLevels s [] = ls0 at *
  generalize madeLevels s cs = ls at *
  have hWX : Below w4.heap.size w4 ((w4.alloc (.cells #[.slice A1 nc c1, .slice A2 lz c2] 25)).alloc (.cells #[.int .u8 1, .int .u8 1, .string ⟨#[49, 48, 48, 50, 51]⟩, .slice A4 pcs.length c4] 36)) := ((Below.refl _ _).alloc (Nat.le_refl _) _).alloc (by simp) _
  have kA : Blk ((w4.alloc (.cells #[.slice A1 nc c1, .slice A2 lz c2] 25)).alloc (.cells #[.int .u8 1, .int .u8 1, .string ⟨#[49, 48, 48, 50, 51]⟩, .slice A4 pcs.length c4] 36)) w4.heap.size 25 #[.slice A1 nc c1, .slice A2 lz c2] := (Blk.new _ _ _).alloc _
  have kB : Blk ((w4.alloc (.cells #[.slice A1 nc c1, .slice A2 lz c2] 25)).alloc (.cells #[.int .u8 1, .int .u8 1, .string ⟨#[49, 48, 48, 50, 51]⟩, .slice A4 pcs.length c4] 36)) (w4.heap.size + 1) 36 #[.int .u8 1, .int .u8 1, .string ⟨#[49, 48, 48, 50, 51]⟩, .slice A4 pcs.length c4] := Blk.new_at _ _ _ _ (by simp)
  go_wp2_with fail
  generalize ((w4.alloc (.cells #[.slice A1 nc c1, .slice A2 lz c2] 25)).alloc (.cells #[.int .u8 1, .int .u8 1, .string ⟨#[49, 48, 48, 50, 51]⟩, .slice A4 pcs.length c4] 36)) = WX at *
  have b14 : Below w.heap.size w w4 := b13.trans (hb4.mono b13.size)
  have b1X : Below w.heap.size w WX := b14.trans (hWX.mono b14.size)
  have y0 := kB.cell 0
  have y1 := kB.cell 1
  have y2 := kB.cell 2
  have y3 := kB.cell 3
  simp only [List.getElem?_toArray, List.getElem?_cons_succ, List.getElem?_cons_zero] at y0 y1 y2 y3
  have kBl := kB.lt
  have hMX := Lib.hid ((OwnPieces.pieces hM4h.out).stays (Stays.of hWX))
  have hplX := Lib.hid (hpp.out.stays (Stays.of b1X))
  have holX := Lib.hid (hoo.out.stays (Stays.of b1X))
  have hdX : Below WX.heap.size WX WX.drew := (Below.refl _ _).drew
  have hL1 := Lib.hid (fun (W : World) (hW : Below WX.heap.size WX W) => levels_any 1 1 ⟨#[49, 48, 48, 50, 51]⟩ _ _ pcs lps.length pl W (hMX.out.stays (Stays.of hW)) gm3 hl1 (by omega) (hplX.out.stays (Stays.of hW)) hps'.out)
  have hL2 := Lib.hid (fun (W : World) (hW : Below WX.heap.size WX W) => levels_any 1 1 ⟨#[49, 48, 48, 50, 51]⟩ _ _ pcs lps.length ol W (hMX.out.stays (Stays.of hW)) gm3 hl1 (by omega) (holX.out.stays (Stays.of hW)) hos'.out)
  go_region_held3 (fun w' => w'.cell? ⟨w4.heap.size + 1, 0, none⟩ = some (.int .u8 1) ∧ w'.cell? ⟨w4.heap.size + 1, 1, none⟩ = some (.int .u8 1) ∧ w'.cell? ⟨w4.heap.size + 1, 2, none⟩ = some (.string ⟨#[49, 48, 48, 50, 51]⟩) ∧ w'.cell? ⟨w4.heap.size + 1, 3, none⟩ = some (.slice A4 pcs.length c4))
    (first | go_keep | (refine ⟨?_, ?_, ?_, ?_⟩ <;> first | (rw [hb6.cell (by simp <;> omega)]; go_keep) | (rw [hb5.cell (by simp <;> omega)]; go_keep)))
    (first | (go_at_call 15; (with_reducible refine (hL1.out _ ?_).mono ?_); exact hdX; rintro e w5 ⟨pv5, rfl, hP5, hb5⟩; have hs5 := hb5.size; simp at hs5; have hP5' := Lib.hid hP5; obtain ⟨A5, c5, rfl⟩ := hP5.form_; clear hP5) | (go_at_call 15; (with_reducible refine (hL2.out _ ?_).mono ?_); exact hdX.trans (hb5.mono hdX.size); rintro e w6 ⟨ov6, rfl, hO6, hb6⟩; have hO6' := Lib.hid hO6; obtain ⟨A6, c6, rfl⟩ := hO6.form_; clear hO6))
  rename_i hHeld
  rw [hlp5.out] at hP5' ⊢
  rw [hlp6.out] at hO6' ⊢
  generalize planOf pcs.length lps.length pl = p at *
  generalize planOf pcs.length lps.length ol = q at *
  have hX5 : Below WX.heap.size WX w5 := hdX.trans (hb5.mono hdX.size)
  have hX6 : Below WX.heap.size WX w6 := hX5.trans (hb6.mono hX5.size)
  have h46 : Below w4.heap.size w4 w6 := hWX.trans (hX6.mono hWX.size)
  have h36 : Below w3.heap.size w3 w6 := hb4.trans (h46.mono hb4.size)
  have h26 : Below w2.heap.size w2 w6 := hb3.trans (h36.mono hb3.size)
  have b16 : Below w.heap.size w w6 := b12.trans (h26.mono s12)
  have s34 := hb4.size
  have s45 := kB.lt
  have sd5 : WX.drew.heap.size = WX.heap.size := rfl
  have jA := kA.below hX6 kA.lt
  have jB := kB.below hX6 kB.lt
  have s5 := hX5.size
  have hH : Hid (LevMem gx w6 w4.heap.size (w4.heap.size + 1) (.slice A1 nc c1) (.slice A2 lz c2) (.slice A4 pcs.length c4) (.slice A5 pcs.length c5) (.slice A6 pcs.length c6) 1 ⟨#[49, 48, 48, 50, 51]⟩ (madeRates [] nz ns br nc) (madeRows m nz 9) pcs p q) := by
    refine ⟨⟨jA.lt, jB.lt, by omega, by omega, jA.cell 0, jA.cell 1, jB.cell 0, jB.cell 1, jB.cell 2, jB.cell 3⟩, ?_, ?_, ?_, ?_, ?_⟩
    · exact hR2h.out.keep (Keeps.of_below h26 _) (fun b hb _ => by show b ≠ gx; omega)
    · exact (IsZonesP.of hZ2h.out).keep (Keeps.of_below h26 _) (fun b hb _ => by show b ≠ gx; omega)
    · exact (OwnPieces.piecesP hM4h.out).keep (Keeps.of_below h46 _) (fun b _ hp => by show b ≠ gx; omega)
    · exact (OwnInts.ints hP5'.out).keep (Keeps.of_below hb6 _) (fun b _ hp => by show b ≠ gx; omega)
    · exact (OwnInts.ints hO6'.out).keep (Keeps.of_below (Below.refl _ _) _) (fun b _ hp => by show b ≠ gx; omega)
  have hXo := Lib.hid (hX3h.out.keep levelIn_inner (Keeps.of_below h36 _))
  have hMo := Lib.hid (hM4h.out.keep pieceIn_inner (Keeps.of_below h46 _))
  have hXl : Hid (IsLevels w6 (.slice (some ⟨gx, 0, none⟩) lps.length c3) ls) := by have := OwnLevels.levels hXo.out; rw [hlp.out] at this; exact this
  have hv1 : w4.heap.size + 1 < w6.heap.size := jB.lt
  have hb16' := b16
  clear hHeld hP5' hO6' jA jB kA kB hX5 hX6 h46 h36 h26 hb6 hb5 hdX hL1 hL2 hMX hplX holX y0 y1 y2 y3 kBl b1X b14 hWX hM4h hX3h hR2h hZ2h hb4 hb3 hb2 hb1 b13 b12 s45 sd5 s5 hs5 hpp hoo hcc hll
  have hmo : Hid ((⟨#[49, 48, 48, 50, 51]⟩ : ByteArray).size ≤ maxLen) := Lib.hid (small_max (by decide))
  obtain ⟨⟨hAl, hBl, hAn, hBn, a0, a1, b0, b1, b2, b3⟩, -⟩ := hH.out
  go_wp2_with fail
  refine (postage_any _ _ _ _ _ _ _ ls _ _ _ pcs p _ hH.out.2.1.plain hH.out.2.2.1.plain hXl.out hlb.out hmo.out hH.out.2.2.2.1.plain hH.out.2.2.2.2.1.plain).mono ?_
  rw [ha5'.out]
  rintro e w7 ⟨av, rfl, hG7, hb7⟩
  have hG := Lib.hid (IsInts.of_own hG7)
  dsimp only at hG
  obtain ⟨A7, c7, rfl, _, hc7m, _⟩ := hG.out
  rw [hal5'.out] at hG ⊢
  replace hH := Lib.hid (hH.out.keep (Keeps.of_below hb7 _))
  replace hXo := Lib.hid (hXo.out.keep levelIn_inner (Keeps.of_below hb7 _))
  replace hMo := Lib.hid (hMo.out.keep pieceIn_inner (Keeps.of_below hb7 _))
  replace hXl := Lib.hid (hXl.out.stays (Stays.of hb7))
  have b17 := b16.trans (hb7.mono b16.size)
  clear hG7 hb7 a0 a1 b0 b1 b2 b3 hAl hBl b16
  obtain ⟨⟨hAl, hBl, -, -, a0, a1, b0, b1, b2, b3⟩, -⟩ := hH.out
  go_wp2_with fail
  refine (postage_any _ _ _ _ _ _ _ ls _ _ _ pcs q _ hH.out.2.1.plain hH.out.2.2.1.plain hXl.out hlb.out hmo.out hH.out.2.2.2.1.plain hH.out.2.2.2.2.2.plain).mono ?_
  rw [ha6'.out]
  rintro e w8 ⟨bv, rfl, hF8, hb8⟩
  have hF := Lib.hid (IsInts.of_own hF8)
  dsimp only at hF
  obtain ⟨A8, c8, rfl, _, hc8m, _⟩ := hF.out
  rw [hal6'.out] at hF ⊢
  replace hG := Lib.hid (hG.out.stays (Stays.of hb8))
  replace hH := Lib.hid (hH.out.keep (Keeps.of_below hb8 _))
  replace hXo := Lib.hid (hXo.out.keep levelIn_inner (Keeps.of_below hb8 _))
  replace hMo := Lib.hid (hMo.out.keep pieceIn_inner (Keeps.of_below hb8 _))
  replace hXl := Lib.hid (hXl.out.stays (Stays.of hb8))
  have b18 := b17.trans (hb8.mono b17.size)
  clear hF8 hb8 a0 a1 b0 b1 b2 b3 hAl hBl b17
  obtain ⟨⟨hAl, hBl, -, -, a0, a1, b0, b1, b2, b3⟩, -⟩ := hH.out
  go_wp2
  have hll' : Hid (lps.length = ls.length) := by rw [← hlp.out, List.length_map]; rfl
  clear a0 a1 b0 b1 b2 b3
  go_loopw [79] (fun iv wr => ∃ i : Nat, i ≤ pcs.length ∧ iv = .int .i64 (i : Int) ∧ Below w8.heap.size w8 wr) (fun iv _ => pcs.length - (intOf iv).toNat)
  case atStart => exact ⟨0, by omega, rfl, Below.refl _ _⟩
  case round =>
    obtain ⟨i, hi, rfl, hbr⟩ := hrel
    by_cases hlt : i < pcs.length
    · have hlt' : decide ((i : Int) < (pcs.length : Int)) = true := by simp; omega
      obtain ⟨P, C, j, g1, g2, g3, g4, g5, g6, g7, g8, g9⟩ := hf5'.out i hlt
      obtain ⟨P', C', j', k1, k2, k3, k4, k5, k6, k7, k8, k9⟩ := hf6'.out i hlt
      have hPP : P' = P := by rw [← k8, g8]
      subst hPP
      obtain ⟨b7, o7, rfl, -, p7⟩ := ints_at_ (hG.out.stays (Stays.of hbr)) (i := i) (by rw [hal5'.out]; exact hlt)
      obtain ⟨b8, o8, rfl, -, p8⟩ := ints_at_ (hF.out.stays (Stays.of hbr)) (i := i) (by rw [hal6'.out]; exact hlt)
      obtain ⟨b5, o5, rfl, -, p5⟩ := ints_at_ (hH.out.2.2.2.2.1.plain.stays (Stays.of hbr)) (i := i) (by rw [hlp5.out]; exact hlt)
      obtain ⟨b6, o6, rfl, -, p6⟩ := ints_at_ (hH.out.2.2.2.2.2.plain.stays (Stays.of hbr)) (i := i) (by rw [hlp6.out]; exact hlt)
      have q5 := level_at (hXl.out.stays (Stays.of hbr)) (j := j) (by rw [← hll'.out]; exact g4)
      have q6 := level_at (hXl.out.stays (Stays.of hbr)) (j := j') (by rw [← hll'.out]; exact k4)
      rw [g5] at q5
      rw [k5] at q6
      rw [g3] at p5
      rw [k3] at p6
      have hu : a5.getD i 0 - a6.getD i 0 = C' - C := by rw [g9, k9]; split <;> omega
      have hu1 : 0 ≤ a5.getD i 0 ∧ a5.getD i 0 ≤ 555 := by rw [g9]; split <;> omega
      have hu2 : 0 ≤ a6.getD i 0 ∧ a6.getD i 0 ≤ 555 := by rw [k9]; split <;> omega
      clear g9 k9 g8 k8 g5 k5 g3 k3
      generalize a5.getD i 0 = u at *
      generalize a6.getD i 0 = v at *
      have hnq : (u - v != C' - C) = false := by rw [hu]; simp
      clear hu
      go_wp2
      go_quiet (fail)
      go_wp2
      go_roundw
      case rel => exact ⟨i + 1, by omega, by go_num, hbr.trans ((drewN_below _ _).mono hbr.size)⟩
      case measure => simp [intOf]; omega
    · have hlt' : decide ((i : Int) < (pcs.length : Int)) = false := by simp; omega
      replace hH := Lib.hid (hH.out.keep (Keeps.of_below hbr _))
      replace hXo := Lib.hid (hXo.out.keep levelIn_inner (Keeps.of_below hbr _))
      replace hMo := Lib.hid (hMo.out.keep pieceIn_inner (Keeps.of_below hbr _))
      have b1r := b18.trans (hbr.mono b18.size)
      obtain ⟨⟨hAl, hBl, -, -, a0, a1, b0, b1, b2, b3⟩, -⟩ := hH.out
      clear hbr b18 hXl hG hF
      go_wp2_with fail
      rename World => w9
      have s39 : w3.heap.size ≤ w9.heap.size := by omega
      refine (copyMailing_any w3.heap.size _ _ _ _ pcs _ hMo.out (by omega)).mono ?_
      rintro e w10 ⟨pv10, rfl, hQ10, hb10⟩
      dsimp only at hQ10 ⊢
      have hAlt := Lib.hid (fun g e => hQ10.block_lt (g := g) e)
      obtain ⟨A10, c10, rfl⟩ := hQ10.form_
      have hQ11 := Lib.hid (hQ10.keep pieceIn_inner (Keeps.of_below ((Below.refl w10.heap.size w10).alloc (Nat.le_refl _) (.cells #[.int .u8 1, .int .u8 1, .string ⟨#[49, 48, 48, 50, 51]⟩, .slice A10 pcs.length c10] 36)) _))
      have kC := Lib.hid (Blk.new w10 36 #[.int .u8 1, .int .u8 1, .string ⟨#[49, 48, 48, 50, 51]⟩, .slice A10 pcs.length c10])
      have hbW : Below w9.heap.size w9 (w10.alloc (.cells #[.int .u8 1, .int .u8 1, .string ⟨#[49, 48, 48, 50, 51]⟩, .slice A10 pcs.length c10] 36)) := hb10.alloc hb10.size _
      have s910 := hb10.size
      clear hQ10 hb10 hMo a0 a1 b0 b1 b2 b3
      go_wp2
      generalize w10.alloc (.cells #[.int .u8 1, .int .u8 1, .string ⟨#[49, 48, 48, 50, 51]⟩, .slice A10 pcs.length c10] 36) = W10 at *
      have hCl : w10.heap.size < W10.heap.size := kC.out.lt
      go_loopw [115] (fun iv wr => ∃ i : Nat, i ≤ pcs.length ∧ iv = .int .i64 (i : Int) ∧ Below w9.heap.size w9 wr ∧ Blk wr w10.heap.size 36 #[.int .u8 1, .int .u8 1, .string ⟨#[49, 48, 48, 50, 51]⟩, .slice A10 pcs.length c10] ∧ OwnPieces w9.heap.size wr (.slice A10 pcs.length c10) (mapTo noBar i pcs)) (fun iv _ => pcs.length - (intOf iv).toNat)
      case atStart => exact ⟨0, by omega, rfl, hbW, kC.out, by rw [mapTo_zero]; exact hQ11.out⟩
      case round =>
        obtain ⟨i, hi, rfl, hbr, hkc, hown⟩ := hrel
        by_cases hlt : i < pcs.length
        · have hlt' : decide ((i : Int) < (pcs.length : Int)) = true := by simp; omega
          have hex : ∃ gp, A10 = some ⟨gp, 0, none⟩ := by
            rcases hown.1.2 with ⟨_, h0⟩ | ⟨g', cap, cur, e, _⟩
            · rw [mapTo_len] at h0; omega
            · injection e with e1; exact ⟨g', e1⟩
          obtain ⟨gp, rfl⟩ := hex
          obtain ⟨hn1, hn2⟩ := hAlt.out gp rfl
          have hgc : w10.heap.size ≠ gp := by omega
          obtain ⟨st1, st2, bb, st3⟩ := pieces_step hown hlt
          have x3 := hkc.cell 3
          simp only [List.getElem?_toArray, List.getElem?_cons_succ, List.getElem?_cons_zero] at x3
          have st1' := Lib.hid st1
          have hkc' := Lib.hid (hkc.far (p := ⟨gp, i * 5 + 4, none⟩) hgc (.bool false))
          have hbr' := Lib.hid (hbr.setCell (p := ⟨gp, i * 5 + 4, none⟩) hn1 (.bool false))
          clear hown st1 hkc hbr
          go_wp2
          go_roundw
          case rel => exact ⟨i + 1, by omega, by go_num, hbr'.out, hkc'.out, st1'.out⟩
          case measure => simp [intOf]; omega
        · have hlt' : decide ((i : Int) < (pcs.length : Int)) = false := by simp; omega
          obtain rfl : i = pcs.length := by omega
          rw [mapTo_all] at hown
          have hown' := Lib.hid hown
          have hkc' := Lib.hid hkc
          have hbr' := Lib.hid hbr
          clear hown hkc hbr hAlt hQ11 kC hbW hCl
          rename World => w11
          replace hH := Lib.hid (hH.out.keep (Keeps.of_below hbr'.out _))
          replace hXo := Lib.hid (hXo.out.keep levelIn_inner (Keeps.of_below hbr'.out _))
          have b111 := b1r.trans (hbr'.out.mono b1r.size)
          clear b1r
          go_wp2
          go_loopw [126] (fun iv wr => ∃ i : Nat, i ≤ lps.length ∧ iv = .int .i64 (i : Int) ∧ Below w2.heap.size w11 wr ∧ Keeps (· ≠ gx) w11 wr ∧ OwnLevels w2.heap.size wr (.slice (some ⟨gx, 0, none⟩) lps.length c3) (mapTo noC i lps)) (fun iv _ => lps.length - (intOf iv).toNat)
          case atStart => exact ⟨0, by omega, rfl, Below.refl _ _, Keeps.of_below (Below.refl _ _) _, by rw [mapTo_zero]; exact hXo.out⟩
          case round =>
            obtain ⟨i, hi, rfl, hbr, hkp, hown⟩ := hrel
            by_cases hlt : i < lps.length
            · have hlt' : decide ((i : Int) < (lps.length : Int)) = true := by simp; omega
              obtain ⟨st1, st2, bb, st3⟩ := levels_step hown hlt
              have st1' := Lib.hid st1
              have hkp' := Lib.hid (hkp.trans (Keeps.set_ (P := (· ≠ gx)) _ ⟨gx, i * 5 + 4, none⟩ (.int .i64 0) (by simp)))
              have hbr' := Lib.hid (hbr.setCell (p := ⟨gx, i * 5 + 4, none⟩) hgx1 (.int .i64 0))
              clear hown st1 hkp hbr
              go_wp2
              go_roundw
              case rel => exact ⟨i + 1, by omega, by go_num, hbr'.out, hkp'.out, st1'.out⟩
              case measure => simp [intOf]; omega
            · have hlt' : decide ((i : Int) < (lps.length : Int)) = false := by simp; omega
              obtain rfl : i = lps.length := by omega
              rw [mapTo_all] at hown
              have hE := Lib.hid (levEnd_of hH.out hkp hkc'.out (by omega) hown'.out (by omega) hown hlp.out hncm.out)
              have b112 := b111.trans (hbr.mono s12)
              rename World => w12
              clear hown hkp hbr hH hXo hown' hkc' hbr' b111
              obtain ⟨⟨hAl2, hBl2, hCl2, a0, a1, b0, b1, b2, b3, d0, d1, d2, d3⟩, -⟩ := hE.out
              go_wp2_with fail
              refine (bases_any _ _ _ _ _ _ _ _ pcs _ hE.out.2.1 hE.out.2.2.1 hmo.out hE.out.2.2.2.1).mono ?_
              rw [hbm'.out]
              rintro e w13 ⟨bv, rfl, hB13, hb13⟩
              have hB := Lib.hid (IsInts.of_own hB13)
              dsimp only at hB
              obtain ⟨A13, c13, rfl, _, hc13m, _⟩ := hB.out
              rw [hbl'.out] at hB ⊢
              replace hE := Lib.hid (hE.out.stays (Stays.of hb13))
              have b113 := b112.trans (hb13.mono b112.size)
              clear hB13 hb13 a0 a1 b0 b1 b2 b3 d0 d1 d2 d3 hAl2 hBl2 hCl2 b112
              obtain ⟨⟨hAl2, hBl2, hCl2, a0, a1, b0, b1, b2, b3, d0, d1, d2, d3⟩, -⟩ := hE.out
              go_wp2_with fail
              refine (postage_any _ _ _ _ _ _ _ ls0 _ _ _ (pcs.map noBar) p _ hE.out.2.1 hE.out.2.2.1 hE.out.2.2.2.2.2.2.1 hlb0.out hmo.out hE.out.2.2.2.2.2.2.2 hE.out.2.2.2.2.1).mono ?_
              rw [hf7.out]
              rintro e w14 ⟨cv14, rfl, hC14, hb14⟩
              have hC := Lib.hid (IsInts.of_own hC14)
              dsimp only at hC
              obtain ⟨A14, c14, rfl, _, hc14m, _⟩ := hC.out
              rw [hbl'.out] at hC ⊢
              replace hB := Lib.hid (hB.out.stays (Stays.of hb14))
              replace hE := Lib.hid (hE.out.stays (Stays.of hb14))
              have b114 := b113.trans (hb14.mono b113.size)
              clear hC14 hb14 a0 a1 b0 b1 b2 b3 d0 d1 d2 d3 hAl2 hBl2 hCl2 b113
              obtain ⟨⟨hAl2, hBl2, hCl2, a0, a1, b0, b1, b2, b3, d0, d1, d2, d3⟩, -⟩ := hE.out
              go_wp2_with fail
              refine (postage_any _ _ _ _ _ _ _ ls0 _ _ _ pcs q _ hE.out.2.1 hE.out.2.2.1 hE.out.2.2.2.2.2.2.1 hlb0.out hmo.out hE.out.2.2.2.1 hE.out.2.2.2.2.2.1).mono ?_
              rw [hd6'.out]
              rintro e w15 ⟨dv, rfl, hD15, hb15⟩
              have hD := Lib.hid (IsInts.of_own hD15)
              dsimp only at hD
              obtain ⟨A15, c15, rfl, _, hc15m, _⟩ := hD.out
              rw [hdl6'.out] at hD ⊢
              replace hB := Lib.hid (hB.out.stays (Stays.of hb15))
              replace hC := Lib.hid (hC.out.stays (Stays.of hb15))
              replace hE := Lib.hid (hE.out.stays (Stays.of hb15))
              have b115 := b114.trans (hb15.mono b114.size)
              clear hD15 hb15 a0 a1 b0 b1 b2 b3 d0 d1 d2 d3 hAl2 hBl2 hCl2 b114
              go_wp2_with fail
              refine (sameInts_any _ _ _ _ _ hB.out hC.out).mono ?_
              rw [show decide (bs = bs) = true from by simp]
              rintro e w16 ⟨rfl, hb16⟩
              replace hB := Lib.hid (hB.out.stays (Stays.of hb16))
              replace hD := Lib.hid (hD.out.stays (Stays.of hb16))
              replace hE := Lib.hid (hE.out.stays (Stays.of hb16))
              have b116 := b115.trans (hb16.mono b115.size)
              clear hb16 b115 hC
              go_wp2
              go_loopw [170] (fun iv wr => ∃ i : Nat, i ≤ pcs.length ∧ iv = .int .i64 (i : Int) ∧ Below w16.heap.size w16 wr) (fun iv _ => pcs.length - (intOf iv).toNat)
              case atStart => exact ⟨0, by omega, rfl, Below.refl _ _⟩
              case round =>
                obtain ⟨i, hi, rfl, hbr⟩ := hrel
                by_cases hlt : i < pcs.length
                · have hlt' : decide ((i : Int) < (pcs.length : Int)) = true := by simp; omega
                  obtain ⟨P, g1, g2, g3, g4⟩ := hf8'.out i hlt
                  have hEr := hE.out.stays (Stays.of hbr)
                  obtain ⟨⟨hAl2, hBl2, hCl2, a0, a1, b0, b1, b2, b3, -⟩, hRr, -, hMr, -⟩ := hEr
                  obtain ⟨bb, ob, rfl, -, p1⟩ := ints_at_ (hB.out.stays (Stays.of hbr)) (i := i) (by rw [hbl'.out]; exact hlt)
                  obtain ⟨bd, od, rfl, -, p2⟩ := ints_at_ (hD.out.stays (Stays.of hbr)) (i := i) (by rw [hdl6'.out]; exact hlt)
                  rw [g3] at p1
                  rw [g4] at p2
                  obtain ⟨Ax, cx, ex, -, -, hAx⟩ := hMr
                  injection ex with ex1 ex2 ex3
                  subst ex1 ex3
                  clear ex2
                  obtain ⟨b4, off4, rfl, hb4, hrow4⟩ := hAx (by omega)
                  have hst : IsPiece _ b4 (off4 + i * 5) (pcs.getD i Piece.zero) := hrow4 i hlt
                  obtain ⟨-, -, -, -, r4, -⟩ := hst
                  obtain ⟨Ar, cr, er, -, -, hAr⟩ := hRr
                  injection er with er1 er2 er3
                  subst er1 er3
                  clear er2
                  obtain ⟨b1r, o1r, rfl, hb1r, hrr⟩ := hAr (by rw [madeRates_len]; omega)
                  have hrt : IsRate _ b1r (o1r + 0 * 3) ((madeRates [] nz ns br nc).getD 0 Rate.zero) := hrr 0 (by rw [madeRates_len]; omega)
                  rw [getD_of _ _ _ (by rw [madeRates_len]; omega)] at hrt
                  simp only [madeRates, List.getElem_map, List.getElem_range, Nat.zero_mul, Nat.add_zero] at hrt
                  obtain ⟨-, -, p4, -, -⟩ := hrt
                  have hnc1 : 1 ≤ nc := z2.1
                  clear hrow4 hAx hrr hAr g3 g4
                  have hbr' := Lib.hid hbr
                  clear hbr
                  generalize (pcs.getD i Piece.zero).barred = ba at *
                  cases ba
                  · simp only [Bool.false_eq_true, if_false] at p2
                    go_wp2
                    go_quiet (fail)
                    go_wp2
                    go_roundw
                    case rel => exact ⟨i + 1, by omega, by go_num, hbr'.out.trans ((drewN_below _ _).mono hbr'.out.size)⟩
                    case measure => simp [intOf]; omega
                  · simp only [if_true] at p2
                    go_wp2
                    go_quiet (fail)
                    go_wp2
                    go_roundw
                    case rel => exact ⟨i + 1, by omega, by go_num, hbr'.out.trans ((drewN_below _ _).mono hbr'.out.size)⟩
                    case measure => simp [intOf]; omega
                · have hlt' : decide ((i : Int) < (pcs.length : Int)) = false := by simp; omega
                  go_wp2
                  go_ret
                  exact ⟨rfl, b116.trans (hbr.mono b116.size)⟩
end Go.Proofs.Ythbnbfeolfkkaaa
