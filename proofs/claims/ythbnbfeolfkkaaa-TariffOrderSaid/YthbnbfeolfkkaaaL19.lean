/- The walk of TariffOrder: it returns true. -/
import Derived.Test.YthbnbfeolfkkaaaL3
import Derived.Test.YthbnbfeolfkkaaaL5
import Derived.Test.YthbnbfeolfkkaaaL10
import Derived.Test.YthbnbfeolfkkaaaL18
import Derived.Test.YthbnbfeolfkkaaaMadeW2
import Derived.Test.YthbnbfeolfkkaaaOrderP
import Derived.Deep.DeepCutAuto
namespace Go.Proofs.Ythbnbfeolfkkaaa
open Go.RowKit Go.Maps
attribute [local go_sem ↓] Go.wp_at_zero Go.wp_at_succ
attribute [local go_sem] World.cell?_alloc_lt World.frozen?_alloc_past

/-- an append at a step of a region that draws its order; nothing may come -/
theorem step_append_at {P : Program} {w : World} {ops : Array Oper} {o : Oper} {a : Act} {K : Act → World → Prop} {Q : Exit → Act → World → Prop} {E : Prop} (hgd : o.guard = none) (s x : Operand) (t : TypeId)
    (ho : o.op = .call { callee := .builtin .append, args := #[s, x], argTypes := #[t, t] })
    (base : Nat) (e : TypeId) (i : TypeInfo) (z : Value) (size bytes : Nat) (ht : P.underlying t = some (.slice e)) (hi : P.info? e = some i) (hz : i.zero = some z)
    (hsize : i.size = size) (hby : i.bytes = bytes) (hzs : z.cells.size = size) (hsz : 0 < size)
    (v : Value) (n : Nat) (xs : List Value) (hs : a.eval s = v) (hown : w.ownsRow base e size v n xs)
    (ad : Addr) (m c : Nat) (news : List Value) (hx : a.eval x = .slice (some ad) m c) (hl : news.length = m * size) (hnews : ∀ j u, news[j]? = some u → w.cell? (ad.add j) = some u) (h1 : ∀ u ∈ news, u.oneCell' = true)
    (hm : 0 < n + m) (h63 : n + m ≤ maxLen) (hbytes : (n + m) * bytes ≤ 140737488355328) (hbase : base ≤ w.heap.size)
    (h : ∀ g cap w', w'.ownsRow base e size (.slice (some ⟨g, 0, none⟩) (n + m) cap) (n + m) (xs ++ news) → w.grownBy w' v.ownBlock → (v.ownBlock = some g ∨ g = w.heap.size) → g < w'.heap.size → K (a.put o.dst (.slice (some ⟨g, 0, none⟩) (n + m) cap)) w') :
    if Region.wanted o (yielded ops a.tmps) = true then Oper.wp P o a w K Q else E := by
  have hw : Region.wanted o (yielded ops a.tmps) = true := by simp [Region.wanted, hgd]
  rw [if_pos hw]
  obtain ⟨v', w', hr, h2, h3, h4, h5⟩ := run_append_own_at (P := P) w base t o.type e i z size bytes ht hi hz hsize hby hzs hsz v n xs hown ad m c news hl hnews h1 h63 hbytes hbase
  unfold Oper.wp execOp
  simp only [ho, resolve, invoke, builtin, Sem.run_bind, Sem.run_pure, Result.andThen_ok, List.map_toArray, List.map_cons, List.map_nil, hs, hx, hr]
  have h2' := h2
  rcases h2.2 with ⟨_, h0⟩ | ⟨g, cap, cur, rfl, hb, hg, _⟩
  · omega
  · refine h g cap w' h2' h3 ?_ (Array.getElem?_eq_some_iff.1 hg).1
    rcases h5 with h5 | h5
    · exact .inl h5.symm
    · exact .inr (by simpa [Value.ownBlock] using h5)
theorem nat_modO {x n : Int} (hn : 1 ≤ n) : ∃ k : Nat, x % n = (k : Int) ∧ (k : Int) < n := by
  have h0 : 0 ≤ x % n := Int.emod_nonneg _ (by omega)
  have h1 : x % n < n := Int.emod_lt_of_pos _ (by omega)
  exact ⟨(x % n).toNat, by omega, by omega⟩
theorem rateSmall_m (ps : List Int) (z s : Nat) (bar : Int) (c : Nat) (hz : 1 ≤ z) (hz3 : z ≤ 3) (hs : 1 ≤ s) (hs3 : s ≤ 3) : ∀ r ∈ madeRates ps z s bar c, RateSmall r := by
  intro r hr
  obtain ⟨k, _, rfl⟩ := List.mem_map.1 hr
  refine ⟨by simp only [madeSteps_len]; omega, by simp only [madeSteps_len]; omega, fun q hq => ?_⟩
  obtain ⟨j, _, rfl⟩ := List.mem_map.1 hq
  simp only [madeCents_len]
  omega

theorem drop_app {β : Type} (x y : List β) (h : x.length = 3) (k : Nat) : (x ++ y).drop ((k + 1) * 3) = y.drop (k * 3) := by
  rw [List.drop_append, h, List.drop_eq_nil_of_le (by rw [h]; omega), List.nil_append]
  congr 1; omega
theorem take_app {β : Type} (x y : List β) (h : x.length = 3) (k : Nat) : (x ++ y).take ((k + 1) * 3) = x ++ y.take (k * 3) := by
  rw [List.take_append, h, List.take_of_length_le (by rw [h]; omega)]
  congr 2; omega
theorem flat_drop {α β : Type} (f : α → List β) (hf : ∀ a, (f a).length = 3) : ∀ (l : List α) (k : Nat), (l.drop k).flatMap f = (l.flatMap f).drop (k * 3)
  | l, 0 => by simp
  | [], k + 1 => by simp
  | a :: l, k + 1 => by
    rw [List.drop_succ_cons, flat_drop f hf l k, List.flatMap_cons, drop_app (f a) _ (hf a) k]
theorem flat_take {α β : Type} (f : α → List β) (hf : ∀ a, (f a).length = 3) : ∀ (l : List α) (k : Nat), (l.take k).flatMap f = (l.flatMap f).take (k * 3)
  | l, 0 => by simp
  | [], k + 1 => by simp
  | a :: l, k + 1 => by
    rw [List.take_succ_cons, List.flatMap_cons, flat_take f hf l k, List.flatMap_cons, take_app (f a) _ (hf a) k]
theorem Blk.drewO {w : World} {g : Nat} {t : TypeId} {cs : Array Value} (h : Blk w g t cs) : Blk w.drew g t cs := h
theorem add_plain (g o j : Nat) : (⟨g, o, none⟩ : Addr).add j = ⟨g, o + j, none⟩ := by unfold Addr.add; split <;> simp_all
theorem and_one_u8 : ∀ n : Nat, n < 256 → bits .and .u8 (n : Int) 1 = ((n % 2 : Nat) : Int) := by decide +kernel
/-- what TariffOrder holds in memory -/
def OrdHas (w : World) (vA vB vC : Nat) (rv zv qv ru zu : Value) (cls : Int) (o : ByteArray) (rs : List Rate) (zs : List Zone) (pcs : List Piece) (rs' : List Rate) (zs' : List Zone) : Prop :=
  (vA < w.heap.size ∧ vB < w.heap.size ∧ vC < w.heap.size ∧ w.cell? ⟨vA, 0, none⟩ = some rv ∧ w.cell? ⟨vA, 1, none⟩ = some zv ∧ w.cell? ⟨vB, 0, none⟩ = some (.int .u8 cls) ∧ w.cell? ⟨vB, 1, none⟩ = some (.int .u8 1) ∧ w.cell? ⟨vB, 2, none⟩ = some (.string o) ∧ w.cell? ⟨vB, 3, none⟩ = some qv ∧ w.cell? ⟨vC, 0, none⟩ = some ru ∧ w.cell? ⟨vC, 1, none⟩ = some zu) ∧
    IsRates w rv rs ∧ IsZones w zv zs ∧ IsPieces w qv pcs ∧ IsRates w ru rs' ∧ IsZones w zu zs'
theorem OrdHas.stays {w w' : World} {vA vB vC : Nat} {rv zv qv ru zu : Value} {cls : Int} {o : ByteArray} {rs : List Rate} {zs : List Zone} {pcs : List Piece} {rs' : List Rate} {zs' : List Zone} (h : OrdHas w vA vB vC rv zv qv ru zu cls o rs zs pcs rs' zs') (hs : Stays w w') : OrdHas w' vA vB vC rv zv qv ru zu cls o rs zs pcs rs' zs' := by
  obtain ⟨⟨h1, h2, h3, e1, e2, e3, e4, e5, e6, e7, e8⟩, f1, f2, f3, f4, f5⟩ := h
  exact ⟨⟨Nat.lt_of_lt_of_le h1 hs.1, Nat.lt_of_lt_of_le h2 hs.1, Nat.lt_of_lt_of_le h3 hs.1, (hs.2 _ h1).trans e1, (hs.2 _ h1).trans e2, (hs.2 _ h2).trans e3, (hs.2 _ h2).trans e4, (hs.2 _ h2).trans e5, (hs.2 _ h2).trans e6, (hs.2 _ h3).trans e7, (hs.2 _ h3).trans e8⟩, f1.stays hs, f2.stays hs, f3.stays hs, f4.stays hs, f5.stays hs⟩
theorem bases_none {rs : List Rate} {zs : List Zone} {m : Mailing} (h : right rs zs = true) (hm : mailing m = true) (hr : rateOf m.cls rs = none) : basesRes rs zs m = ([], 6) := by
  unfold basesRes
  rw [if_neg (by rw [h, hm]; simp)]
  unfold basesBy
  rw [hr]
/-- what the region of TariffOrder leaves -/
theorem order_meet {WX w5 w6 w7 : World} {vC g g2 n2 cap2 : Nat} {rv zv : Value} {rs : List Rate} {zs : List Zone} {V : World}
    (hX5 : Below WX.heap.size WX w5) (hV : V = w5.alloc (.cells #[] 67) ∨ V = (w5.alloc (.cells #[] 67)).drew) (h1 : V.grownBy w6 (some w5.heap.size)) (hg5 : w5.heap.size ≤ g) (h2 : w6.grownBy w7 (some g)) (hC : Blk w5 vC 25 #[rv, zv]) (hXC : WX.heap.size ≤ vC)
    (hR : IsRatesP (fun b => b ≠ vC ∧ b < w5.heap.size) w5 rv rs) (hO : w7.ownsRow w5.heap.size 67 3 (.slice (some ⟨g2, 0, none⟩) n2 cap2) zs.length (zs.flatMap zoneCells)) (hin : ∀ z ∈ zs, z.frm.size ≤ maxLen ∧ z.dst.size ≤ maxLen) :
    Below WX.heap.size WX (w7.setCell ⟨vC, 1, none⟩ (.slice (some ⟨g2, 0, none⟩) n2 cap2)) ∧ Blk (w7.setCell ⟨vC, 1, none⟩ (.slice (some ⟨g2, 0, none⟩) n2 cap2)) vC 25 #[rv, .slice (some ⟨g2, 0, none⟩) n2 cap2] ∧
      IsRatesP (fun b => b ≠ vC ∧ b < w5.heap.size) (w7.setCell ⟨vC, 1, none⟩ (.slice (some ⟨g2, 0, none⟩) n2 cap2)) rv rs ∧ OwnZones w5.heap.size (w7.setCell ⟨vC, 1, none⟩ (.slice (some ⟨g2, 0, none⟩) n2 cap2)) (.slice (some ⟨g2, 0, none⟩) n2 cap2) zs := by
  have hcl := hC.lt
  have hVb : Below w5.heap.size w5 V := by
    rcases hV with rfl | rfl
    · exact (Below.refl _ _).alloc (Nat.le_refl _) _
    · exact ((Below.refl _ _).alloc (Nat.le_refl _) _).drew
  have sV := hVb.size
  have h56 : Below w5.heap.size w5 w6 := hVb.grown h1 (by omega) (fun h e => by injection e with e; omega)
  have s6 := h56.size
  have h57 : Below w5.heap.size w5 w7 := h56.grown h2 (by omega) (fun h e => by injection e with e; omega)
  have hC7 := hC.below h57 hcl
  have s7 := h57.size
  refine ⟨(hX5.trans (h57.mono hX5.size)).setCell hXC _, hC7.set_ 1 _, ?_, ?_⟩
  · refine hR.keep ⟨by simp [World.setCell]; omega, fun b hb hp => ?_⟩ (fun _ _ h => h)
    rw [Below.heap_setCell _ _ _ _ (by simp; exact hp.1), h57.block b hp.2]
  · have h7 : OwnZones w5.heap.size w7 (.slice (some ⟨g2, 0, none⟩) n2 cap2) zs := ⟨hO, fun z hz => hin z hz⟩
    exact h7.keep zoneIn_inner (Keeps.set_ _ _ _ (by simp; omega))
set_option maxRecDepth 100000 in
set_option maxHeartbeats 16000000 in
theorem order_any (n : Nat) (ps l : List Int) (pv lv : Value) (cls bb : Int) (w : World) (hn : n < 4294967296) (hp : IsKs .u8 w pv ps) (hps : ∀ x ∈ ps, 0 ≤ x ∧ x ≤ 255) (hl : IsKs .u16 w lv l) (hls : ∀ x ∈ l, 0 ≤ x ∧ x ≤ 65535) (hc0 : 0 ≤ cls) (hc1 : cls ≤ 255) (hb0 : 0 ≤ bb) (hb1 : bb ≤ 255) :
    Calls Try.prog 9 #[.int .u32 (n : Int), pv, .int .u8 cls, lv, .int .u8 bb] w fun e w' => e = .returned (.bool true) ∧ Below w.heap.size w w' := by
  have hpp := Lib.hid hp
  have hll := Lib.hid hl
  have hps' := Lib.hid hps
  have hls' := Lib.hid hls
  obtain ⟨Ap, cp, rfl, _, hpm, hAp⟩ := hp
  obtain ⟨Al, cl, rfl, _, hlm, hAl⟩ := hl
  clear hAp hAl hps hls
  go_enter Try.func9, Try.ntmps9
  go_wp2_with fail
  refine (awake_any _).mono ?_
  rintro e w1 ⟨rfl, hb1x⟩
  go_wp2_with fail
  refine (made_own n _ _ _ _ ps _ _ hn (hpp.out.stays (Stays.of hb1x)) hps'.out rfl rfl rfl rfl).mono ?_
  rintro e w2 ⟨rv, zv, rfl, hR2, hZ2, hb2⟩
  have z1 : 1 ≤ 1 + n / 16 % 4 % 3 ∧ 1 + n / 16 % 4 % 3 ≤ 3 := by omega
  have z2 : 1 ≤ n % 4 % 3 + 1 ∧ n % 4 % 3 + 1 ≤ 3 := by omega
  have z3 : 1 ≤ n / 4 % 4 % 3 + 1 ∧ n / 4 % 4 % 3 + 1 ≤ 3 := by omega
  have z4 : n / 64 % 32 ≤ 31 := by omega
  generalize 1 + n / 16 % 4 % 3 = nz at *
  generalize n % 4 % 3 + 1 = nc at *
  generalize n / 4 % 4 % 3 + 1 = ns at *
  generalize n / 64 % 32 = br at *
  generalize n / 2048 = m at *
  have b12 : Below w.heap.size w w2 := hb1x.trans (hb2.mono hb1x.size)
  have s12 := b12.size
  have hrt := Lib.hid (right_made hps'.out m nz ns br nc z1.1 z1.2 z3.1 z3.2 z2.1 z2.2 (by omega) (by omega))
  have hcz := Lib.hid (countZones_rev ps nz ns br nc z3.1 z2.1)
  have hrn := Lib.hid (fun (k : Int) (hk : (nc : Int) < k) => rateOf_none_made ps nz ns br nc hk)
  have hbm := Lib.hid (fun (k : Nat) (hk : k < nc) country o pcs hm hg => bases_made hps'.out m nz ns br nc z1.1 z1.2 z3.1 z3.2 z2.2 (by omega) (by omega) k hk country o pcs hm hg)
  have hsm := Lib.hid (rateSmall_m ps nz ns br nc z1.1 z1.2 z3.1 z3.2)
  have hrl := Lib.hid (madeRates_len ps nz ns br nc)
  have hzl := Lib.hid (madeRows_len m nz 9)
  have hR2h := Lib.hid hR2.plain
  have hZ2h := Lib.hid (OwnZones.zones hZ2)
  obtain ⟨A1, c1, rfl, _, _, _⟩ := hR2
  obtain ⟨A2, c2, rfl⟩ := hZ2.form_
  clear hZ2
  rw [hrl.out] at hR2h ⊢
  generalize madeRates ps nz ns br nc = rs at *
  generalize madeRows m nz 9 = zs at *
  generalize hlz : zs.length = lz at *
  have hlz' := Lib.hid hlz
  clear hlz
  obtain ⟨kk, hkk, hkk2⟩ := nat_modO (x := cls) (n := 3) (by omega)
  have hmail := mail_any cls _ l w2 hc0 hc1 (hll.out.stays (Stays.of b12)) hls'.out
  have emf : mailOf cls l = ⟨(kk : Int) + 1, 1, ⟨#[49, 48, 48, 50, 51]⟩, mailPieces 0 (l.take 2000)⟩ := by unfold mailOf; congr 1; omega
  have gm1 : mailing ⟨(kk : Int) + 1, 1, ⟨#[49, 48, 48, 50, 51]⟩, mailPieces 0 (l.take 2000)⟩ = true := by rw [← emf]; exact mailing_mail _ l hls'.out
  rw [emf] at hmail
  have gm2 := mail_grams (l.take 2000) 0 (fun x hx => hls'.out x (List.mem_of_mem_take hx))
  have gm3 : (mailPieces 0 (l.take 2000)).length ≤ 2000 := by rw [mailPieces_len]; exact List.length_take_le _ _
  generalize mailPieces 0 (l.take 2000) = pcs at *
  have hmail' := Lib.hid hmail
  have gm1' := Lib.hid gm1
  have gm2' := Lib.hid gm2
  clear hmail emf gm1 gm2 hkk
  go_wp2_with fail
  refine hmail'.out.mono ?_
  rintro e w3 ⟨qv, rfl, hM3, hb3⟩
  dsimp only at hM3 ⊢
  have hM3h := Lib.hid (OwnPieces.pieces hM3)
  obtain ⟨A3, c3, rfl⟩ := hM3.form_
  clear hM3 hmail'
  have hWX : Below w3.heap.size w3 ((w3.alloc (.cells #[.slice A1 nc c1, .slice A2 lz c2] 25)).alloc (.cells #[.int .u8 ((kk : Int) + 1), .int .u8 1, .string ⟨#[49, 48, 48, 50, 51]⟩, .slice A3 pcs.length c3] 36)) := ((Below.refl _ _).alloc (Nat.le_refl _) _).alloc (by simp) _
  have kA : Blk ((w3.alloc (.cells #[.slice A1 nc c1, .slice A2 lz c2] 25)).alloc (.cells #[.int .u8 ((kk : Int) + 1), .int .u8 1, .string ⟨#[49, 48, 48, 50, 51]⟩, .slice A3 pcs.length c3] 36)) w3.heap.size 25 #[.slice A1 nc c1, .slice A2 lz c2] := (Blk.new _ _ _).alloc _
  have kB : Blk ((w3.alloc (.cells #[.slice A1 nc c1, .slice A2 lz c2] 25)).alloc (.cells #[.int .u8 ((kk : Int) + 1), .int .u8 1, .string ⟨#[49, 48, 48, 50, 51]⟩, .slice A3 pcs.length c3] 36)) (w3.heap.size + 1) 36 #[.int .u8 ((kk : Int) + 1), .int .u8 1, .string ⟨#[49, 48, 48, 50, 51]⟩, .slice A3 pcs.length c3] := Blk.new_at _ _ _ _ (by simp)
  have b13 : Below w.heap.size w w3 := b12.trans (hb3.mono s12)
  have h2X : Below w2.heap.size w2 _ := hb3.trans (hWX.mono hb3.size)
  have hRX := Lib.hid (hR2h.out.stays (Stays.of h2X))
  have hZX := Lib.hid (hZ2h.out.stays (Stays.of h2X))
  go_wp2_with fail
  refine (copyTariff_any _ _ rs zs _ hRX.out hZX.out (by rw [hrl.out]; omega) (by rw [hrl.out]; omega) hsm.out (by rw [hlz'.out]; exact hzl.out.1) (by rw [hlz'.out]; have := hzl.out.2; omega)).mono ?_
  rintro e w4 ⟨rv2, zv2, rps, M, rfl, hOR, hmp, hRP, hOZ, hM1, hM2, hbw4⟩
  generalize ((w3.alloc (.cells #[.slice A1 nc c1, .slice A2 lz c2] 25)).alloc (.cells #[.int .u8 ((kk : Int) + 1), .int .u8 1, .string ⟨#[49, 48, 48, 50, 51]⟩, .slice A3 pcs.length c3] 36)) = WX at *
  have hrpl : rps.length = nc := by rw [← hrl.out, ← hmp, List.length_map]
  have hmp' := Lib.hid hmp
  have hlz1 : 1 ≤ lz := hzl.out.1
  have hlz10 : lz ≤ 10 := by have := hzl.out.2; omega
  obtain ⟨A7, c7, rfl, _, _, hA7⟩ := hRP
  obtain ⟨b7, o7, rfl, hb7l, hb7P, -⟩ := hA7 (by rw [hrl.out]; omega)
  have hOZf : ∃ gz c6, zv2 = .slice (some ⟨gz, 0, none⟩) lz c6 ∧ M ≤ gz ∧ gz < w4.heap.size ∧ lz ≤ c6 ∧ c6 ≤ maxLen := by
    rcases hOZ.1.2 with ⟨_, h0⟩ | ⟨g, cap, cur, e, hb, hg, hnc, hcm, _⟩
    · rw [hlz'.out] at h0; omega
    · exact ⟨g, cap, by rw [e, hlz'.out], hb, (Array.getElem?_eq_some_iff.1 hg).1, by rw [hlz'.out] at hnc; exact hnc, hcm⟩
  obtain ⟨gz, c6, rfl, hgz1, hgz2, hc6, hc6m⟩ := hOZf
  rw [hrl.out] at hOR ⊢
  have hU : Blk (w4.alloc (.cells #[.slice (some ⟨b7, o7, none⟩) nc c7, .slice (some ⟨gz, 0, none⟩) lz c6] 25)) w4.heap.size 25 #[.slice (some ⟨b7, o7, none⟩) nc c7, .slice (some ⟨gz, 0, none⟩) lz c6] := Blk.new _ _ _
  have hUb : Below w4.heap.size w4 (w4.alloc (.cells #[.slice (some ⟨b7, o7, none⟩) nc c7, .slice (some ⟨gz, 0, none⟩) lz c6] 25)) := (Below.refl _ _).alloc (Nat.le_refl _) _
  have hOR4 := Lib.hid (OwnRates.no hOR hUb)
  have hOZ4 := Lib.hid (hOZ.keep zoneIn_inner (Keeps.of_below hUb _))
  clear hOR hOZ hmp hA7
  go_wp2_with fail
  refine (reverse28_any (rateNo_inner _) (rateNo_form _) WX.heap.size _ rps _ hOR4.out (by omega)).mono ?_
  rintro e w5 ⟨rfl, hOR5, hK5, hb5⟩
  generalize (w4.alloc (.cells #[.slice (some ⟨b7, o7, none⟩) nc c7, .slice (some ⟨gz, 0, none⟩) lz c6] 25)) = W4 at *
  have s45 := hUb.size
  have hX4 : Below WX.heap.size WX W4 := hbw4.trans (hUb.mono hbw4.size)
  have hX5 : Below WX.heap.size WX w5 := hX4.trans hb5
  have s5 := hK5.size
  have hUl := hU.lt
  have hU5 := Lib.hid (show Blk w5 w4.heap.size 25 #[.slice (some ⟨b7, o7, none⟩) nc c7, .slice (some ⟨gz, 0, none⟩) lz c6] from (hK5.block w4.heap.size hUl (by simp [Value.ownBlock]; omega)).trans hU)
  have hOZ5 := Lib.hid (hOZ4.out.far (fun _ _ _ _ _ h => h) fun g e => hK5.block g (by
    have := (hOZ4.out.block_lt e).2; exact this) (by
    have h1 : g = gz := by simpa [Value.ownBlock] using e.symm
    subst h1
    simp [Value.ownBlock]
    omega))
  have hRP5 := Lib.hid (ratesP_no hOR5 (by simp [Value.ownBlock]; omega))
  rw [List.map_reverse, hmp'.out] at hRP5
  clear hOR4 hOZ4 hU hOR5 hK5 hb5
  have u0 := hU5.out.cell 0
  have u1 := hU5.out.cell 1
  have uf := hU5.out.frozen 1
  simp only [List.getElem?_toArray, List.getElem?_cons_succ, List.getElem?_cons_zero] at u0 u1
  go_wp2_with fail
  refine (pick_any _ _ _ (by omega) (by omega)).mono ?_
  rintro e w' ⟨rfl, rfl⟩
  obtain ⟨k, hk, hk2⟩ := nat_modO (x := bb) (n := (lz : Int)) (by omega)
  have hk' := Lib.hid hk
  rw [hk]
  clear hk
  go_wp2_with fail
  have hkl : k < lz := by omega
  obtain ⟨i0, hi0, hz0, hz1x, hz2x⟩ := info_parts zone_info
  have ho0 : Hid ((w5.alloc (.cells #[] 67)).ownsRow w5.heap.size 67 3 (.slice (some ⟨w5.heap.size, 0, none⟩) 0 0) 0 []) := Lib.hid ⟨by simp, .inr ⟨w5.heap.size, 0, #[], rfl, Nat.le_refl _, heap_alloc_new _ _, Nat.le_refl _, Nat.zero_le _, by simp, by simp⟩⟩
  have hcell : ∀ idx, idx < lz * 3 → w5.cell? ⟨gz, idx, none⟩ = (zs.flatMap zoneCells)[idx]? := fun idx hi => by
    have h1 := hOZ5.out.1
    rw [hlz'.out] at h1
    exact h1.cellAt idx hi
  have hn1 : Hid (∀ j u, ((zs.drop k).flatMap zoneCells)[j]? = some u → w5.cell? ((⟨gz, k * 3, none⟩ : Addr).add j) = some u) := Lib.hid fun j u hu => by
    rw [flat_drop zoneCells (fun _ => rfl), List.getElem?_drop] at hu
    rw [add_plain, hcell _ (by
      have h := (List.getElem?_eq_some_iff.1 hu).1
      have h2 := len_flat (cells := zoneCells) (k := 3) (fun _ => rfl) zs
      rw [hlz'.out] at h2
      omega)]
    exact hu
  have hn2 : Hid (∀ j u, ((zs.take k).flatMap zoneCells)[j]? = some u → w5.cell? ((⟨gz, 0, none⟩ : Addr).add j) = some u) := Lib.hid fun j u hu => by
    rw [flat_take zoneCells (fun _ => rfl), List.getElem?_take] at hu
    split at hu
    · rw [add_plain, Nat.zero_add, hcell _ (by omega)]
      exact hu
    · cases hu
  have hl1 : Hid (((zs.drop k).flatMap zoneCells).length = (lz - k) * 3) := Lib.hid (by rw [len_flat (k := 3) (fun _ => rfl), List.length_drop, hlz'.out])
  have hl2 : Hid (((zs.take k).flatMap zoneCells).length = k * 3) := Lib.hid (by rw [len_flat (k := 3) (fun _ => rfl), List.length_take, hlz'.out]; congr 1; omega)
  have hgz5 : gz < w5.heap.size := by omega
  have hxa : ∀ (o : Obj), (w5.alloc o).cell? ⟨w4.heap.size, 1, none⟩ = some (.slice (some ⟨gz, 0, none⟩) lz c6) := fun o => (World.cell?_alloc_lt _ _ _ (by show w4.heap.size < w5.heap.size; omega)).trans u1
  have hkc : k ≤ c6 := by omega
  have sd1 : 0 + (lz - k) ≤ maxLen := by unfold maxLen; omega
  have sd2 : (0 + (lz - k)) * 40 ≤ 140737488355328 := by omega
  have sd3 : lz - k + k ≤ maxLen := by unfold maxLen; omega
  have sd4 : (lz - k + k) * 40 ≤ 140737488355328 := by omega
  have hkle : k ≤ lz := by omega
  have hck : ¬ c6 = k := by omega
  have hsum : lz - k + k = lz := by omega
  have hgn5 : some gz ≠ some w5.heap.size := by simp; omega
  have hgn4 : some w4.heap.size ≠ some w5.heap.size := by simp; omega
  clear hcell
  have hzin : Hid (∀ z ∈ zs.drop k ++ zs.take k, z.frm.size ≤ maxLen ∧ z.dst.size ≤ maxLen) := Lib.hid fun z hz => by
    refine hOZ5.out.2 z ?_
    rcases List.mem_append.1 hz with h | h
    · exact List.mem_of_mem_drop h
    · exact List.mem_of_mem_take h
  have hzlen : Hid ((zs.drop k ++ zs.take k).length = lz) := Lib.hid (by rw [List.length_append, List.length_drop, List.length_take, hlz'.out]; omega)
  go_upto_region 7 with fail
  go_cut [13] (fun s13 wx => ∃ g8 c8, s13 = .pointer (some ⟨w4.heap.size, 0, none⟩) ∧ Below WX.heap.size WX wx ∧ Blk wx w4.heap.size 25 #[.slice (some ⟨b7, o7, none⟩) nc c7, .slice (some ⟨g8, 0, none⟩) lz c8] ∧
      IsRatesP (fun b => b ≠ w4.heap.size ∧ b < w5.heap.size) wx (.slice (some ⟨b7, o7, none⟩) nc c7) rs.reverse ∧ OwnZones w5.heap.size wx (.slice (some ⟨g8, 0, none⟩) lz c8) (zs.drop k ++ zs.take k))
  case first =>
    go_region_law (first | (refine step_append_at (by rfl) (.tmp 38) (.tmp 42) 23 (by rfl) w5.heap.size 67 i0 (.agg #[.string ⟨#[]⟩, .string ⟨#[]⟩, .int .i64 0]) 3 40 Try.underlying23 hi0 hz0 hz1x hz2x rfl (by decide) (.slice (some ⟨w5.heap.size, 0, none⟩) 0 0) 0 [] (by rfl) (by first | exact ho0.out.drew | exact ho0.out) ⟨gz, k * 3, none⟩ (lz - k) (c6 - k) _ (by rfl) hl1.out (by intro j u hu; exact (World.cell?_alloc_lt _ _ _ (by rw [add_plain]; exact hgz5)).trans (hn1.out j u hu)) (oneZones _) (by omega) sd1 sd2 (by show w5.heap.size ≤ (w5.alloc (.cells #[] 67)).heap.size; simp) ?_; intro g cap w6 hown1 hgr1 hat1 hlt1; simp only [Nat.zero_add, List.nil_append] at hown1 ⊢; have hown1' := Lib.hid hown1; clear hown1; have hUk := Lib.hid (Blk.grown (by first | exact (hU5.out.alloc _).drewO | exact hU5.out.alloc _) hgr1 hgn4); have y0 := hUk.out.cell 0; have y1 := hUk.out.cell 1; simp only [List.getElem?_toArray, List.getElem?_cons_succ, List.getElem?_cons_zero] at y0 y1; have hgrow1 := Lib.hid hgr1; have hg5 : w5.heap.size ≤ g := (by rcases hat1 with h | h; (have h9 : w5.heap.size = g := by simpa [Value.ownBlock] using h); omega; (rw [h]; show w5.heap.size ≤ (w5.alloc (.cells #[] 67)).heap.size; simp)); have sz6 : w5.heap.size + 1 ≤ w6.heap.size := (by have h := hgr1.size; simp at h; exact h); clear hgr1) | (refine step_append_at (by rfl) (.tmp 43) (.tmp 47) 23 (by rfl) w5.heap.size 67 i0 (.agg #[.string ⟨#[]⟩, .string ⟨#[]⟩, .int .i64 0]) 3 40 Try.underlying23 hi0 hz0 hz1x hz2x rfl (by decide) (.slice (some ⟨g, 0, none⟩) (lz - k) cap) (lz - k) _ (by rfl) (by exact hown1'.out) ⟨gz, 0, none⟩ k c6 _ (by rfl) hl2.out (by intro j u hu; exact World.grownBy.cell hgrow1.out ((World.cell?_alloc_lt _ _ _ (by rw [add_plain]; exact hgz5)).trans (hn2.out j u hu)) (by rw [add_plain]; exact hgn5)) (oneZones _) (by omega) sd3 sd4 (by first | omega | (simp; omega)) ?_; intro g2 cap2 w7 hown2 hgr2 hat2 hlt2; rw [hsum] at hown2 ⊢; have hUk7 := Lib.hid (Blk.grown hUk.out hgr2 (by simp [Value.ownBlock]; omega)); have v1 := hUk7.out.cell 1; have vf := hUk7.out.frozen 1; simp only [List.getElem?_toArray, List.getElem?_cons_succ, List.getElem?_cons_zero] at v1))
    all_goals
      have hM := order_meet (zs := zs.drop k ++ zs.take k) hX5 (by first | exact .inr rfl | exact .inl rfl) hgrow1.out hg5 hgr2 hU5.out (by omega) hRP5.out (by rw [hzlen.out, List.flatMap_append]; exact hown2) hzin.out
      have hM' := Lib.hid hM
      clear hM hown2 hgr2 hat2 hlt2 hat1 hlt1
      go_wp2_with fail
      go_meet
      exact ⟨_, _, rfl, hM'.out.1, hM'.out.2.1, hM'.out.2.2.1, hM'.out.2.2.2⟩
  case rest =>
    obtain ⟨g8, c8, rfl, hbx, hUx, hRx, hZx⟩ := hcut
    have kAx := kA.below hbx kA.lt
    have kBx := kB.below hbx kB.lt
    have hRt := Lib.hid (hRX.out.stays (Stays.of hbx))
    have hZt := Lib.hid (hZX.out.stays (Stays.of hbx))
    have hMt := Lib.hid ((hM3h.out.stays (Stays.of hWX)).stays (Stays.of hbx))
    have s3X := kB.lt
    have b1X : Below w.heap.size w WX := b13.trans (hWX.mono b13.size)
    have bFc : Below w.heap.size w wc := b1X.trans (hbx.mono b1X.size)
    have sX5 := hX5.size
    have hmo : Hid ((⟨#[49, 48, 48, 50, 51]⟩ : ByteArray).size ≤ maxLen) := Lib.hid (small_max (by decide))
    obtain ⟨nb, rfl⟩ : ∃ nb : Nat, bb = (nb : Int) := ⟨bb.toNat, by omega⟩
    have hbits := and_one_u8 nb (by omega)
    rcases Nat.mod_two_eq_zero_or_one nb with hpar | hpar
    · rw [hpar] at hbits
      have hH : Hid (OrdHas wc w3.heap.size (w3.heap.size + 1) w4.heap.size (.slice A1 nc c1) (.slice A2 lz c2) (.slice A3 pcs.length c3) (.slice (some ⟨b7, o7, none⟩) nc c7) (.slice (some ⟨g8, 0, none⟩) lz c8) ((kk : Int) + 1) ⟨#[49, 48, 48, 50, 51]⟩ rs zs pcs rs.reverse (turned k false zs)) := Lib.hid ⟨⟨kAx.lt, kBx.lt, hUx.lt, kAx.cell 0, kAx.cell 1, kBx.cell 0, kBx.cell 1, kBx.cell 2, kBx.cell 3, hUx.cell 0, hUx.cell 1⟩, hRt.out, hZt.out, hMt.out, hRx.plain, OwnZones.zones hZx⟩
      have hbp := Lib.hid (fun M => bases_perm (List.reverse_perm rs) (turned_perm k false zs) hcz.out hrt.out M)
      have bF := bFc
      clear kAx kBx hRt hZt hMt hUx hRx hZx hbx hU5 hOZ5 hRP5 u0 u1 uf kA kB hRX hZX hM3h hWX hX5 hX4 bFc b1X ho0 hn1 hn2 hl1 hl2 hxa
      by_cases hkn : kk < nc
      · have hgt : decide ((nc : Int) < (kk : Int) + 1) = false := decide_eq_false (by omega)
        obtain ⟨bs, hrs⟩ : ∃ bs, Hid (basesRes rs zs ⟨(kk : Int) + 1, 1, ⟨#[49, 48, 48, 50, 51]⟩, pcs⟩ = (bs, 0)) := ⟨_, Lib.hid (hbm.out kk hkn 1 _ pcs gm1'.out (fun p hp => (gm2'.out p hp).2.1))⟩
        have hrs2 := Lib.hid ((hbp.out ⟨(kk : Int) + 1, 1, ⟨#[49, 48, 48, 50, 51]⟩, pcs⟩).trans hrs.out)
        obtain ⟨⟨hAl, hBl, hCl, a0, a1, b0, b1, b2, b3, d0, d1⟩, -⟩ := hH.out
        go_wp2_with fail
        refine (bases_any _ _ _ _ _ _ _ _ pcs _ hH.out.2.1 hH.out.2.2.1 hmo.out hH.out.2.2.2.1).mono ?_
        rw [hrs.out]
        rintro e w9 ⟨av, rfl, hA9, hb9⟩
        have hA := Lib.hid (IsInts.of_own hA9)
        dsimp only at hA
        obtain ⟨A9, c9, rfl, _, hc9m, _⟩ := hA.out
        replace hH := Lib.hid (hH.out.stays (Stays.of hb9))
        have bF9 := bF.trans (hb9.mono bF.size)
        clear hA9 hb9 a0 a1 b0 b1 b2 b3 d0 d1 hAl hBl hCl bF
        obtain ⟨⟨hAl, hBl, hCl, a0, a1, b0, b1, b2, b3, d0, d1⟩, -⟩ := hH.out
        go_wp2_with fail
        refine (bases_any _ _ _ _ _ _ _ _ pcs _ hH.out.2.2.2.2.1 hH.out.2.2.2.2.2 hmo.out hH.out.2.2.2.1).mono ?_
        rw [hrs2.out]
        rintro e w10 ⟨bv, rfl, hB10, hb10⟩
        have hB := Lib.hid (IsInts.of_own hB10)
        dsimp only at hB
        obtain ⟨A10, c10, rfl, _, hc10m, _⟩ := hB.out
        replace hA := Lib.hid (hA.out.stays (Stays.of hb10))
        replace hH := Lib.hid (hH.out.stays (Stays.of hb10))
        have bF10 := bF9.trans (hb10.mono bF9.size)
        clear hB10 hb10 a0 a1 b0 b1 b2 b3 d0 d1 hAl hBl hCl bF9
        obtain ⟨⟨hAl, hBl, hCl, a0, a1, b0, b1, b2, b3, d0, d1⟩, -⟩ := hH.out
        go_wp2_with fail
        refine (sameInts_any _ _ _ _ _ hA.out hB.out).mono ?_
        rw [show decide (bs = bs) = true from by simp]
        rintro e w11 ⟨rfl, hb11⟩
        go_wp2
        go_ret
        exact ⟨rfl, bF10.trans (hb11.mono bF10.size)⟩
      · have hgt : decide ((nc : Int) < (kk : Int) + 1) = true := decide_eq_true (by omega)
        have hrs := Lib.hid (bases_none hrt.out gm1'.out (hrn.out ((kk : Int) + 1) (by omega)))
        have hrs2 := Lib.hid ((hbp.out ⟨(kk : Int) + 1, 1, ⟨#[49, 48, 48, 50, 51]⟩, pcs⟩).trans hrs.out)
        obtain ⟨⟨hAl, hBl, hCl, a0, a1, b0, b1, b2, b3, d0, d1⟩, -⟩ := hH.out
        go_wp2_with fail
        refine (bases_any _ _ _ _ _ _ _ _ pcs _ hH.out.2.1 hH.out.2.2.1 hmo.out hH.out.2.2.2.1).mono ?_
        rw [hrs.out]
        rintro e w9 ⟨av, rfl, hA9, hb9⟩
        have hA := Lib.hid (IsInts.of_own hA9)
        dsimp only at hA
        obtain ⟨A9, c9, rfl, _, hc9m, _⟩ := hA.out
        replace hH := Lib.hid (hH.out.stays (Stays.of hb9))
        have bF9 := bF.trans (hb9.mono bF.size)
        clear hA9 hb9 a0 a1 b0 b1 b2 b3 d0 d1 hAl hBl hCl bF
        obtain ⟨⟨hAl, hBl, hCl, a0, a1, b0, b1, b2, b3, d0, d1⟩, -⟩ := hH.out
        go_wp2_with fail
        refine (bases_any _ _ _ _ _ _ _ _ pcs _ hH.out.2.2.2.2.1 hH.out.2.2.2.2.2 hmo.out hH.out.2.2.2.1).mono ?_
        rw [hrs2.out]
        rintro e w10 ⟨bv, rfl, hB10, hb10⟩
        have hB := Lib.hid (IsInts.of_own hB10)
        dsimp only at hB
        obtain ⟨A10, c10, rfl, _, hc10m, _⟩ := hB.out
        replace hA := Lib.hid (hA.out.stays (Stays.of hb10))
        replace hH := Lib.hid (hH.out.stays (Stays.of hb10))
        have bF10 := bF9.trans (hb10.mono bF9.size)
        clear hB10 hb10 a0 a1 b0 b1 b2 b3 d0 d1 hAl hBl hCl bF9
        obtain ⟨⟨hAl, hBl, hCl, a0, a1, b0, b1, b2, b3, d0, d1⟩, -⟩ := hH.out
        go_wp2
        go_ret
        exact ⟨rfl, bF10⟩
    · rw [hpar] at hbits
      have u1x := hUx.cell 1
      simp only [List.getElem?_toArray, List.getElem?_cons_succ, List.getElem?_cons_zero] at u1x
      have hZx' := Lib.hid hZx
      have hzl2 : (zs.drop k ++ zs.take k).length ≤ 1000 := by rw [hzlen.out]; omega
      have hg8 := (hZx.block_lt (g := g8) rfl).1
      clear hZx
      go_wp2_with fail
      refine (reverse29_any w5.heap.size _ _ _ hZx'.out hzl2).mono ?_
      rintro e w8 ⟨rfl, hZ8, hK8, hb8⟩
      have h58 : Below WX.heap.size wc w8 := hb8.mono sX5
      have hW8 : Below WX.heap.size WX w8 := hbx.trans h58
      have kA8 := kA.below hW8 kA.lt
      have kB8 := kB.below hW8 kB.lt
      have hU8 : Blk w8 w4.heap.size 25 #[.slice (some ⟨b7, o7, none⟩) nc c7, .slice (some ⟨g8, 0, none⟩) lz c8] := (hK8.block w4.heap.size hUx.lt (by simp [Value.ownBlock]; omega)).trans hUx
      have hR8 := (hRx.keep (Q := fun _ => True) ⟨hK8.size, fun b hb hp => hK8.block b hb (by simp [Value.ownBlock]; omega)⟩ (fun _ _ _ => trivial)).plain
      have hH : Hid (OrdHas w8 w3.heap.size (w3.heap.size + 1) w4.heap.size (.slice A1 nc c1) (.slice A2 lz c2) (.slice A3 pcs.length c3) (.slice (some ⟨b7, o7, none⟩) nc c7) (.slice (some ⟨g8, 0, none⟩) lz c8) ((kk : Int) + 1) ⟨#[49, 48, 48, 50, 51]⟩ rs zs pcs rs.reverse (turned k true zs)) := Lib.hid ⟨⟨kA8.lt, kB8.lt, hU8.lt, kA8.cell 0, kA8.cell 1, kB8.cell 0, kB8.cell 1, kB8.cell 2, kB8.cell 3, hU8.cell 0, hU8.cell 1⟩, hRX.out.stays (Stays.of hW8), hZX.out.stays (Stays.of hW8), (hM3h.out.stays (Stays.of hWX)).stays (Stays.of hW8), hR8, OwnZones.zones hZ8⟩
      have hbp := Lib.hid (fun M => bases_perm (List.reverse_perm rs) (turned_perm k true zs) hcz.out hrt.out M)
      have bF : Below w.heap.size w w8 := b1X.trans (hW8.mono b1X.size)
      clear kAx kBx hRt hZt hMt hUx hRx hbx hU5 hOZ5 hRP5 u0 u1 uf kA kB hRX hZX hM3h hWX hX5 hX4 bFc b1X ho0 hn1 hn2 hl1 hl2 hxa kA8 kB8 hU8 hR8 hZ8 hK8 hb8 h58 hW8 hZx' u1x
      by_cases hkn : kk < nc
      · have hgt : decide ((nc : Int) < (kk : Int) + 1) = false := decide_eq_false (by omega)
        obtain ⟨bs, hrs⟩ : ∃ bs, Hid (basesRes rs zs ⟨(kk : Int) + 1, 1, ⟨#[49, 48, 48, 50, 51]⟩, pcs⟩ = (bs, 0)) := ⟨_, Lib.hid (hbm.out kk hkn 1 _ pcs gm1'.out (fun p hp => (gm2'.out p hp).2.1))⟩
        have hrs2 := Lib.hid ((hbp.out ⟨(kk : Int) + 1, 1, ⟨#[49, 48, 48, 50, 51]⟩, pcs⟩).trans hrs.out)
        obtain ⟨⟨hAl, hBl, hCl, a0, a1, b0, b1, b2, b3, d0, d1⟩, -⟩ := hH.out
        go_wp2_with fail
        refine (bases_any _ _ _ _ _ _ _ _ pcs _ hH.out.2.1 hH.out.2.2.1 hmo.out hH.out.2.2.2.1).mono ?_
        rw [hrs.out]
        rintro e w9 ⟨av, rfl, hA9, hb9⟩
        have hA := Lib.hid (IsInts.of_own hA9)
        dsimp only at hA
        obtain ⟨A9, c9, rfl, _, hc9m, _⟩ := hA.out
        replace hH := Lib.hid (hH.out.stays (Stays.of hb9))
        have bF9 := bF.trans (hb9.mono bF.size)
        clear hA9 hb9 a0 a1 b0 b1 b2 b3 d0 d1 hAl hBl hCl bF
        obtain ⟨⟨hAl, hBl, hCl, a0, a1, b0, b1, b2, b3, d0, d1⟩, -⟩ := hH.out
        go_wp2_with fail
        refine (bases_any _ _ _ _ _ _ _ _ pcs _ hH.out.2.2.2.2.1 hH.out.2.2.2.2.2 hmo.out hH.out.2.2.2.1).mono ?_
        rw [hrs2.out]
        rintro e w10 ⟨bv, rfl, hB10, hb10⟩
        have hB := Lib.hid (IsInts.of_own hB10)
        dsimp only at hB
        obtain ⟨A10, c10, rfl, _, hc10m, _⟩ := hB.out
        replace hA := Lib.hid (hA.out.stays (Stays.of hb10))
        replace hH := Lib.hid (hH.out.stays (Stays.of hb10))
        have bF10 := bF9.trans (hb10.mono bF9.size)
        clear hB10 hb10 a0 a1 b0 b1 b2 b3 d0 d1 hAl hBl hCl bF9
        obtain ⟨⟨hAl, hBl, hCl, a0, a1, b0, b1, b2, b3, d0, d1⟩, -⟩ := hH.out
        go_wp2_with fail
        refine (sameInts_any _ _ _ _ _ hA.out hB.out).mono ?_
        rw [show decide (bs = bs) = true from by simp]
        rintro e w11 ⟨rfl, hb11⟩
        go_wp2
        go_ret
        exact ⟨rfl, bF10.trans (hb11.mono bF10.size)⟩
      · have hgt : decide ((nc : Int) < (kk : Int) + 1) = true := decide_eq_true (by omega)
        have hrs := Lib.hid (bases_none hrt.out gm1'.out (hrn.out ((kk : Int) + 1) (by omega)))
        have hrs2 := Lib.hid ((hbp.out ⟨(kk : Int) + 1, 1, ⟨#[49, 48, 48, 50, 51]⟩, pcs⟩).trans hrs.out)
        obtain ⟨⟨hAl, hBl, hCl, a0, a1, b0, b1, b2, b3, d0, d1⟩, -⟩ := hH.out
        go_wp2_with fail
        refine (bases_any _ _ _ _ _ _ _ _ pcs _ hH.out.2.1 hH.out.2.2.1 hmo.out hH.out.2.2.2.1).mono ?_
        rw [hrs.out]
        rintro e w9 ⟨av, rfl, hA9, hb9⟩
        have hA := Lib.hid (IsInts.of_own hA9)
        dsimp only at hA
        obtain ⟨A9, c9, rfl, _, hc9m, _⟩ := hA.out
        replace hH := Lib.hid (hH.out.stays (Stays.of hb9))
        have bF9 := bF.trans (hb9.mono bF.size)
        clear hA9 hb9 a0 a1 b0 b1 b2 b3 d0 d1 hAl hBl hCl bF
        obtain ⟨⟨hAl, hBl, hCl, a0, a1, b0, b1, b2, b3, d0, d1⟩, -⟩ := hH.out
        go_wp2_with fail
        refine (bases_any _ _ _ _ _ _ _ _ pcs _ hH.out.2.2.2.2.1 hH.out.2.2.2.2.2 hmo.out hH.out.2.2.2.1).mono ?_
        rw [hrs2.out]
        rintro e w10 ⟨bv, rfl, hB10, hb10⟩
        have hB := Lib.hid (IsInts.of_own hB10)
        dsimp only at hB
        obtain ⟨A10, c10, rfl, _, hc10m, _⟩ := hB.out
        replace hA := Lib.hid (hA.out.stays (Stays.of hb10))
        replace hH := Lib.hid (hH.out.stays (Stays.of hb10))
        have bF10 := bF9.trans (hb10.mono bF9.size)
        clear hB10 hb10 a0 a1 b0 b1 b2 b3 d0 d1 hAl hBl hCl bF9
        obtain ⟨⟨hAl, hBl, hCl, a0, a1, b0, b1, b2, b3, d0, d1⟩, -⟩ := hH.out
        go_wp2
        go_ret
        exact ⟨rfl, bF10⟩
end Go.Proofs.Ythbnbfeolfkkaaa
