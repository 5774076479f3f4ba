/- Tariffs and mailings that a defect has been written into: how they lie in memory. -/
import Derived.Test.YthbnbfeolfkkaaaL21
import Derived.Test.YthbnbfeolfkkaaaL15
import Derived.Test.YthbnbfeolfkkaaaWrongP
namespace Go.Proofs.Ythbnbfeolfkkaaa
open Go.RowKit Go.Maps

/-- a row of the call's own: it and all behind it in blocks of S -/
def OwnQ {α : Type} (E : TypeId) (k : Nat) (cells : α → List Value) (I : (Nat → Prop) → World → α → Prop) (S : Nat → Prop) (base : Nat) (w : World) (v : Value) (ps : List α) : Prop :=
  w.ownsRow base E k v ps.length (ps.flatMap cells) ∧ (∀ g, v.ownBlock = some g → S g) ∧ ∀ p ∈ ps, I (fun b => S b ∧ some b ≠ v.ownBlock) w p
theorem ownsRow_form {w : World} {B : Nat} {E : TypeId} {k : Nat} {v : Value} {n : Nat} {xs : List Value} (h : w.ownsRow B E k v n xs) (hn : 0 < n) : ∃ g cap, v = .slice (some ⟨g, 0, none⟩) n cap ∧ B ≤ g ∧ g < w.heap.size ∧ n ≤ cap ∧ cap ≤ maxLen := by
  rcases h.2 with ⟨_, h0⟩ | ⟨g, cap, cur, e, hb, hg, hnc, hcm, _⟩
  · omega
  · exact ⟨g, cap, e, hb, (Array.getElem?_eq_some_iff.1 hg).1, hnc, hcm⟩
section
variable {α : Type} {E : TypeId} {k : Nat} {cells : α → List Value} {I : (Nat → Prop) → World → α → Prop} {S T : Nat → Prop} {base : Nat} {w w' : World} {v v' : Value} {ps : List α}
theorem OwnQ.keep (hI : Inner I) (h : OwnQ E k cells I S base w v ps) (hk : Keeps S w w') (hST : ∀ b, b < w.heap.size → S b → T b) : OwnQ E k cells I T base w' v ps :=
  ⟨ownsRow_keepAt h.1 fun g e _ hl => hk.block g hl (h.2.1 g e), fun g e => hST g (h.1.lt g e).2 (h.2.1 g e), fun p hp => hI.keep (h.2.2 p hp) ⟨hk.size, fun b hb hp => hk.block b hb hp.1⟩ fun b hb hp => ⟨hST b hb hp.1, hp.2⟩⟩
theorem OwnQ.append (hI : Inner I) (h : OwnQ E k cells I S base w v ps) {a : α} {g : Nat} (ha : I (fun b => S b ∧ some b ≠ v.ownBlock) w a)
    (hown : w'.ownsRow base E k v' (ps.length + 1) (ps.flatMap cells ++ cells a)) (hg : w.grownBy w' v.ownBlock) (hv' : v'.ownBlock = some g) (hat : v.ownBlock = some g ∨ w.heap.size ≤ g) (hSg : w.heap.size ≤ g → S g) :
    OwnQ E k cells I S base w' v' (ps ++ [a]) := by
  have hPQ : ∀ b, b < w.heap.size → (S b ∧ some b ≠ v.ownBlock) → (S b ∧ some b ≠ v'.ownBlock) := fun b hb hp => ⟨hp.1, by
    rw [hv']
    rcases hat with e | e
    · rw [← e]; exact hp.2
    · intro e2; injection e2 with e2; omega⟩
  have hK : Keeps (fun b => S b ∧ some b ≠ v.ownBlock) w w' := Keeps.of_grown hg fun b hb => hb.2
  refine ⟨by simpa using hown, fun g' e => ?_, fun p hp => ?_⟩
  · rw [hv'] at e
    injection e with e
    subst e
    rcases hat with e | e
    · exact h.2.1 _ e
    · exact hSg e
  · rcases List.mem_append.1 hp with hp | hp
    · exact hI.keep (h.2.2 p hp) hK hPQ
    · rw [List.mem_singleton.1 hp]
      exact hI.keep ha hK hPQ
theorem OwnQ.setOne {g : Nat} (hI : Inner I) (hf : ∀ a, (cells a).length = k) (h : OwnQ E k cells I S base w v ps) (hg : v.ownBlock = some g) (i j : Nat) (hi : i < ps.length) (hj : j < k) (u : Value) (a' : α)
    (hc : cells a' = (cells ps[i]).set j u) (hin : I (fun b => S b ∧ some b ≠ v.ownBlock) w a') : OwnQ E k cells I S base (w.setCell ⟨g, i * k + j, none⟩ u) v (ps.set i a') := by
  have hlt : i * k + j < (ps.flatMap cells).length := by
    have : (i + 1) * k ≤ ps.length * k := Nat.mul_le_mul_right k hi
    rw [h.1.1]
    rw [Nat.succ_mul] at this
    omega
  have hK : Keeps (fun b => S b ∧ some b ≠ v.ownBlock) w (w.setCell ⟨g, i * k + j, none⟩ u) := Keeps.set_ _ _ _ (by rw [hg]; simp)
  refine ⟨?_, h.2.1, fun p hp => ?_⟩
  · have := ownsRow_setAt u h.1 hg hlt
    rw [flat_set cells k hf ps i j hi hj u a' hc] at this
    simpa using this
  · rcases List.mem_or_eq_of_mem_set hp with hp | rfl
    · exact hI.keep (h.2.2 p hp) hK fun _ _ h => h
    · exact hI.keep hin hK fun _ _ h => h
theorem OwnQ.sl (h : OwnQ E k cells I S base w v ps) (hf : ∀ a, (cells a).length = k) :
    SlP S w v ps.length fun b off i => off = 0 ∧ some b = v.ownBlock ∧ ∀ (hi : i < ps.length) (j : Nat), j < k → w.cell? ⟨b, off + i * k + j, none⟩ = (cells ps[i])[j]? := by
  have h2 := h.2.1
  rcases h.1.2 with ⟨rfl, h0⟩ | ⟨g, cap, cur, rfl, hb, hg, hnc, hcm, hcs, _⟩
  · exact ⟨none, 0, by rw [h0], by omega, Nat.zero_le _, fun h => absurd h (by omega)⟩
  · refine ⟨_, _, rfl, hnc, hcm, fun _ => ⟨g, 0, rfl, (Array.getElem?_eq_some_iff.1 hg).1, h2 g rfl, fun i hi => ⟨rfl, rfl, fun hi j hj => ?_⟩⟩⟩
    have hlt : i * k + j < ps.length * k := by
      have : (i + 1) * k ≤ ps.length * k := Nat.mul_le_mul_right k hi
      rw [Nat.succ_mul] at this
      omega
    rw [Nat.zero_add, h.1.cellAt (i * k + j) hlt, flat_get cells k hf ps i j hi hj]
end
theorem OwnQ.intsP {S : Nat → Prop} {base : Nat} {w : World} {v : Value} {xs : List Int} (h : OwnQ 3 1 intCells noInner S base w v xs) : IsIntsP S w v xs := by
  have hsl := OwnQ.sl h (fun _ => rfl)
  exact SlP.map hsl (Nat.le_refl _) (fun _ _ h => h) fun b off i hb _ hi hr => by
    have h0 := hr.2.2 hi 0 (by omega)
    rw [getD_of xs 0 i hi]
    simpa [intCells] using h0
theorem OwnQ.stepsP {S : Nat → Prop} {base : Nat} {w : World} {v : Value} {ps : List (Step × Value)} (h : OwnQ 61 2 stepCells stepIn S base w v ps) : IsStepsP S w v (ps.map (·.1)) := by
  have hl : (ps.map (·.1)).length = ps.length := by simp
  unfold IsStepsP
  rw [hl]
  have hsl := OwnQ.sl h (fun _ => rfl)
  refine SlP.map hsl (Nat.le_refl _) (fun _ _ h => h) fun b off i hb _ hi hr => ?_
  have h0 := hr.2.2 hi 0 (by omega)
  have h1 := hr.2.2 hi 1 (by omega)
  rw [getD_of _ _ i (by rw [hl]; exact hi), List.getElem_map]
  have hin := h.2.2 ps[i] (List.getElem_mem hi)
  exact ⟨by simpa [stepCells] using h0, ps[i].2, by simpa [stepCells] using h1, IsIntsP.weak hin fun b hb hp => hp.1⟩
theorem OwnQ.rates {S : Nat → Prop} {base : Nat} {w : World} {v : Value} {ps : List (Rate × Value)} (h : OwnQ 57 3 rateCells rateIn S base w v ps) : IsRates w v (ps.map (·.1)) := by
  have hl : (ps.map (·.1)).length = ps.length := by simp
  unfold IsRates
  rw [hl]
  have hsl := OwnQ.sl h (fun _ => rfl)
  refine SlP.plain hsl fun b off i hb _ hi hr => ?_
  have h0 := hr.2.2 hi 0 (by omega)
  have h1 := hr.2.2 hi 1 (by omega)
  have h2 := hr.2.2 hi 2 (by omega)
  rw [getD_of _ _ i (by rw [hl]; exact hi), List.getElem_map]
  have hin := h.2.2 ps[i] (List.getElem_mem hi)
  exact ⟨by simpa [rateCells] using h0, ⟨ps[i].2, by simpa [rateCells] using h1, hin.1.plain⟩, by simpa [rateCells] using h2, hin.2⟩
theorem OwnQ.zones {S : Nat → Prop} {base : Nat} {w : World} {v : Value} {zs : List Zone} (h : OwnQ 67 3 zoneCells zoneIn S base w v zs) : IsZones w v zs := by
  have hsl := OwnQ.sl h (fun _ => rfl)
  exact SlP.plain hsl fun b off i hb _ hi hr => by
    have h0 := hr.2.2 hi 0 (by omega)
    have h1 := hr.2.2 hi 1 (by omega)
    have h2 := hr.2.2 hi 2 (by omega)
    rw [getD_of zs Zone.zero i hi]
    exact ⟨by simpa [zoneCells] using h0, by simpa [zoneCells] using h1, by simpa [zoneCells] using h2, h.2.2 zs[i] (List.getElem_mem hi)⟩
/-- all elements of a row whose first one lies apart -/
theorem HeadOwn.all {α : Type} {J : Nat → Nat → World → α → Prop} {I : (Nat → Prop) → World → α → Prop} (hI : Inner I) (hJI : ∀ {B H w a}, J B H w a → I (fun b => b < H) w a) {B U : Nat} {w : World} {v : Value} {ps : List α} (h : HeadOwn J I B U w v ps) :
    ∀ p ∈ ps, I (fun b => b < U ∧ some b ≠ v.ownBlock) w p := by
  obtain ⟨a, t, H, rfl, h1, h2, h3, h4, h5⟩ := h
  intro p hp
  rcases List.mem_cons.1 hp with rfl | hp
  · exact hI.keep (hJI h1) ⟨Nat.le_refl _, fun _ _ _ => rfl⟩ fun b _ hb => ⟨by omega, fun e => by have := (h4 b e.symm).1; omega⟩
  · exact hI.keep (h5 p hp) ⟨Nat.le_refl _, fun _ _ _ => rfl⟩ fun b _ hb => hb.2
theorem JS.in_ {B H : Nat} {w : World} {p : Step × Value} (h : JS B H w p) : stepIn (fun b => b < H) w p := OwnQ.intsP (S := fun b => b < H) (base := B) ⟨h.1.1, h.2, fun _ _ => trivial⟩
theorem JR.q {B H : Nat} {w : World} {p : Rate × Value} (h : JR B H w p) : ∃ sps, sps.map (·.1) = p.1.steps ∧ OwnQ 61 2 stepCells stepIn (fun b => b < H) B w p.2 sps := by
  obtain ⟨sps, h1, h2, h3, _⟩ := h
  exact ⟨sps, h2, h1, fun g e => h3.own_lt e, h3.all stepIn_inner JS.in_⟩
theorem JR.in_ {B H : Nat} {w : World} {p : Rate × Value} (h : JR B H w p) : rateIn (fun b => b < H) w p := by
  obtain ⟨sps, e, hq⟩ := h.q
  have := hq.stepsP
  rw [e] at this
  obtain ⟨_, _, _, _, h4⟩ := h
  exact ⟨this, h4⟩
theorem OwnQ.of_own {E : TypeId} {k : Nat} {α : Type} {cells : α → List Value} {I : (Nat → Prop) → World → α → Prop} (hI : Inner I) {M vb : Nat} {w : World} {v : Value} {ps : List α} (h : OwnL E k cells I M w v ps) (hs : w.heap.size ≤ vb) : OwnQ E k cells I (fun b => M ≤ b ∧ b < vb) M w v ps :=
  ⟨h.1, fun g e => ⟨(h.1.lt g e).1, by have := (h.1.lt g e).2; omega⟩, fun p hp => hI.keep (h.2 p hp) ⟨Nat.le_refl _, fun _ _ _ => rfl⟩ fun b hb hp => ⟨⟨hp.1, by omega⟩, hp.2⟩⟩

/-- a tariff in the blocks of vb that is not right; all below X as it was -/
def BadT (WX : World) (vb : Nat) (wx : World) : Prop :=
  Below WX.heap.size WX wx ∧ ∃ ru zu rs zs, Blk wx vb 25 #[ru, zu] ∧ IsRates wx ru rs ∧ IsZones wx zu zs ∧ right rs zs = false
/-- the copy of a tariff: its rates below M, its rows from M on, below vb, where the struct lies -/
structure Cop (WX W : World) (vb M : Nat) (rv zv : Value) (rps : List (Rate × Value)) (zs : List Zone) : Prop where
  bel : Below WX.heap.size WX W
  blk : Blk W vb 25 #[rv, zv]
  xm : WX.heap.size ≤ M
  mv : M ≤ vb
  rates : OwnQ 57 3 rateCells rateIn (fun b => b < M) WX.heap.size W rv rps
  zones : OwnQ 67 3 zoneCells zoneIn (fun b => M ≤ b ∧ b < vb) M W zv zs
section
variable {WX W wA w1 : World} {vb M g n cap : Nat} {rv zv : Value} {rps : List (Rate × Value)} {zs : List Zone}
theorem Cop.rate (h : Cop WX W vb M rv zv rps zs) (hA : Below W.heap.size W wA) {rp : Rate × Value} (hrp : rp ∈ rps) (hown : w1.ownsRow WX.heap.size 57 3 (.slice (some ⟨g, 0, none⟩) n cap) n (rps.flatMap rateCells ++ rateCells rp)) (hn : n = rps.length + 1)
    (hgr : wA.grownBy w1 rv.ownBlock) (hat : rv.ownBlock = some g ∨ wA.heap.size ≤ g) (hbad : right ((rps ++ [rp]).map (·.1)) zs = false) : BadT WX vb (w1.setCell ⟨vb, 0, none⟩ (.slice (some ⟨g, 0, none⟩) n cap)) := by
  subst hn
  have hv := h.blk.lt
  have sX := h.bel.size
  have sA := hA.size
  have hm := h.mv
  have hx := h.xm
  have hrg : ∀ b, rv.ownBlock = some b → b < M := h.rates.2.1
  have hq : OwnQ 57 3 rateCells rateIn (fun b => b ≠ vb) WX.heap.size wA rv rps := h.rates.keep rateIn_inner (Keeps.of_below hA _) fun b _ hb => by show b ≠ vb; omega
  have hq1 := hq.append rateIn_inner (hq.2.2 rp hrp) hown hgr rfl hat (fun e => by omega)
  have hz : OwnQ 67 3 zoneCells zoneIn (fun b => M ≤ b ∧ b < vb) M w1 zv zs := (h.zones.keep (T := fun b => M ≤ b ∧ b < vb) zoneIn_inner (Keeps.of_below hA _) fun b _ hb => hb).keep zoneIn_inner (Keeps.of_grown hgr fun b hb e => by have := hrg b e.symm; omega) fun b _ hb => hb
  have hb1 := (h.blk.below hA hv).grown hgr fun e => by have := hrg vb e.symm; omega
  refine ⟨?_, _, _, _, zs, hb1.set_ 0 _, (hq1.keep (T := fun _ => True) rateIn_inner (Keeps.set_ _ _ _ (by simp)) fun _ _ _ => trivial).rates, (hz.keep (T := fun _ => True) zoneIn_inner (Keeps.set_ _ _ _ (by simp)) fun _ _ _ => trivial).zones, hbad⟩
  exact ((h.bel.trans (hA.mono sX)).grown hgr (by omega) (fun b e => (h.rates.1.lt b e).1)).setCell (by show WX.heap.size ≤ vb; omega) _
theorem Cop.row (h : Cop WX W vb M rv zv rps zs) (hA : Below W.heap.size W wA) {z : Zone} (hzi : z ∈ zs) (hown : w1.ownsRow M 67 3 (.slice (some ⟨g, 0, none⟩) n cap) n (zs.flatMap zoneCells ++ zoneCells z)) (hn : n = zs.length + 1)
    (hgr : wA.grownBy w1 zv.ownBlock) (hat : zv.ownBlock = some g ∨ wA.heap.size ≤ g) (hbad : right (rps.map (·.1)) (zs ++ [z]) = false) : BadT WX vb (w1.setCell ⟨vb, 1, none⟩ (.slice (some ⟨g, 0, none⟩) n cap)) := by
  subst hn
  have hv := h.blk.lt
  have sX := h.bel.size
  have sA := hA.size
  have hm := h.mv
  have hx := h.xm
  have hrg : ∀ b, zv.ownBlock = some b → M ≤ b ∧ b < vb := h.zones.2.1
  have hq : OwnQ 67 3 zoneCells zoneIn (fun b => b ≠ vb) M wA zv zs := h.zones.keep zoneIn_inner (Keeps.of_below hA _) fun b _ hb => by show b ≠ vb; omega
  have hq1 := hq.append zoneIn_inner (hq.2.2 z hzi) hown hgr rfl hat (fun e => by omega)
  have hz : OwnQ 57 3 rateCells rateIn (fun b => b < M) WX.heap.size w1 rv rps := (h.rates.keep (T := fun b => b < M) rateIn_inner (Keeps.of_below hA _) fun b _ hb => hb).keep rateIn_inner (Keeps.of_grown hgr fun b hb e => by have := hrg b e.symm; omega) fun b _ hb => hb
  have hb1 := (h.blk.below hA hv).grown hgr fun e => by have := hrg vb e.symm; omega
  refine ⟨?_, _, _, _, _, hb1.set_ 1 _, (hz.keep (T := fun _ => True) rateIn_inner (Keeps.set_ _ _ _ (by simp; omega)) fun _ _ _ => trivial).rates, (hq1.keep (T := fun _ => True) zoneIn_inner (Keeps.set_ _ _ _ (by simp)) fun _ _ _ => trivial).zones, hbad⟩
  exact ((h.bel.trans (hA.mono sX)).grown hgr (by omega) (fun b e => by have := hrg b e; omega)).setCell (by show WX.heap.size ≤ vb; omega) _
/-- a store into the first row -/
theorem Cop.store (h : Cop WX W vb M rv zv rps zs) (hg : zv.ownBlock = some g) {z z' : Zone} {t : List Zone} (hzs : zs = z :: t) (j : Nat) (hj : j < 3) (u : Value) (hc : zoneCells z' = (zoneCells z).set j u) (hi : z'.frm.size ≤ maxLen ∧ z'.dst.size ≤ maxLen) (hbad : right (rps.map (·.1)) (z' :: t) = false) :
    BadT WX vb (W.setCell ⟨g, j, none⟩ u) := by
  subst hzs
  have hm := h.mv
  have hx := h.xm
  have hrg := h.zones.2.1 g hg
  have hq := OwnQ.setOne (k := 3) (cells := zoneCells) zoneIn_inner (fun _ => rfl) h.zones hg 0 j (by simp) hj u z' hc hi
  rw [Nat.zero_mul, Nat.zero_add] at hq
  exact ⟨h.bel.setCell (by show WX.heap.size ≤ g; omega) _, _, _, _, _, h.blk.far (by show vb ≠ g; omega) _, (h.rates.keep (T := fun _ => True) rateIn_inner (Keeps.set_ _ _ _ (by simp; omega)) fun _ _ _ => trivial).rates, hq.zones, hbad⟩
end
theorem Blk.drewW {w : World} {g : Nat} {t : TypeId} {cs : Array Value} (h : Blk w g t cs) : Blk w.drew g t cs := h
/-- the copy of a tariff whose first rate's steps lie apart -/
structure Mid (WX w : World) (vb M : Nat) (rv zv : Value) (r0 : Rate) (v0 : Value) (sps : List (Step × Value)) (t : List (Rate × Value)) (zs : List Zone) (H : Nat) : Prop where
  bel : Below WX.heap.size WX w
  blk : Blk w vb 25 #[rv, zv]
  xh : WX.heap.size ≤ H
  hm : H ≤ M
  mv : M ≤ vb
  row : w.ownsRow WX.heap.size 57 3 rv (t.length + 1) (((r0, v0) :: t).flatMap rateCells)
  rowb : ∀ g, rv.ownBlock = some g → H ≤ g ∧ g < M
  steps : OwnQ 61 2 stepCells stepIn (fun b => b < H ∨ vb < b) WX.heap.size w v0 sps
  cls : 0 ≤ r0.cls ∧ r0.cls ≤ 255
  rest : ∀ p ∈ t, rateIn (fun b => H ≤ b ∧ b < M ∧ some b ≠ rv.ownBlock) w p
  zones : OwnQ 67 3 zoneCells zoneIn (fun b => M ≤ b ∧ b < vb) M w zv zs
/-- the first step's cents lie apart, too -/
structure Fst (WX w : World) (v0 : Value) (s0 : Step) (c0 : Value) (ts : List (Step × Value)) (H1 H : Nat) : Prop where
  le : H1 ≤ H
  cents : OwnQ 3 1 intCells noInner (fun b => b < H1) WX.heap.size w c0 s0.cents
  rowb : ∀ g, v0.ownBlock = some g → H1 ≤ g ∧ g < H
  rest : ∀ p ∈ ts, stepIn (fun b => H1 ≤ b ∧ b < H ∧ some b ≠ v0.ownBlock) w p
theorem Mid.of {WX W : World} {vb M : Nat} {rv zv : Value} {rps : List (Rate × Value)} {zs : List Zone} (h : Cop WX W vb M rv zv rps zs) (hh : HeadOwn JR rateIn WX.heap.size M W rv rps) :
    ∃ r0 v0 s0 c0 ts t H H1, rps = (r0, v0) :: t ∧ r0.steps = s0 :: ts.map (·.1) ∧ Mid WX W vb M rv zv r0 v0 ((s0, c0) :: ts) t zs H ∧ Fst WX W v0 s0 c0 ts H1 H := by
  obtain ⟨⟨r0, v0⟩, t, H, rfl, ⟨sps, j1, j2, j3, j4⟩, h2, h3, h4, h5⟩ := hh
  have hq : OwnQ 61 2 stepCells stepIn (fun b => b < H) WX.heap.size W v0 sps := ⟨j1, fun g e => j3.own_lt e, j3.all stepIn_inner JS.in_⟩
  obtain ⟨⟨s0, c0⟩, ts, H1, rfl, k1, k2, k3, k4, k5⟩ := j3
  exact ⟨r0, v0, s0, c0, ts, t, H, H1, rfl, j2.symm, ⟨h.bel, h.blk, h2, h3, h.mv, h.rates.1, h4, hq.keep stepIn_inner ⟨Nat.le_refl _, fun _ _ _ => rfl⟩ fun b _ hb => .inl hb, j4, h5, h.zones⟩, ⟨k3, ⟨k1.1.1, k1.2, fun _ _ => trivial⟩, k4, k5⟩⟩
section
variable {WX w wA w1 : World} {vb M g gr gs n cap : Nat} {rv zv v0 c0 : Value} {r0 : Rate} {sps ts : List (Step × Value)} {t : List (Rate × Value)} {zs : List Zone} {H H1 : Nat} {s0 : Step}
theorem Mid.append (h : Mid WX w vb M rv zv r0 v0 sps t zs H) (hA : Below w.heap.size w wA) (hg : rv.ownBlock = some gr) {a : Step × Value} (ha : stepIn (fun b => (b < H ∨ vb < b) ∧ some b ≠ v0.ownBlock) wA a)
    (hown : w1.ownsRow WX.heap.size 61 2 (.slice (some ⟨g, 0, none⟩) n cap) n (sps.flatMap stepCells ++ stepCells a)) (hn : n = sps.length + 1) (hgr : wA.grownBy w1 v0.ownBlock) (hat : v0.ownBlock = some g ∨ wA.heap.size ≤ g)
    (hbad : right (⟨r0.cls, (sps ++ [a]).map (·.1), r0.bar⟩ :: t.map (·.1)) zs = false) : BadT WX vb (w1.setCell ⟨gr, 1, none⟩ (.slice (some ⟨g, 0, none⟩) n cap)) := by
  subst hn
  have hv := h.blk.lt
  have sX := h.bel.size
  have sA := hA.size
  have hm := h.mv
  have hx := h.xh
  have hhm := h.hm
  have hrow := h.rowb gr hg
  have hst : ∀ b, v0.ownBlock = some b → b < H ∨ vb < b := h.steps.2.1
  have hq : OwnQ 61 2 stepCells stepIn (fun b => b < H ∨ vb < b) WX.heap.size wA v0 sps := h.steps.keep stepIn_inner (Keeps.of_below hA _) fun b _ hb => hb
  have hq1 := hq.append stepIn_inner ha hown hgr rfl hat (fun e => by omega)
  have hK : Keeps (fun b => H ≤ b ∧ b ≤ vb) w w1 := (Keeps.of_below hA _).trans (Keeps.of_grown hgr fun b hb e => by have := hst b e.symm; omega)
  have hrow1 := ownsRow_keepAt h.row (w' := w1) fun b e _ hl => hK.block b hl (by have := h.rowb b e; omega)
  have hset := ownsRow_setAt (idx := 1) (.slice (some ⟨g, 0, none⟩) (sps.length + 1) cap) hrow1 hg (by simp [rateCells])
  have hS : Keeps (fun b => b ≠ gr) w1 (w1.setCell ⟨gr, 1, none⟩ (.slice (some ⟨g, 0, none⟩) (sps.length + 1) cap)) := Keeps.set_ _ _ _ (by simp)
  have hR : OwnQ 57 3 rateCells rateIn (fun _ => True) WX.heap.size (w1.setCell ⟨gr, 1, none⟩ (.slice (some ⟨g, 0, none⟩) (sps.length + 1) cap)) rv ((⟨r0.cls, (sps ++ [a]).map (·.1), r0.bar⟩, .slice (some ⟨g, 0, none⟩) (sps.length + 1) cap) :: t) := by
    refine ⟨hset, fun _ _ => trivial, fun p hp => ?_⟩
    rcases List.mem_cons.1 hp with rfl | hp
    · refine ⟨hq1.stepsP.keep ⟨hS.size, fun b hb hp => hS.block b hb (by omega)⟩ fun b _ hb => ⟨trivial, fun e => ?_⟩, h.cls⟩
      rw [hg] at e
      injection e with e
      omega
    · exact rateIn_inner.keep (rateIn_inner.keep (Q := fun b => H ≤ b ∧ b < M ∧ some b ≠ rv.ownBlock) (h.rest p hp) ⟨hK.size, fun b hb hp => hK.block b hb (by omega)⟩ fun _ _ h => h) ⟨hS.size, fun b hb hp => hS.block b hb (fun e => hp.2.2 (by rw [hg, e]))⟩ fun _ _ h => ⟨trivial, h.2.2⟩
  have hz : OwnQ 67 3 zoneCells zoneIn (fun b => M ≤ b ∧ b < vb) M w1 zv zs := h.zones.keep zoneIn_inner ⟨hK.size, fun b hb hp => hK.block b hb (by omega)⟩ fun b _ hb => hb
  have hb1 : Blk w1 vb 25 #[rv, zv] := (hK.block vb hv (by omega)).trans h.blk
  refine ⟨?_, _, _, _, zs, hb1.far (by show vb ≠ gr; omega) _, hR.rates, (hz.keep (T := fun _ => True) zoneIn_inner ⟨hS.size, fun b hb hp => hS.block b hb (by omega)⟩ fun _ _ _ => trivial).zones, hbad⟩
  exact ((h.bel.trans (hA.mono sX)).grown hgr (by omega) (fun b e => (h.steps.1.lt b e).1)).setCell (by show WX.heap.size ≤ gr; omega) _
theorem Mid.cent (h : Mid WX w vb M rv zv r0 v0 ((s0, c0) :: ts) t zs H) (hf : Fst WX w v0 s0 c0 ts H1 H) (hA : Below w.heap.size w wA) (hg : v0.ownBlock = some gs) {x : Int}
    (hown : w1.ownsRow WX.heap.size 3 1 (.slice (some ⟨g, 0, none⟩) n cap) n (s0.cents.flatMap intCells ++ intCells x)) (hn : n = s0.cents.length + 1) (hgr : wA.grownBy w1 c0.ownBlock) (hat : c0.ownBlock = some g ∨ wA.heap.size ≤ g) :
    Mid WX (w1.setCell ⟨gs, 1, none⟩ (.slice (some ⟨g, 0, none⟩) n cap)) vb M rv zv r0 v0 ((⟨s0.grams, s0.cents ++ [x]⟩, .slice (some ⟨g, 0, none⟩) n cap) :: ts) t zs H := by
  subst hn
  have hv := h.blk.lt
  have sX := h.bel.size
  have sA := hA.size
  have hm := h.mv
  have hx := h.xh
  have hhm := h.hm
  have hle := hf.le
  have hrow := hf.rowb gs hg
  have hst : ∀ b, c0.ownBlock = some b → b < H1 := hf.cents.2.1
  have hgX := (h.steps.1.lt gs hg).1
  have hq : OwnQ 3 1 intCells noInner (fun b => b < H1 ∨ vb < b) WX.heap.size wA c0 s0.cents := hf.cents.keep noInner_inner (Keeps.of_below hA _) fun b _ hb => .inl hb
  have hq1 := hq.append noInner_inner trivial hown hgr rfl hat (fun e => by omega)
  have hK : Keeps (fun b => H1 ≤ b ∧ b ≤ vb) w w1 := (Keeps.of_below hA _).trans (Keeps.of_grown hgr fun b hb e => by have := hst b e.symm; omega)
  have hS : Keeps (fun b => b ≠ gs) w1 (w1.setCell ⟨gs, 1, none⟩ (.slice (some ⟨g, 0, none⟩) (s0.cents.length + 1) cap)) := Keeps.set_ _ _ _ (by simp)
  have hKS : Keeps (fun b => H ≤ b ∧ b ≤ vb) w (w1.setCell ⟨gs, 1, none⟩ (.slice (some ⟨g, 0, none⟩) (s0.cents.length + 1) cap)) := Keeps.trans ⟨hK.size, fun b hb hp => hK.block b hb (by omega)⟩ ⟨hS.size, fun b hb hp => hS.block b hb (by omega)⟩
  have hrow1 := ownsRow_keepAt h.steps.1 (w' := w1) fun b e _ hl => hK.block b hl (by have := hf.rowb b e; omega)
  have hset := ownsRow_setAt (idx := 1) (.slice (some ⟨g, 0, none⟩) (s0.cents.length + 1) cap) hrow1 hg (by simp [stepCells])
  refine ⟨?_, (hKS.block vb hv (by omega)).trans h.blk, hx, hhm, hm, ownsRow_keepAt h.row fun b e _ hl => hKS.block b hl (by have := h.rowb b e; omega), h.rowb, ⟨hset, h.steps.2.1, fun p hp => ?_⟩, h.cls, fun p hp => ?_, ?_⟩
  · exact ((h.bel.trans (hA.mono sX)).grown hgr (by omega) (fun b e => (hf.cents.1.lt b e).1)).setCell hgX _
  · rcases List.mem_cons.1 hp with rfl | hp
    · refine IsIntsP.keep hq1.intsP ⟨hS.size, fun b hb hp => hS.block b hb (by omega)⟩ fun b _ hb => ⟨by omega, fun e => ?_⟩
      rw [hg] at e
      injection e with e
      omega
    · refine stepIn_inner.keep (stepIn_inner.keep (Q := fun b => H1 ≤ b ∧ b < H ∧ some b ≠ v0.ownBlock) (hf.rest p hp) ⟨hK.size, fun b hb hp => hK.block b hb (by omega)⟩ fun _ _ h => h) ⟨hS.size, fun b hb hp => hS.block b hb (fun e => hp.2.2 (by rw [hg, e]))⟩ fun b _ h => ⟨.inl h.2.1, h.2.2⟩
  · exact rateIn_inner.keep (h.rest p hp) ⟨hKS.size, fun b hb hp => hKS.block b hb (by omega)⟩ fun _ _ h => h
  · exact h.zones.keep zoneIn_inner ⟨hKS.size, fun b hb hp => hKS.block b hb (by omega)⟩ fun _ _ h => h
end

/-- a mailing in block vw that is not right -/
def BadM (WY : World) (vw : Nat) (wx : World) : Prop :=
  Below WY.heap.size WY wx ∧ ∃ cls country o pv ps, Blk wx vw 36 #[.int .u8 cls, .int .u8 country, .string o, pv] ∧ o.size ≤ maxLen ∧ IsPieces wx pv ps ∧ ps.length ≤ 2001 ∧ mailing ⟨cls, country, o, ps⟩ = false
structure CopM (WY W : World) (vw : Nat) (cls country : Int) (o : ByteArray) (pv : Value) (ps : List Piece) : Prop where
  bel : Below WY.heap.size WY W
  blk : Blk W vw 36 #[.int .u8 cls, .int .u8 country, .string o, pv]
  yv : WY.heap.size ≤ vw
  len : ps.length ≤ 2000
  osz : o.size ≤ maxLen
  pieces : OwnQ 48 5 pieceCells pieceIn (fun b => WY.heap.size ≤ b ∧ b < vw) WY.heap.size W pv ps
theorem OwnQ.pieces_ {S : Nat → Prop} {base : Nat} {w : World} {v : Value} {ps : List Piece} (h : OwnQ 48 5 pieceCells pieceIn S base w v ps) : IsPieces w v ps := by
  have hsl := OwnQ.sl h (fun _ => rfl)
  exact SlP.plain hsl fun b off i hb _ hi hr => by
    have h0 := hr.2.2 hi 0 (by omega)
    have h1 := hr.2.2 hi 1 (by omega)
    have h2 := hr.2.2 hi 2 (by omega)
    have h3 := hr.2.2 hi 3 (by omega)
    have h4 := hr.2.2 hi 4 (by omega)
    rw [getD_of ps Piece.zero i hi]
    exact ⟨by simpa [pieceCells] using h0, by simpa [pieceCells] using h1, by simpa [pieceCells] using h2, by simpa [pieceCells] using h3, by simpa [pieceCells] using h4, h.2.2 ps[i] (List.getElem_mem hi)⟩
section
variable {WY W wA w1 : World} {vw g n cap : Nat} {cls country : Int} {o : ByteArray} {pv : Value} {ps : List Piece}
theorem CopM.field (h : CopM WY W vw cls country o pv ps) (i : Nat) (u : Value) (cls' country' : Int) (o' : ByteArray) (hc : (#[.int .u8 cls, .int .u8 country, .string o, pv] : Array Value).setIfInBounds i u = #[.int .u8 cls', .int .u8 country', .string o', pv]) (ho : o'.size ≤ maxLen)
    (hbad : mailing ⟨cls', country', o', ps⟩ = false) : BadM WY vw (W.setCell ⟨vw, i, none⟩ u) := by
  have hb := h.blk.set_ i u
  rw [hc] at hb
  exact ⟨h.bel.setCell h.yv _, cls', country', o', pv, ps, hb, ho, (h.pieces.keep (T := fun _ => True) pieceIn_inner (Keeps.set_ _ _ _ (by simp)) fun _ _ _ => trivial).pieces_, by have := h.len; omega, hbad⟩
theorem CopM.store (h : CopM WY W vw cls country o pv ps) (hg : pv.ownBlock = some g) {p p' : Piece} {t : List Piece} (hps : ps = p :: t) (j : Nat) (hj : j < 5) (u : Value) (hc : pieceCells p' = (pieceCells p).set j u) (hi : p'.code.size ≤ maxLen) (hbad : mailing ⟨cls, country, o, p' :: t⟩ = false) :
    BadM WY vw (W.setCell ⟨g, j, none⟩ u) := by
  subst hps
  have hm := h.yv
  have hrg := h.pieces.2.1 g hg
  have hq := OwnQ.setOne (k := 5) (cells := pieceCells) pieceIn_inner (fun _ => rfl) h.pieces hg 0 j (by simp) hj u p' hc hi
  rw [Nat.zero_mul, Nat.zero_add] at hq
  exact ⟨h.bel.setCell hrg.1 _, cls, country, o, pv, p' :: t, h.blk.far (by show vw ≠ g; omega) _, h.osz, hq.pieces_, by have := h.len; simp at this ⊢; omega, hbad⟩
theorem CopM.append (h : CopM WY W vw cls country o pv ps) (hA : Below W.heap.size W wA) {p : Piece} (hp : p ∈ ps) (hown : w1.ownsRow WY.heap.size 48 5 (.slice (some ⟨g, 0, none⟩) n cap) n (ps.flatMap pieceCells ++ pieceCells p)) (hn : n = ps.length + 1)
    (hgr : wA.grownBy w1 pv.ownBlock) (hat : pv.ownBlock = some g ∨ wA.heap.size ≤ g) (hbad : mailing ⟨cls, country, o, ps ++ [p]⟩ = false) : BadM WY vw (w1.setCell ⟨vw, 3, none⟩ (.slice (some ⟨g, 0, none⟩) n cap)) := by
  subst hn
  have hv := h.blk.lt
  have sX := h.bel.size
  have sA := hA.size
  have hm := h.yv
  have hrg : ∀ b, pv.ownBlock = some b → WY.heap.size ≤ b ∧ b < vw := h.pieces.2.1
  have hq : OwnQ 48 5 pieceCells pieceIn (fun b => b ≠ vw) WY.heap.size wA pv ps := h.pieces.keep pieceIn_inner (Keeps.of_below hA _) fun b _ hb => by show b ≠ vw; omega
  have hq1 := hq.append pieceIn_inner (hq.2.2 p hp) hown hgr rfl hat (fun e => by omega)
  have hb1 := (h.blk.below hA hv).grown hgr fun e => by have := hrg vw e.symm; omega
  refine ⟨?_, cls, country, o, _, _, hb1.set_ 3 _, h.osz, (hq1.keep (T := fun _ => True) pieceIn_inner (Keeps.set_ _ _ _ (by simp)) fun _ _ _ => trivial).pieces_, by have := h.len; simp; omega, hbad⟩
  exact ((h.bel.trans (hA.mono sX)).grown hgr (by omega) (fun b e => (hrg b e).1)).setCell hm _
end
end Go.Proofs.Ythbnbfeolfkkaaa
