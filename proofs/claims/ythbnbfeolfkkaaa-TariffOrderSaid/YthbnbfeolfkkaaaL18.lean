/- The walks of slices.Reverse at rates and at rows of zones. -/
import Derived.Test.YthbnbfeolfkkaaaL7
import Derived.Test.YthbnbfeolfkkaaaSto
namespace Go.Proofs.Ythbnbfeolfkkaaa
open Go.RowKit Go.Maps
attribute [local go_sem ↓] Go.wp_at_zero Go.wp_at_succ

theorem flat_put3 {α β : Type} (f : α → List β) (hf : ∀ a, (f a).length = 3) : ∀ (l : List α) (i : Nat), i < l.length → ∀ (a' : α) (c0 c1 c2 : β), f a' = [c0, c1, c2] → (((l.flatMap f).set (i * 3) c0).set (i * 3 + 1) c1).set (i * 3 + 2) c2 = (l.set i a').flatMap f
  | [], i, hi, _, _, _, _, _ => by simp at hi
  | a :: l, 0, _, a', c0, c1, c2, e => by
    have h3 := hf a
    simp only [List.flatMap_cons, List.set_cons_zero, e]
    rcases hfa : f a with _ | ⟨x, _ | ⟨y, _ | ⟨z, _ | ⟨u, t⟩⟩⟩⟩ <;> rw [hfa] at h3 <;> simp at h3 ⊢
  | a :: l, i + 1, hi, a', c0, c1, c2, e => by
    have h3 := hf a
    simp only [List.flatMap_cons, List.set_cons_succ]
    rw [List.set_append_right _ _ (by rw [h3]; omega), List.set_append_right _ _ (by rw [h3]; omega), List.set_append_right _ _ (by rw [h3]; omega), h3,
      show (i + 1) * 3 - 3 = i * 3 from by omega, show (i + 1) * 3 + 1 - 3 = i * 3 + 1 from by omega, show (i + 1) * 3 + 2 - 3 = i * 3 + 2 from by omega, flat_put3 f hf l i (by simpa using hi) a' c0 c1 c2 e]
section
variable {α : Type} {E : TypeId} {cells : α → List Value} {I : (Nat → Prop) → World → α → Prop}
/-- one element of three cells is written -/
theorem OwnL.put3 {B : Nat} {w : World} {v : Value} {ps : List α} {g : Nat} (hI : Inner I) (hf : ∀ a, (cells a).length = 3) (h : OwnL E 3 cells I B w v ps) (hg : v.ownBlock = some g) (i : Nat) (hi : i < ps.length) (a' : α) (c0 c1 c2 : Value)
    (hc : cells a' = [c0, c1, c2]) (hin : I (fun b => B ≤ b ∧ some b ≠ v.ownBlock) w a') : OwnL E 3 cells I B (((w.setCell ⟨g, i * 3, none⟩ c0).setCell ⟨g, i * 3 + 1, none⟩ c1).setCell ⟨g, i * 3 + 2, none⟩ c2) v (ps.set i a') := by
  have hlen : (ps.flatMap cells).length = ps.length * 3 := h.1.1
  have hK : Keeps (fun b => B ≤ b ∧ some b ≠ v.ownBlock) w (((w.setCell ⟨g, i * 3, none⟩ c0).setCell ⟨g, i * 3 + 1, none⟩ c1).setCell ⟨g, i * 3 + 2, none⟩ c2) :=
    ((Keeps.set_ _ _ _ (by rw [hg]; simp)).trans (Keeps.set_ _ _ _ (by rw [hg]; simp))).trans (Keeps.set_ _ _ _ (by rw [hg]; simp))
  refine ⟨?_, fun p hp => ?_⟩
  · have := ownsRow_setAt c2 (ownsRow_setAt c1 (ownsRow_setAt c0 h.1 hg (idx := i * 3) (by omega)) hg (idx := i * 3 + 1) (by rw [List.length_set]; omega)) hg (idx := i * 3 + 2) (by rw [List.length_set, List.length_set]; omega)
    rw [flat_put3 cells hf ps i hi a' c0 c1 c2 hc] at this
    simpa using this
  · rcases List.mem_or_eq_of_mem_set hp with hp | rfl
    · exact hI.keep (h.2 p hp) hK fun _ _ h => h
    · exact hI.keep hin hK fun _ _ h => h
end
/-- the first i elements and the last i have changed places -/
def RevTo {α : Type} (l : List α) (i : Nat) (L : List α) : Prop := L.length = l.length ∧ ∀ k, k < l.length → L[k]? = if k < i ∨ l.length - i ≤ k then l[l.length - 1 - k]? else l[k]?
section
variable {α : Type} {l L : List α} {i : Nat}
theorem revTo_zero (l : List α) : RevTo l 0 l := ⟨rfl, fun k hk => by rw [if_neg (by omega)]⟩
theorem RevTo.done (h : RevTo l i L) (h1 : 2 * i ≤ l.length) (h2 : l.length ≤ 2 * i + 1) : L = l.reverse := by
  apply List.ext_getElem?
  intro k
  rcases Nat.lt_or_ge k l.length with hk | hk
  · rw [h.2 k hk, List.getElem?_reverse hk]
    split
    · rfl
    · congr 1; omega
  · rw [List.getElem?_eq_none (by rw [h.1]; exact hk), List.getElem?_eq_none (by simpa using hk)]
theorem RevTo.step (h : RevTo l i L) {j : Nat} (hj : j + 1 + i = l.length) (hij : i < j) (hi : i < L.length) (hjl : j < L.length) : RevTo l (i + 1) ((L.set i L[j]).set j L[i]) := by
  refine ⟨by simp [h.1], fun k hk => ?_⟩
  have ei := h.2 i (by omega)
  have ej := h.2 j (by omega)
  rw [if_neg (by omega), List.getElem?_eq_getElem hi] at ei
  rw [if_neg (by omega), List.getElem?_eq_getElem hjl] at ej
  by_cases hkj : k = j
  · subst hkj
    rw [List.getElem?_set_self (by simp; omega), ei, if_pos (by omega)]
    congr 1; omega
  · rw [List.getElem?_set_ne (by omega)]
    by_cases hki : k = i
    · subst hki
      rw [List.getElem?_set_self (by omega), ej, if_pos (by omega)]
      congr 1; omega
    · rw [List.getElem?_set_ne (by omega), h.2 k hk]
      by_cases hc : k < i ∨ l.length - i ≤ k
      · rw [if_pos hc, if_pos (by omega)]
      · rw [if_neg hc, if_neg (by omega)]
end
/-- two elements of three cells change places -/
theorem OwnL.swap3 {α : Type} {E : TypeId} {cells : α → List Value} {I : (Nat → Prop) → World → α → Prop} {B : Nat} {w : World} {v : Value} {ps : List α} {g : Nat} (hI : Inner I) (hf : ∀ a, (cells a).length = 3) (h : OwnL E 3 cells I B w v ps) (hg : v.ownBlock = some g) (i j : Nat) (hi : i < ps.length) (hj : j < ps.length) (a b : α) (a0 a1 a2 b0 b1 b2 : Value)
    (hca : cells a = [a0, a1, a2]) (hcb : cells b = [b0, b1, b2]) (ha : I (fun b => B ≤ b ∧ some b ≠ v.ownBlock) w a) (hb : I (fun b => B ≤ b ∧ some b ≠ v.ownBlock) w b) (hBg : B ≤ g) :
    OwnL E 3 cells I B ((((((w.setCell ⟨g, i * 3, none⟩ b0).setCell ⟨g, i * 3 + 1, none⟩ b1).setCell ⟨g, i * 3 + 2, none⟩ b2).setCell ⟨g, j * 3, none⟩ a0).setCell ⟨g, j * 3 + 1, none⟩ a1).setCell ⟨g, j * 3 + 2, none⟩ a2).drew v ((ps.set i b).set j a) ∧
      Keeps (fun x => some x ≠ v.ownBlock) w ((((((w.setCell ⟨g, i * 3, none⟩ b0).setCell ⟨g, i * 3 + 1, none⟩ b1).setCell ⟨g, i * 3 + 2, none⟩ b2).setCell ⟨g, j * 3, none⟩ a0).setCell ⟨g, j * 3 + 1, none⟩ a1).setCell ⟨g, j * 3 + 2, none⟩ a2).drew ∧
      Below B w ((((((w.setCell ⟨g, i * 3, none⟩ b0).setCell ⟨g, i * 3 + 1, none⟩ b1).setCell ⟨g, i * 3 + 2, none⟩ b2).setCell ⟨g, j * 3, none⟩ a0).setCell ⟨g, j * 3 + 1, none⟩ a1).setCell ⟨g, j * 3 + 2, none⟩ a2).drew := by
  have h1 := h.put3 hI hf hg i hi b b0 b1 b2 hcb hb
  have hset : ∀ (W : World) (k : Nat) (u : Value), Keeps (fun x => some x ≠ v.ownBlock) W (W.setCell ⟨g, k, none⟩ u) := fun W k u => Keeps.set_ _ _ _ (by rw [hg]; simp)
  have hK1 := ((hset w (i * 3) b0).trans (hset _ (i * 3 + 1) b1)).trans (hset _ (i * 3 + 2) b2)
  have h2 := h1.put3 hI hf hg j (by simpa using hj) a a0 a1 a2 hca (hI.keep ha ⟨hK1.size, fun x hx hp => hK1.block x hx hp.2⟩ fun _ _ h => h)
  have hK2 := ((hK1.trans (hset _ (j * 3) a0)).trans (hset _ (j * 3 + 1) a1)).trans (hset _ (j * 3 + 2) a2)
  refine ⟨h2.keep hI (Keeps.of_below (Below.refl _ _).drew _), hK2.trans (Keeps.of_below (Below.refl _ _).drew _), ?_⟩
  exact (((((((Below.refl _ _).setCell hBg _).setCell hBg _).setCell hBg _).setCell hBg _).setCell hBg _).setCell hBg _).drew
def RevRes {α : Type} (E : TypeId) (cells : α → List Value) (I : (Nat → Prop) → World → α → Prop) (B : Nat) (w : World) (v : Value) (ps : List α) (e : Ending) (w' : World) : Prop :=
  e = .returned (.tuple #[]) ∧ OwnL E 3 cells I B w' v ps.reverse ∧ Keeps (fun b => some b ≠ v.ownBlock) w w' ∧ Below B w w'

theorem own_cells3 {α : Type} {E : TypeId} {cells : α → List Value} {I : (Nat → Prop) → World → α → Prop} {B : Nat} {w : World} {g n c : Nat} {ps : List α} (hf : ∀ a, (cells a).length = 3) (h : OwnL E 3 cells I B w (.slice (some ⟨g, 0, none⟩) n c) ps) (i : Nat) (hi : i < ps.length) :
    w.cell? ⟨g, i * 3, none⟩ = (cells ps[i])[0]? ∧ w.cell? ⟨g, i * 3 + 1, none⟩ = (cells ps[i])[1]? ∧ w.cell? ⟨g, i * 3 + 2, none⟩ = (cells ps[i])[2]? := by
  have hn : n = ps.length := by
    rcases h.1.2 with ⟨e, _⟩ | ⟨g', cap, cur, e, _⟩
    · cases e
    · injection e
  subst hn
  have key : ∀ t, t < 3 → w.cell? ⟨g, i * 3 + t, none⟩ = (cells ps[i])[t]? := fun t ht => by
    rw [h.1.cellAt (i * 3 + t) (by omega), flat_get cells 3 hf ps i t hi ht]
  exact ⟨key 0 (by omega), key 1 (by omega), key 2 (by omega)⟩
set_option maxRecDepth 100000 in
set_option maxHeartbeats 4000000 in
theorem reverse28_any {I : (Nat → Prop) → World → Rate × Value → Prop} (hI : Inner I) (hform : ∀ P w p, I P w p → ∃ A n c, p.2 = .slice A n c) (B : Nat) (v : Value) (ps : List (Rate × Value)) (w : World) (h : OwnL 57 3 rateCells I B w v ps) (hl : ps.length ≤ 1000) : Calls Try.prog 28 #[v] w (RevRes 57 rateCells I B w v ps) := by
  have hh := Lib.hid h
  obtain ⟨A, c, rfl⟩ := h.form_
  clear h
  go_enter Try.func28, Try.ntmps28
  go_wp2
  go_loopw [2, 3] (fun s2 s3 wr => ∃ (i : Nat) (jz : Int) (L : List (Rate × Value)), s2 = .int .i64 (i : Int) ∧ s3 = .int .i64 jz ∧ jz + 1 + i = ps.length ∧ 2 * i ≤ ps.length ∧ Hid (RevTo ps i L) ∧ OwnL 57 3 rateCells I B wr (.slice A ps.length c) L ∧ Keeps (fun b => some b ≠ (Value.slice A ps.length c).ownBlock) w wr ∧ Below B w wr) (fun s2 _ _ => ps.length - (intOf s2).toNat)
  case atStart => exact ⟨0, (ps.length : Int) - 1, ps, rfl, by go_num, by omega, by omega, Lib.hid (revTo_zero _), hh.out, Keeps.of_below (Below.refl _ _) _, Below.refl _ _⟩
  case round =>
    obtain ⟨i, jz, L, rfl, rfl, hj, h2i, hrev, hown, hkp, hbr⟩ := hrel
    by_cases hlt : (i : Int) < jz
    · obtain ⟨j, rfl⟩ : ∃ j : Nat, jz = (j : Int) := ⟨jz.toNat, by omega⟩
      have hlt' : decide ((i : Int) < (j : Int)) = true := by simp; omega
      have hLl : L.length = ps.length := hrev.out.1
      have hiL : i < L.length := by omega
      have hjL : j < L.length := by omega
      have hex : ∃ g, A = some ⟨g, 0, none⟩ ∧ B ≤ g := by
        rcases hown.1.2 with ⟨_, h0⟩ | ⟨g', cap, cur, e, hb, _⟩
        · omega
        · injection e with e1; exact ⟨g', e1, hb⟩
      obtain ⟨g, rfl, hBg⟩ := hex
      obtain ⟨e0, e1, e2⟩ := own_cells3 (fun _ => rfl) hown i hiL
      obtain ⟨f0, f1, f2⟩ := own_cells3 (fun _ => rfl) hown j hjL
      have hfz := ownsRow_frozen hown.1 (g := g) rfl
      have ini := hown.2 L[i] (List.getElem_mem hiL)
      have inj := hown.2 L[j] (List.getElem_mem hjL)
      have hrev' := Lib.hid (hrev.out.step (j := j) (by omega) (by omega) hiL hjL)
      generalize hpi : L[i] = pi at *
      generalize hpj : L[j] = pj at *
      obtain ⟨⟨ci, si, bi⟩, vi⟩ := pi
      obtain ⟨⟨cj, sj, bj⟩, vj⟩ := pj
      obtain ⟨Ai, li, qi, hvi⟩ := hform _ _ _ ini
      obtain ⟨Aj, lj, qj, hvj⟩ := hform _ _ _ inj
      dsimp only at hvi hvj
      subst hvi hvj
      simp only [rateCells, List.getElem?_cons_zero, List.getElem?_cons_succ] at e0 e1 e2 f0 f1 f2
      have hS := Lib.hid (OwnL.swap3 hI (fun _ => rfl) hown rfl i j hiL hjL _ _ _ _ _ _ _ _ rfl rfl ini inj hBg)
      clear hown ini inj
      have hip : i < ps.length := by omega
      have hjp : j < ps.length := by omega
      have hij3 : i * 3 + 3 ≤ j * 3 := by omega
      have hij4 : i ≠ j := by omega
      go_wp2_with fail
      go_region_law (fail)
      all_goals
        go_wp2
        go_roundw
        case rel => exact ⟨i + 1, (j : Int) - 1, _, by go_num, by go_num, by omega, by omega, hrev', hS.out.1, hkp.trans hS.out.2.1, hbr.trans hS.out.2.2⟩
        case measure => simp [intOf]; omega
    · have hlt' : decide ((i : Int) < jz) = false := by simp; omega
      have hL : L = ps.reverse := hrev.out.done h2i (by omega)
      subst hL
      have hW := Lib.hid hown
      clear hown
      go_wp2
      go_end0
      exact ⟨rfl, hW.out, hkp, hbr⟩
set_option maxRecDepth 100000 in
set_option maxHeartbeats 4000000 in
theorem reverse29_any (B : Nat) (v : Value) (ps : List Zone) (w : World) (h : OwnZones B w v ps) (hl : ps.length ≤ 1000) : Calls Try.prog 29 #[v] w (RevRes 67 zoneCells zoneIn B w v ps) := by
  have hh := Lib.hid h
  obtain ⟨A, c, rfl⟩ := h.form_
  clear h
  go_enter Try.func29, Try.ntmps29
  go_wp2
  go_loopw [2, 3] (fun s2 s3 wr => ∃ (i : Nat) (jz : Int) (L : List Zone), s2 = .int .i64 (i : Int) ∧ s3 = .int .i64 jz ∧ jz + 1 + i = ps.length ∧ 2 * i ≤ ps.length ∧ Hid (RevTo ps i L) ∧ OwnZones B wr (.slice A ps.length c) L ∧ Keeps (fun b => some b ≠ (Value.slice A ps.length c).ownBlock) w wr ∧ Below B w wr) (fun s2 _ _ => ps.length - (intOf s2).toNat)
  case atStart => exact ⟨0, (ps.length : Int) - 1, ps, rfl, by go_num, by omega, by omega, Lib.hid (revTo_zero _), hh.out, Keeps.of_below (Below.refl _ _) _, Below.refl _ _⟩
  case round =>
    obtain ⟨i, jz, L, rfl, rfl, hj, h2i, hrev, hown, hkp, hbr⟩ := hrel
    by_cases hlt : (i : Int) < jz
    · obtain ⟨j, rfl⟩ : ∃ j : Nat, jz = (j : Int) := ⟨jz.toNat, by omega⟩
      have hlt' : decide ((i : Int) < (j : Int)) = true := by simp; omega
      have hLl : L.length = ps.length := hrev.out.1
      have hiL : i < L.length := by omega
      have hjL : j < L.length := by omega
      have hex : ∃ g, A = some ⟨g, 0, none⟩ ∧ B ≤ g := by
        rcases hown.1.2 with ⟨_, h0⟩ | ⟨g', cap, cur, e, hb, _⟩
        · omega
        · injection e with e1; exact ⟨g', e1, hb⟩
      obtain ⟨g, rfl, hBg⟩ := hex
      obtain ⟨e0, e1, e2⟩ := own_cells3 (fun _ => rfl) hown i hiL
      obtain ⟨f0, f1, f2⟩ := own_cells3 (fun _ => rfl) hown j hjL
      have hfz := ownsRow_frozen hown.1 (g := g) rfl
      have ini := hown.2 L[i] (List.getElem_mem hiL)
      have inj := hown.2 L[j] (List.getElem_mem hjL)
      have hrev' := Lib.hid (hrev.out.step (j := j) (by omega) (by omega) hiL hjL)
      generalize hpi : L[i] = pi at *
      generalize hpj : L[j] = pj at *
      obtain ⟨fi, di, ni⟩ := pi
      obtain ⟨fj, dj, nj⟩ := pj
      simp only [zoneCells, List.getElem?_cons_zero, List.getElem?_cons_succ] at e0 e1 e2 f0 f1 f2
      have hS := Lib.hid (OwnL.swap3 zoneIn_inner (fun _ => rfl) hown rfl i j hiL hjL _ _ _ _ _ _ _ _ rfl rfl ini inj hBg)
      clear hown ini inj
      have hip : i < ps.length := by omega
      have hjp : j < ps.length := by omega
      have hij3 : i * 3 + 3 ≤ j * 3 := by omega
      have hij4 : i ≠ j := by omega
      go_wp2_with fail
      go_region_law (fail)
      all_goals
        go_wp2
        go_roundw
        case rel => exact ⟨i + 1, (j : Int) - 1, _, by go_num, by go_num, by omega, by omega, hrev', hS.out.1, hkp.trans hS.out.2.1, hbr.trans hS.out.2.2⟩
        case measure => simp [intOf]; omega
    · have hlt' : decide ((i : Int) < jz) = false := by simp; omega
      have hL : L = ps.reverse := hrev.out.done h2i (by omega)
      subst hL
      have hW := Lib.hid hown
      clear hown
      go_wp2
      go_end0
      exact ⟨rfl, hW.out, hkp, hbr⟩
/-- a rate in memory, nothing of it in block vC -/
def rateNo (vC : Nat) (P : Nat → Prop) (w : World) (p : Rate × Value) : Prop := rateIn (fun b => P b ∧ b ≠ vC) w p
theorem rateNo_inner (vC : Nat) : Inner (rateNo vC) := ⟨fun h k hPQ => rateIn_inner.keep h ⟨k.size, fun b hb hp => k.block b hb hp.1⟩ fun b hb hp => ⟨hPQ b hb hp.1, hp.2⟩⟩
theorem rateNo_form (vC : Nat) : ∀ P w p, rateNo vC P w p → ∃ A n c, p.2 = .slice A n c := fun P w p h => by
  obtain ⟨A, c, e, -⟩ := h.1
  exact ⟨A, _, c, e⟩
theorem OwnRates.no {B : Nat} {w w' : World} {v : Value} {ps : List (Rate × Value)} (h : OwnRates B w v ps) (hb : Below w.heap.size w w') : OwnL 57 3 rateCells (rateNo w.heap.size) B w' v ps :=
  ⟨(h.keep rateIn_inner (Keeps.of_below hb _)).1, fun p hp => rateIn_inner.keep (h.2 p hp) (Keeps.of_below hb _) fun b hb hp => ⟨hp, by omega⟩⟩
theorem ratesP_no {vC B : Nat} {w : World} {v : Value} {ps : List (Rate × Value)} (h : OwnL 57 3 rateCells (rateNo vC) B w v ps) (hv : v.ownBlock ≠ some vC) : IsRatesP (fun b => b ≠ vC ∧ b < w.heap.size) w v (ps.map (·.1)) := by
  have hl : (ps.map (·.1)).length = ps.length := by simp
  unfold IsRatesP
  rw [hl]
  obtain ⟨A, c, e, hn, hc, hA⟩ := OwnL.sl h (fun _ => rfl)
  refine ⟨A, c, e, hn, hc, fun h0 => ?_⟩
  obtain ⟨b, off, e2, hb, _, hr⟩ := hA h0
  have hob : some b = v.ownBlock := (hr 0 h0).2.1
  refine ⟨b, off, e2, hb, ⟨fun e3 => hv (by rw [← hob, e3]), hb⟩, fun i hi => ?_⟩
  show IsRateP _ w b (off + i * 3) ((ps.map (·.1)).getD i Rate.zero)
  have h0 := (hr i hi).2.2 hi 0 (by omega)
  have h1 := (hr i hi).2.2 hi 1 (by omega)
  have h2 := (hr i hi).2.2 hi 2 (by omega)
  rw [getD_of _ _ i (by rw [hl]; exact hi), List.getElem_map]
  have hin := h.2 ps[i] (List.getElem_mem hi)
  exact ⟨by simpa [rateCells] using h0, ⟨ps[i].2, by simpa [rateCells] using h1, hin.1.keep ⟨Nat.le_refl _, fun _ _ _ => rfl⟩ fun b hb hp => ⟨hp.2, hb⟩⟩, by simpa [rateCells] using h2, hin.2⟩
end Go.Proofs.Ythbnbfeolfkkaaa
