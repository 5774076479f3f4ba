/- Slices that are lent: their spare room bears twelve marks. -/
import Derived.Test.YthbnbfeolfkkaaaL7
namespace Go.Proofs.Ythbnbfeolfkkaaa
open Go.RowKit Go.Maps

/-- the mark at a place -/
def mk (j : Nat) : Int := 8000024 + (j : Int)
def markZ (j : Nat) : Zone := ⟨⟨#[]⟩, ⟨#[]⟩, mk j⟩

/-- a slice with twelve marks behind its elements: what each element is, what each mark is -/
def Lt (P : Nat → Prop) (w : World) (v : Value) (n : Nat) (R M : Nat → Nat → Prop) : Prop :=
  ∃ b c, v = .slice (some ⟨b, 0, none⟩) n c ∧ n + 12 ≤ c ∧ c ≤ maxLen ∧ b < w.heap.size ∧ P b ∧ (∀ i, i < n → R b i) ∧ ∀ j, j < 12 → M b j
theorem Lt.map {P Q : Nat → Prop} {w w' : World} {v : Value} {n : Nat} {R R' M M' : Nat → Nat → Prop} (h : Lt P w v n R M) (hs : w.heap.size ≤ w'.heap.size) (hPQ : ∀ b, b < w.heap.size → P b → Q b)
    (hR : ∀ b i, b < w.heap.size → P b → i < n → R b i → R' b i) (hM : ∀ b j, b < w.heap.size → P b → M b j → M' b j) : Lt Q w' v n R' M' := by
  obtain ⟨b, c, hv, hn, hc, hb, hp, h1, h2⟩ := h
  exact ⟨b, c, hv, hn, hc, Nat.lt_of_lt_of_le hb hs, hPQ b hb hp, fun i hi => hR b i hb hp hi (h1 i hi), fun j hj => hM b j hb hp (h2 j hj)⟩
theorem Lt.slp {P : Nat → Prop} {w : World} {v : Value} {n : Nat} {R M : Nat → Nat → Prop} {R' : Nat → Nat → Nat → Prop} (h : Lt P w v n R M) (hR : ∀ b i, b < w.heap.size → P b → i < n → R b i → R' b 0 i) : SlP P w v n R' := by
  obtain ⟨b, c, hv, hn, hc, hb, hp, h1, h2⟩ := h
  exact ⟨_, _, hv, by omega, hc, fun _ => ⟨b, 0, rfl, hb, hp, fun i hi => hR b i hb hp hi (h1 i hi)⟩⟩

def LtInts (P : Nat → Prop) (w : World) (v : Value) (xs : List Int) : Prop :=
  Lt P w v xs.length (fun b i => w.cell? ⟨b, i, none⟩ = some (.int .i64 (xs.getD i 0))) fun b j => w.cell? ⟨b, xs.length + j, none⟩ = some (.int .i64 (mk j))
def LtStep (P : Nat → Prop) (w : World) (b o : Nat) (s : Step) : Prop := w.cell? ⟨b, o, none⟩ = some (.int .i64 s.grams) ∧ ∃ cv, w.cell? ⟨b, o + 1, none⟩ = some cv ∧ LtInts P w cv s.cents
def LtSteps (P : Nat → Prop) (w : World) (v : Value) (ss : List Step) : Prop :=
  Lt P w v ss.length (fun b i => LtStep P w b (i * 2) (ss.getD i Step.zero)) fun b j => w.cell? ⟨b, (ss.length + j) * 2, none⟩ = some (.int .i64 (mk j)) ∧ w.cell? ⟨b, (ss.length + j) * 2 + 1, none⟩ = some (.slice none 0 0)
def LtRate (P : Nat → Prop) (w : World) (b o : Nat) (r : Rate) : Prop :=
  w.cell? ⟨b, o, none⟩ = some (.int .u8 r.cls) ∧ (∃ sv, w.cell? ⟨b, o + 1, none⟩ = some sv ∧ LtSteps P w sv r.steps) ∧ w.cell? ⟨b, o + 2, none⟩ = some (.int .i64 r.bar) ∧ 0 ≤ r.cls ∧ r.cls ≤ 255
def LtRates (P : Nat → Prop) (w : World) (v : Value) (rs : List Rate) : Prop :=
  Lt P w v rs.length (fun b i => LtRate P w b (i * 3) (rs.getD i Rate.zero)) fun b j => w.cell? ⟨b, (rs.length + j) * 3, none⟩ = some (.int .u8 0) ∧ w.cell? ⟨b, (rs.length + j) * 3 + 1, none⟩ = some (.slice none 0 0) ∧ w.cell? ⟨b, (rs.length + j) * 3 + 2, none⟩ = some (.int .i64 (mk j))
def LtZones (P : Nat → Prop) (w : World) (v : Value) (zs : List Zone) : Prop :=
  Lt P w v zs.length (fun b i => IsZone w b (i * 3) (zs.getD i Zone.zero)) fun b j => IsZone w b ((zs.length + j) * 3) (markZ j)
section
variable {P Q : Nat → Prop} {w w' : World} {v : Value}
theorem LtInts.keep {xs : List Int} (h : LtInts P w v xs) (k : Keeps P w w') (hPQ : ∀ b, b < w.heap.size → P b → Q b) : LtInts Q w' v xs :=
  Lt.map h k.size hPQ (fun _ _ hb hp _ hc => (k.cell hb hp).trans hc) fun _ _ hb hp hc => (k.cell hb hp).trans hc
theorem LtStep.keep {b o : Nat} {s : Step} (h : LtStep P w b o s) (hb : b < w.heap.size) (hp : P b) (k : Keeps P w w') (hPQ : ∀ b, b < w.heap.size → P b → Q b) : LtStep Q w' b o s := by
  obtain ⟨h1, cv, h2, h3⟩ := h
  exact ⟨(k.cell hb hp).trans h1, cv, (k.cell hb hp).trans h2, h3.keep k hPQ⟩
theorem LtSteps.keep {ss : List Step} (h : LtSteps P w v ss) (k : Keeps P w w') (hPQ : ∀ b, b < w.heap.size → P b → Q b) : LtSteps Q w' v ss :=
  Lt.map h k.size hPQ (fun _ _ hb hp _ hc => hc.keep hb hp k hPQ) fun _ _ hb hp hc => ⟨(k.cell hb hp).trans hc.1, (k.cell hb hp).trans hc.2⟩
theorem LtRate.keep {b o : Nat} {r : Rate} (h : LtRate P w b o r) (hb : b < w.heap.size) (hp : P b) (k : Keeps P w w') (hPQ : ∀ b, b < w.heap.size → P b → Q b) : LtRate Q w' b o r := by
  obtain ⟨h1, ⟨cv, h2, h3⟩, h4, h5⟩ := h
  exact ⟨(k.cell hb hp).trans h1, ⟨cv, (k.cell hb hp).trans h2, h3.keep k hPQ⟩, (k.cell hb hp).trans h4, h5⟩
theorem LtRates.keep {rs : List Rate} (h : LtRates P w v rs) (k : Keeps P w w') (hPQ : ∀ b, b < w.heap.size → P b → Q b) : LtRates Q w' v rs :=
  Lt.map h k.size hPQ (fun _ _ hb hp _ hc => hc.keep hb hp k hPQ) fun _ _ hb hp hc => ⟨(k.cell hb hp).trans hc.1, (k.cell hb hp).trans hc.2.1, (k.cell hb hp).trans hc.2.2⟩
theorem IsZone.keep {b o : Nat} {z : Zone} (h : IsZone w b o z) (hb : b < w.heap.size) (hp : P b) (k : Keeps P w w') : IsZone w' b o z :=
  ⟨(k.cell hb hp).trans h.1, (k.cell hb hp).trans h.2.1, (k.cell hb hp).trans h.2.2.1, h.2.2.2⟩
theorem LtZones.keep {zs : List Zone} (h : LtZones P w v zs) (k : Keeps P w w') (hPQ : ∀ b, b < w.heap.size → P b → Q b) : LtZones Q w' v zs :=
  Lt.map h k.size hPQ (fun _ _ hb hp _ hc => hc.keep hb hp k) fun _ _ hb hp hc => hc.keep hb hp k
theorem LtInts.ints {xs : List Int} (h : LtInts P w v xs) : IsInts w v xs := (Lt.slp h (R' := fun b off i => w.cell? ⟨b, off + i, none⟩ = some (.int .i64 (xs.getD i 0))) fun b i _ _ _ hc => by rw [Nat.zero_add]; exact hc).plain fun _ _ _ _ _ _ h => h
theorem LtSteps.steps {ss : List Step} (h : LtSteps P w v ss) : IsSteps w v ss := (Lt.slp h (R' := fun b off i => IsStep w b (off + i * 2) (ss.getD i Step.zero)) fun b i _ _ _ ⟨h1, cv, h2, h3⟩ => by rw [Nat.zero_add]; exact ⟨h1, cv, h2, h3.ints⟩).plain fun _ _ _ _ _ _ h => h
theorem LtRates.rates {rs : List Rate} (h : LtRates P w v rs) : IsRates w v rs := (Lt.slp h (R' := fun b off i => IsRate w b (off + i * 3) (rs.getD i Rate.zero)) fun b i _ _ _ ⟨h1, ⟨cv, h2, h3⟩, h4⟩ => by rw [Nat.zero_add]; exact ⟨h1, ⟨cv, h2, h3.steps⟩, h4⟩).plain fun _ _ _ _ _ _ h => h
theorem LtZones.zones {zs : List Zone} (h : LtZones P w v zs) : IsZones w v zs := (Lt.slp h (R' := fun b off i => IsZone w b (off + i * 3) (zs.getD i Zone.zero)) fun b i _ _ _ h => by rw [Nat.zero_add]; exact h).plain fun _ _ _ _ _ _ h => h
end
/-! rows that are being lent -/
def stepLtCells : (Step × Value) ⊕ Nat → List Value
  | .inl p => stepCells p
  | .inr j => [.int .i64 (mk j), .slice none 0 0]
def stepLtIn (P : Nat → Prop) (w : World) : (Step × Value) ⊕ Nat → Prop
  | .inl p => LtInts P w p.2 p.1.cents
  | .inr _ => True
def rateLtCells : (Rate × Value) ⊕ Nat → List Value
  | .inl p => rateCells p
  | .inr j => [.int .u8 0, .slice none 0 0, .int .i64 (mk j)]
def rateLtIn (P : Nat → Prop) (w : World) : (Rate × Value) ⊕ Nat → Prop
  | .inl p => LtSteps P w p.2 p.1.steps ∧ 0 ≤ p.1.cls ∧ p.1.cls ≤ 255
  | .inr _ => True
theorem stepLtIn_inner : Inner stepLtIn := ⟨fun {_ _ _ _ a} h k hPQ => match a, h with
  | .inl _, h => LtInts.keep h k hPQ
  | .inr _, _ => trivial⟩
theorem rateLtIn_inner : Inner rateLtIn := ⟨fun {_ _ _ _ a} h k hPQ => match a, h with
  | .inl _, h => ⟨LtSteps.keep h.1 k hPQ, h.2⟩
  | .inr _, _ => trivial⟩
theorem stepLt_len (a : (Step × Value) ⊕ Nat) : (stepLtCells a).length = 2 := by cases a <;> rfl
theorem rateLt_len (a : (Rate × Value) ⊕ Nat) : (rateLtCells a).length = 3 := by cases a <;> rfl
def marks (k : Nat) : List Nat := List.range k
theorem marks_succ (k : Nat) : marks (k + 1) = marks k ++ [k] := List.range_succ
theorem marks_len (k : Nat) : (marks k).length = k := List.length_range
section
variable {base : Nat} {w : World} {g n c : Nat}
theorem lent_inl {α : Type} (ps : List α) (k i : Nat) (hi : i < ps.length) : (ps.map (Sum.inl (β := Nat)) ++ (marks k).map Sum.inr)[i]? = some (.inl ps[i]) := by
  rw [List.getElem?_append_left (by simpa using hi)]
  simp [hi]
theorem lent_inr {α : Type} (ps : List α) (k j : Nat) (hj : j < k) : (ps.map (Sum.inl (β := Nat)) ++ (marks k).map Sum.inr)[ps.length + j]? = some (.inr j) := by
  rw [List.getElem?_append_right (by simp)]
  simp [marks, hj]
theorem own_n {α : Type} {E : TypeId} {k : Nat} {cells : α → List Value} {I : (Nat → Prop) → World → α → Prop} {ps : List α} (h : OwnL E k cells I base w (.slice (some ⟨g, 0, none⟩) n c) ps) : n = ps.length := by
  rcases h.1.2 with ⟨e, _⟩ | ⟨g', cap, cur, e, _⟩
  · cases e
  · injection e
theorem own_cellAt {α : Type} {E : TypeId} {k : Nat} {cells : α → List Value} {I : (Nat → Prop) → World → α → Prop} (hf : ∀ a, (cells a).length = k) {ps : List α} (h : OwnL E k cells I base w (.slice (some ⟨g, 0, none⟩) n c) ps) (i : Nat) (a : α) (hi : ps[i]? = some a) (j : Nat) (hj : j < k) :
    w.cell? ⟨g, i * k + j, none⟩ = (cells a)[j]? := by
  obtain rfl := own_n h
  obtain ⟨hl, e⟩ := List.getElem?_eq_some_iff.1 hi
  have hlt : i * k + j < ps.length * k := by
    have : (i + 1) * k ≤ ps.length * k := Nat.mul_le_mul_right k hl
    rw [Nat.succ_mul] at this
    omega
  rw [h.1.cellAt (i * k + j) hlt, flat_get cells k hf ps i j hl hj, e]
theorem OwnL.lent {α : Type} {E : TypeId} {k : Nat} {cells : α → List Value} {I : (Nat → Prop) → World → α → Prop} {ps : List α} {n0 : Nat} (h : OwnL E k cells I base w (.slice (some ⟨g, 0, none⟩) n c) ps) (hn : ps.length = n0 + 12) {R M : Nat → Nat → Prop}
    (hR : ∀ i, i < n0 → R g i) (hM : ∀ j, j < 12 → M g j) : Lt (fun b => base ≤ b) w (.slice (some ⟨g, 0, none⟩) n0 c) n0 R M := by
  rcases h.1.2 with ⟨e, _⟩ | ⟨g', cap, cur, e, hb, hg, hnc, hcm, hcs, _⟩
  · cases e
  · injection e with e1 e2 e3
    injection e1 with e1
    injection e1 with e1
    subst e1 e3
    exact ⟨g, _, rfl, by omega, hcm, (Array.getElem?_eq_some_iff.1 hg).1, hb, hR, hM⟩
theorem lent_steps {sps : List (Step × Value)} (h : OwnL 61 2 stepLtCells stepLtIn base w (.slice (some ⟨g, 0, none⟩) n c) (sps.map Sum.inl ++ (marks 12).map Sum.inr)) : LtSteps (fun b => base ≤ b) w (.slice (some ⟨g, 0, none⟩) sps.length c) (sps.map (·.1)) := by
  have hl : (sps.map (·.1)).length = sps.length := by simp
  unfold LtSteps
  rw [hl]
  refine h.lent (by simp [marks_len]) (fun i hi => ?_) fun j hj => ?_
  · have e := lent_inl sps 12 i hi
    have h0 := own_cellAt stepLt_len h i _ e 0 (by omega)
    have h1 := own_cellAt stepLt_len h i _ e 1 (by omega)
    rw [getD_of _ _ i (by rw [hl]; exact hi), List.getElem_map]
    have hin := h.2 (.inl sps[i]) (List.mem_append_left _ (List.mem_map_of_mem (List.getElem_mem hi)))
    exact ⟨by simpa [stepLtCells, stepCells] using h0, sps[i].2, by simpa [stepLtCells, stepCells] using h1, LtInts.keep hin ⟨Nat.le_refl _, fun _ _ _ => rfl⟩ fun _ _ h => h.1⟩
  · have e := lent_inr sps 12 j hj
    have h0 := own_cellAt stepLt_len h _ _ e 0 (by omega)
    have h1 := own_cellAt stepLt_len h _ _ e 1 (by omega)
    exact ⟨by simpa [stepLtCells] using h0, by simpa [stepLtCells] using h1⟩
theorem lent_rates {sps : List (Rate × Value)} (h : OwnL 57 3 rateLtCells rateLtIn base w (.slice (some ⟨g, 0, none⟩) n c) (sps.map Sum.inl ++ (marks 12).map Sum.inr)) : LtRates (fun b => base ≤ b) w (.slice (some ⟨g, 0, none⟩) sps.length c) (sps.map (·.1)) := by
  have hl : (sps.map (·.1)).length = sps.length := by simp
  unfold LtRates
  rw [hl]
  refine h.lent (by simp [marks_len]) (fun i hi => ?_) fun j hj => ?_
  · have e := lent_inl sps 12 i hi
    have h0 := own_cellAt rateLt_len h i _ e 0 (by omega)
    have h1 := own_cellAt rateLt_len h i _ e 1 (by omega)
    have h2 := own_cellAt rateLt_len h i _ e 2 (by omega)
    rw [getD_of _ _ i (by rw [hl]; exact hi), List.getElem_map]
    have hin := h.2 (.inl sps[i]) (List.mem_append_left _ (List.mem_map_of_mem (List.getElem_mem hi)))
    exact ⟨by simpa [rateLtCells, rateCells] using h0, ⟨sps[i].2, by simpa [rateLtCells, rateCells] using h1, LtSteps.keep hin.1 ⟨Nat.le_refl _, fun _ _ _ => rfl⟩ fun _ _ h => h.1⟩, by simpa [rateLtCells, rateCells] using h2, hin.2⟩
  · have e := lent_inr sps 12 j hj
    have h0 := own_cellAt rateLt_len h _ _ e 0 (by omega)
    have h1 := own_cellAt rateLt_len h _ _ e 1 (by omega)
    have h2 := own_cellAt rateLt_len h _ _ e 2 (by omega)
    exact ⟨by simpa [rateLtCells] using h0, by simpa [rateLtCells] using h1, by simpa [rateLtCells] using h2⟩
theorem lent_ints {xs : List Int} (h : OwnInts base w (.slice (some ⟨g, 0, none⟩) n c) (xs ++ (marks 12).map mk)) : LtInts (fun b => base ≤ b) w (.slice (some ⟨g, 0, none⟩) xs.length c) xs := by
  refine h.lent (by simp [marks_len]) (fun i hi => ?_) fun j hj => ?_
  · have h0 := own_cellAt (cells := intCells) (fun _ => rfl) h i xs[i] (by rw [List.getElem?_append_left hi]; simp [hi]) 0 (by decide)
    rw [getD_of _ _ i hi]
    simpa [intCells] using h0
  · have h0 := own_cellAt (cells := intCells) (fun _ => rfl) h (xs.length + j) (mk j) (by rw [List.getElem?_append_right (by omega)]; simp [marks, hj]) 0 (by decide)
    simpa [intCells] using h0
theorem lent_zones {zs : List Zone} (h : OwnZones base w (.slice (some ⟨g, 0, none⟩) n c) (zs ++ (marks 12).map markZ)) : LtZones (fun b => base ≤ b) w (.slice (some ⟨g, 0, none⟩) zs.length c) zs := by
  refine h.lent (by simp [marks_len]) (fun i hi => ?_) fun j hj => ?_
  · have e : (zs ++ (marks 12).map markZ)[i]? = some zs[i] := by rw [List.getElem?_append_left hi]; simp [hi]
    have h0 := own_cellAt (cells := zoneCells) (fun _ => rfl) h i _ e 0 (by omega)
    have h1 := own_cellAt (cells := zoneCells) (fun _ => rfl) h i _ e 1 (by omega)
    have h2 := own_cellAt (cells := zoneCells) (fun _ => rfl) h i _ e 2 (by omega)
    rw [getD_of _ _ i hi]
    have hin := h.2 zs[i] (List.mem_append_left _ (List.getElem_mem hi))
    exact ⟨by simpa [zoneCells] using h0, by simpa [zoneCells] using h1, by simpa [zoneCells] using h2, hin⟩
  · have e : (zs ++ (marks 12).map markZ)[zs.length + j]? = some (markZ j) := by rw [List.getElem?_append_right (by omega)]; simp [marks, hj]
    have h0 := own_cellAt (cells := zoneCells) (fun _ => rfl) h _ _ e 0 (by omega)
    have h1 := own_cellAt (cells := zoneCells) (fun _ => rfl) h _ _ e 1 (by omega)
    have h2 := own_cellAt (cells := zoneCells) (fun _ => rfl) h _ _ e 2 (by omega)
    exact ⟨by simpa [zoneCells, markZ] using h0, by simpa [zoneCells, markZ] using h1, by simpa [zoneCells, markZ] using h2, small_max (by show (0 : Nat) ≤ 1000000; omega), small_max (by show (0 : Nat) ≤ 1000000; omega)⟩
end
end Go.Proofs.Ythbnbfeolfkkaaa
