/- Rows that the call itself makes and appends to, of whatever element, with what lies behind their elements. -/
import Derived.Test.YthbnbfeolfkkaaaScheme
import Derived.Maps.AppendAt
import Derived.Deep.AppendLies
import Derived.Deep.Onto
import Derived.Laws.OwnMore
namespace Go.Proofs.Ythbnbfeolfkkaaa
open Go.RowKit

/-- the blocks of P are in w' as they were in w -/
structure Keeps (P : Nat → Prop) (w w' : World) : Prop where
  size : w.heap.size ≤ w'.heap.size
  block : ∀ b, b < w.heap.size → P b → w'.heap[b]? = w.heap[b]?
theorem Keeps.of_below {w w' : World} (h : Below w.heap.size w w') (P : Nat → Prop) : Keeps P w w' := ⟨h.size, fun b hb _ => h.block b hb⟩
theorem Keeps.of_grown {w w' : World} {row : Option Nat} (h : w.grownBy w' row) {P : Nat → Prop} (hP : ∀ b, P b → some b ≠ row) : Keeps P w w' := ⟨h.size, fun b hb hp => h.block b hb (hP b hp)⟩
theorem Keeps.cell {P : Nat → Prop} {w w' : World} (h : Keeps P w w') {b o : Nat} (hb : b < w.heap.size) (hp : P b) : w'.cell? ⟨b, o, none⟩ = w.cell? ⟨b, o, none⟩ := World.cell?_of_block (h.block b hb hp)
theorem Keeps.set_ {P : Nat → Prop} (w : World) (p : Addr) (u : Value) (hp : ¬ P p.block) : Keeps P w (w.setCell p u) := ⟨by simp [World.setCell], fun b _ hb => Below.heap_setCell w p u b (fun e => hp (e ▸ hb))⟩
theorem Keeps.trans {P : Nat → Prop} {a b c : World} (h : Keeps P a b) (k : Keeps P b c) : Keeps P a c := ⟨Nat.le_trans h.size k.size, fun i hi hp => (k.block i (Nat.lt_of_lt_of_le hi h.size) hp).trans (h.block i hi hp)⟩

def SlP (P : Nat → Prop) (w : World) (v : Value) (n : Nat) (R : Nat → Nat → Nat → Prop) : Prop :=
  ∃ A c, v = .slice A n c ∧ n ≤ c ∧ c ≤ maxLen ∧ (0 < n → ∃ b off, A = some ⟨b, off, none⟩ ∧ b < w.heap.size ∧ P b ∧ ∀ i, i < n → R b off i)
theorem SlP.map {P Q : Nat → Prop} {w w' : World} {v : Value} {n : Nat} {R R' : Nat → Nat → Nat → Prop} (h : SlP P w v n R) (hs : w.heap.size ≤ w'.heap.size) (hPQ : ∀ b, b < w.heap.size → P b → Q b)
    (hR : ∀ b off i, b < w.heap.size → P b → i < n → R b off i → R' b off i) : SlP Q w' v n R' := by
  obtain ⟨A, c, hv, hn, hc, hA⟩ := h
  refine ⟨A, c, hv, hn, hc, fun h0 => ?_⟩
  obtain ⟨b, off, e, hb, hp, hi⟩ := hA h0
  exact ⟨b, off, e, Nat.lt_of_lt_of_le hb hs, hPQ b hb hp, fun i hin => hR b off i hb hp hin (hi i hin)⟩
theorem SlP.plain {P : Nat → Prop} {w : World} {v : Value} {n : Nat} {R R' : Nat → Nat → Nat → Prop} (h : SlP P w v n R) (hR : ∀ b off i, b < w.heap.size → P b → i < n → R b off i → R' b off i) : Sl w v n R' := by
  obtain ⟨A, c, hv, hn, hc, hA⟩ := h
  refine ⟨A, c, hv, hn, hc, fun h0 => ?_⟩
  obtain ⟨b, off, e, hb, hp, hi⟩ := hA h0
  exact ⟨b, off, e, hb, fun i hin => hR b off i hb hp hin (hi i hin)⟩
def IsIntsP (P : Nat → Prop) (w : World) (v : Value) (xs : List Int) : Prop :=
  SlP P w v xs.length fun b off i => w.cell? ⟨b, off + i, none⟩ = some (.int .i64 (xs.getD i 0))
def IsStepP (P : Nat → Prop) (w : World) (b o : Nat) (s : Step) : Prop :=
  w.cell? ⟨b, o, none⟩ = some (.int .i64 s.grams) ∧ ∃ cv, w.cell? ⟨b, o + 1, none⟩ = some cv ∧ IsIntsP P w cv s.cents
def IsStepsP (P : Nat → Prop) (w : World) (v : Value) (ss : List Step) : Prop :=
  SlP P w v ss.length fun b off i => IsStepP P w b (off + i * 2) (ss.getD i Step.zero)
theorem IsIntsP.plain {P : Nat → Prop} {w : World} {v : Value} {xs : List Int} (h : IsIntsP P w v xs) : IsInts w v xs := SlP.plain h fun _ _ _ _ _ _ hc => hc
theorem IsStepsP.plain {P : Nat → Prop} {w : World} {v : Value} {ss : List Step} (h : IsStepsP P w v ss) : IsSteps w v ss :=
  SlP.plain h fun _ _ _ _ _ _ ⟨h1, cv, h2, h3⟩ => ⟨h1, cv, h2, h3.plain⟩
theorem IsIntsP.keep {P Q : Nat → Prop} {w w' : World} {v : Value} {xs : List Int} (h : IsIntsP P w v xs) (k : Keeps P w w') (hPQ : ∀ b, b < w.heap.size → P b → Q b) : IsIntsP Q w' v xs :=
  SlP.map h k.size hPQ fun _ _ _ hb hp _ hc => (k.cell hb hp).trans hc
theorem IsStepsP.keep {P Q : Nat → Prop} {w w' : World} {v : Value} {ss : List Step} (h : IsStepsP P w v ss) (k : Keeps P w w') (hPQ : ∀ b, b < w.heap.size → P b → Q b) : IsStepsP Q w' v ss :=
  SlP.map h k.size hPQ fun _ _ _ hb hp _ ⟨h1, cv, h2, h3⟩ => ⟨(k.cell hb hp).trans h1, cv, (k.cell hb hp).trans h2, h3.keep k hPQ⟩

theorem flat_get {α β : Type} (f : α → List β) (k : Nat) (hf : ∀ a, (f a).length = k) : ∀ (l : List α) (i j : Nat) (hi : i < l.length), j < k → (l.flatMap f)[i * k + j]? = (f l[i])[j]?
  | [], i, _, hi, _ => by simp at hi
  | a :: l, 0, j, _, hj => by
    simp only [List.flatMap_cons, Nat.zero_mul, Nat.zero_add, List.getElem_cons_zero]
    rw [List.getElem?_append_left (by rw [hf]; exact hj)]
  | a :: l, i + 1, j, hi, hj => by
    simp only [List.flatMap_cons, List.getElem_cons_succ]
    rw [List.getElem?_append_right (by rw [hf, Nat.succ_mul]; omega), hf, show (i + 1) * k + j - k = i * k + j from by rw [Nat.succ_mul]; omega]
    exact flat_get f k hf l i j (by simpa using hi) hj

/-- what lies behind the elements of a row: it goes by the blocks of P alone -/
structure Inner {α : Type} (I : (Nat → Prop) → World → α → Prop) : Prop where
  keep : ∀ {P Q : Nat → Prop} {w w' : World} {a : α}, I P w a → Keeps P w w' → (∀ b, b < w.heap.size → P b → Q b) → I Q w' a
/-- a row of the call's own: its cells, and what lies behind them, in blocks from base on that are not the row's own -/
def OwnL {α : Type} (E : TypeId) (k : Nat) (cells : α → List Value) (I : (Nat → Prop) → World → α → Prop) (base : Nat) (w : World) (v : Value) (ps : List α) : Prop :=
  w.ownsRow base E k v ps.length (ps.flatMap cells) ∧ ∀ p ∈ ps, I (fun b => base ≤ b ∧ some b ≠ v.ownBlock) w p
section
variable {α : Type} {E : TypeId} {k : Nat} {cells : α → List Value} {I : (Nat → Prop) → World → α → Prop} {base : Nat} {w w' : World} {v v' : Value} {ps : List α}
theorem OwnL.nil_ : OwnL E k cells I base w (.slice none 0 0) [] := ⟨⟨by simp, .inl ⟨rfl, rfl⟩⟩, fun _ hp => by cases hp⟩
theorem OwnL.keep (hI : Inner I) (h : OwnL E k cells I base w v ps) (hk : Keeps (fun b => base ≤ b) w w') : OwnL E k cells I base w' v ps := by
  refine ⟨⟨h.1.1, ?_⟩, fun p hp => hI.keep (h.2 p hp) ⟨hk.size, fun b hb hp => hk.block b hb hp.1⟩ fun _ _ h => h⟩
  rcases h.1.2 with h0 | ⟨g, cap, cur, e, hb, hg, h1⟩
  · exact .inl h0
  · refine .inr ⟨g, cap, cur, e, hb, (hk.block g ?_ hb).trans hg, h1⟩
    exact (Array.getElem?_eq_some_iff.1 hg).1
theorem OwnL.append (hI : Inner I) (h : OwnL E k cells I base w v ps) {a : α} (ha : I (fun b => base ≤ b ∧ some b ≠ v.ownBlock) w a)
    (hown : w'.ownsRow base E k v' (ps.length + 1) (ps.flatMap cells ++ cells a)) (hg : w.grownBy w' v.ownBlock) (hat : v'.ownBlock = v.ownBlock ∨ ∃ H, v'.ownBlock = some H ∧ w.heap.size ≤ H) :
    OwnL E k cells I base w' v' (ps ++ [a]) := by
  have hPQ : ∀ b, b < w.heap.size → (base ≤ b ∧ some b ≠ v.ownBlock) → (base ≤ b ∧ some b ≠ v'.ownBlock) := fun b hb hp => ⟨hp.1, by
    rcases hat with e | ⟨H, e, hH⟩
    · rw [e]; exact hp.2
    · rw [e]; intro e2; injection e2 with e2; omega⟩
  have hK : Keeps (fun b => base ≤ b ∧ some b ≠ v.ownBlock) w w' := Keeps.of_grown hg fun b hb => hb.2
  refine ⟨by simpa using hown, fun p hp => ?_⟩
  rcases List.mem_append.1 hp with hp | hp
  · exact hI.keep (h.2 p hp) hK hPQ
  · rw [List.mem_singleton.1 hp]
    exact hI.keep ha hK hPQ
/-- the row as a slice whose elements are known -/
theorem OwnL.sl (h : OwnL E k cells I base w v ps) (hf : ∀ a, (cells a).length = k) :
    SlP (fun b => base ≤ b) w v ps.length fun b off i => off = 0 ∧ some b = v.ownBlock ∧ ∀ (hi : i < ps.length) (j : Nat), j < k → w.cell? ⟨b, off + i * k + j, none⟩ = (cells ps[i])[j]? := by
  rcases h.1.2 with ⟨rfl, h0⟩ | ⟨g, cap, cur, rfl, hb, hg, hnc, hcm, hcs, _⟩
  · exact ⟨none, 0, by rw [h0], by omega, Nat.zero_le _, fun h => absurd h (by omega)⟩
  · refine ⟨_, _, rfl, hnc, hcm, fun _ => ⟨g, 0, rfl, (Array.getElem?_eq_some_iff.1 hg).1, hb, fun i hi => ⟨rfl, rfl, fun hi j hj => ?_⟩⟩⟩
    have hlt : i * k + j < ps.length * k := by
      have : (i + 1) * k ≤ ps.length * k := Nat.mul_le_mul_right k hi
      rw [Nat.succ_mul] at this
      omega
    rw [Nat.zero_add, h.1.cellAt (i * k + j) hlt, flat_get cells k hf ps i j hi hj]
theorem OwnL.block_lt (h : OwnL E k cells I base w v ps) {g : Nat} (hg : v.ownBlock = some g) : base ≤ g ∧ g < w.heap.size := h.1.lt g hg
end

/-! the rows of this program -/
def noInner {α : Type} : (Nat → Prop) → World → α → Prop := fun _ _ _ => True
theorem noInner_inner {α : Type} : Inner (noInner (α := α)) := ⟨fun h _ _ => h⟩
def intCells (x : Int) : List Value := [.int .i64 x]
def stepCells (p : Step × Value) : List Value := [.int .i64 p.1.grams, p.2]
def stepIn (P : Nat → Prop) (w : World) (p : Step × Value) : Prop := IsIntsP P w p.2 p.1.cents
def rateCells (p : Rate × Value) : List Value := [.int .u8 p.1.cls, p.2, .int .i64 p.1.bar]
def rateIn (P : Nat → Prop) (w : World) (p : Rate × Value) : Prop := IsStepsP P w p.2 p.1.steps ∧ 0 ≤ p.1.cls ∧ p.1.cls ≤ 255
def zoneCells (z : Zone) : List Value := [.string z.frm, .string z.dst, .int .i64 z.zone]
def zoneIn (_ : Nat → Prop) (_ : World) (z : Zone) : Prop := z.frm.size ≤ maxLen ∧ z.dst.size ≤ maxLen
theorem stepIn_inner : Inner stepIn := ⟨fun h k hPQ => IsIntsP.keep h k hPQ⟩
theorem rateIn_inner : Inner rateIn := ⟨fun h k hPQ => ⟨IsStepsP.keep h.1 k hPQ, h.2⟩⟩
theorem zoneIn_inner : Inner zoneIn := ⟨fun h _ _ => h⟩
abbrev OwnInts := OwnL 3 1 intCells noInner
abbrev OwnSteps := OwnL 61 2 stepCells stepIn
abbrev OwnRates := OwnL 57 3 rateCells rateIn
abbrev OwnZones := OwnL 67 3 zoneCells zoneIn
section
variable {base : Nat} {w : World} {v : Value}
theorem getD_of {α : Type} (l : List α) (d : α) (i : Nat) (h : i < l.length) : l.getD i d = l[i] := by rw [List.getD_eq_getElem?_getD, List.getElem?_eq_getElem h]; rfl
theorem OwnInts.ints {xs : List Int} (h : OwnInts base w v xs) : IsIntsP (fun b => base ≤ b) w v xs := by
  have hsl := OwnL.sl h (fun _ => rfl)
  exact SlP.map hsl (Nat.le_refl _) (fun _ _ h => h) fun b off i _ _ hi hr => by
    have := hr.2.2 hi 0 (by omega)
    rw [getD_of xs 0 i hi]
    simpa [intCells] using this
theorem OwnSteps.steps {ps : List (Step × Value)} (h : OwnSteps base w v ps) : IsStepsP (fun b => base ≤ b) w v (ps.map (·.1)) := by
  have hl : (ps.map (·.1)).length = ps.length := by simp
  unfold IsStepsP
  rw [hl]
  have hsl := OwnL.sl h (fun _ => rfl)
  refine SlP.map hsl (Nat.le_refl _) (fun _ _ h => h) fun b off i hb _ hi hr => ?_
  have h0 := hr.2.2 hi 0 (by omega)
  have h1 := hr.2.2 hi 1 (by omega)
  rw [getD_of _ _ i (by rw [hl]; exact hi), List.getElem_map]
  exact ⟨by simpa [stepCells] using h0, ps[i].2, by simpa [stepCells] using h1, IsIntsP.keep (h.2 ps[i] (List.getElem_mem hi)) ⟨Nat.le_refl _, fun _ _ _ => rfl⟩ fun _ _ h => h.1⟩
theorem OwnRates.rates {ps : List (Rate × Value)} (h : OwnRates base w v ps) : IsRates w v (ps.map (·.1)) := by
  have hl : (ps.map (·.1)).length = ps.length := by simp
  unfold IsRates
  rw [hl]
  have hsl := OwnL.sl h (fun _ => rfl)
  refine SlP.plain hsl fun b off i hb _ hi hr => ?_
  have h0 := hr.2.2 hi 0 (by omega)
  have h1 := hr.2.2 hi 1 (by omega)
  have h2 := hr.2.2 hi 2 (by omega)
  rw [getD_of _ _ i (by rw [hl]; exact hi), List.getElem_map]
  have hin := h.2 ps[i] (List.getElem_mem hi)
  exact ⟨by simpa [rateCells] using h0, ⟨ps[i].2, by simpa [rateCells] using h1, hin.1.plain⟩, by simpa [rateCells] using h2, hin.2⟩
theorem OwnZones.zones {zs : List Zone} (h : OwnZones base w v zs) : IsZones w v zs := by
  have hsl := OwnL.sl h (fun _ => rfl)
  exact SlP.plain hsl fun b off i hb _ hi hr => by
    have h0 := hr.2.2 hi 0 (by omega)
    have h1 := hr.2.2 hi 1 (by omega)
    have h2 := hr.2.2 hi 2 (by omega)
    rw [getD_of zs Zone.zero i hi]
    have hin := h.2 zs[i] (List.getElem_mem hi)
    exact ⟨by simpa [zoneCells] using h0, by simpa [zoneCells] using h1, by simpa [zoneCells] using h2, hin⟩
end
end Go.Proofs.Ythbnbfeolfkkaaa
