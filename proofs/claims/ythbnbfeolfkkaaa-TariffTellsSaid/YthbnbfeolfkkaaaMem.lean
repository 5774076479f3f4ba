/- How the data of the tariff lie in memory: a slice of integers, of steps, of rates, of rows of zones. -/
import Derived.Test.YthbnbfeolfkkaaaPlain
import Derived.Test.YthbnbfeolfkkaaaProg
import Derived.WalkKit
import Derived.WalkSpells
import Derived.WalkLawsBesides
import Derived.Lib.Hide
import Derived.Laws.ResultCell
import Derived.Laws.Rows
import Derived.KernelRfl
namespace Go.Proofs.Ythbnbfeolfkkaaa
open Go.RowKit

/-- a slice value of n elements: its length and capacity; R says what the element i is, from the row's first place on. -/
def Sl (w : World) (v : Value) (n : Nat) (R : Nat → Nat → Nat → Prop) : Prop :=
  ∃ A c, v = .slice A n c ∧ n ≤ c ∧ c ≤ maxLen ∧ (0 < n → ∃ b off, A = some ⟨b, off, none⟩ ∧ b < w.heap.size ∧ ∀ i, i < n → R b off i)

def IsInts (w : World) (v : Value) (xs : List Int) : Prop :=
  Sl w v xs.length fun b off i => w.cell? ⟨b, off + i, none⟩ = some (.int .i64 (xs.getD i 0))

def Rate.zero : Rate := ⟨0, [], 0⟩
def Zone.zero : Zone := ⟨ByteArray.empty, ByteArray.empty, 0⟩

def IsStep (w : World) (b o : Nat) (s : Step) : Prop :=
  w.cell? ⟨b, o, none⟩ = some (.int .i64 s.grams) ∧ ∃ cv, w.cell? ⟨b, o + 1, none⟩ = some cv ∧ IsInts w cv s.cents
def IsSteps (w : World) (v : Value) (ss : List Step) : Prop :=
  Sl w v ss.length fun b off i => IsStep w b (off + i * 2) (ss.getD i Step.zero)

def IsRate (w : World) (b o : Nat) (r : Rate) : Prop :=
  w.cell? ⟨b, o, none⟩ = some (.int .u8 r.cls) ∧ (∃ sv, w.cell? ⟨b, o + 1, none⟩ = some sv ∧ IsSteps w sv r.steps) ∧ w.cell? ⟨b, o + 2, none⟩ = some (.int .i64 r.bar) ∧ 0 ≤ r.cls ∧ r.cls ≤ 255
def IsRates (w : World) (v : Value) (rs : List Rate) : Prop :=
  Sl w v rs.length fun b off i => IsRate w b (off + i * 3) (rs.getD i Rate.zero)

def IsZone (w : World) (b o : Nat) (z : Zone) : Prop :=
  w.cell? ⟨b, o, none⟩ = some (.string z.frm) ∧ w.cell? ⟨b, o + 1, none⟩ = some (.string z.dst) ∧ w.cell? ⟨b, o + 2, none⟩ = some (.int .i64 z.zone) ∧ z.frm.size ≤ maxLen ∧ z.dst.size ≤ maxLen
def IsZones (w : World) (v : Value) (zs : List Zone) : Prop :=
  Sl w v zs.length fun b off i => IsZone w b (off + i * 3) (zs.getD i Zone.zero)

/-- old cells and old marks read as before -/
theorem bcell {W w1 : World} (hb : Below W.heap.size W w1) : (∀ b o, b < W.heap.size → w1.cell? ⟨b, o, none⟩ = W.cell? ⟨b, o, none⟩) ∧ (∀ b o, b < W.heap.size → w1.frozen? ⟨b, o, none⟩ = W.frozen? ⟨b, o, none⟩) :=
  ⟨fun b o h => hb.cell (p := ⟨b, o, none⟩) h, fun b o h => hb.frozen (p := ⟨b, o, none⟩) h⟩
def IsPiece (w : World) (b o : Nat) (p : Piece) : Prop :=
  w.cell? ⟨b, o, none⟩ = some (.int .i64 p.id) ∧ w.cell? ⟨b, o + 1, none⟩ = some (.int .i64 p.point) ∧ w.cell? ⟨b, o + 2, none⟩ = some (.string p.code) ∧ w.cell? ⟨b, o + 3, none⟩ = some (.int .i64 p.grams) ∧ w.cell? ⟨b, o + 4, none⟩ = some (.bool p.barred) ∧ p.code.size ≤ maxLen
def IsPieces (w : World) (v : Value) (ps : List Piece) : Prop :=
  Sl w v ps.length fun b off i => IsPiece w b (off + i * 5) (ps.getD i Piece.zero)

theorem ret_bool {a b : Bool} (h : a = b) : Ending.returned (.bool a) = .returned (.bool b) := by rw [h]
theorem ret_int {k : IntKind} {a b : Int} (h : a = b) : Ending.returned (.int k a) = .returned (.int k b) := by rw [h]

theorem ret_two {k l : IntKind} {a b c d : Int} (h : a = b) (h2 : c = d) : Ending.returned (.tuple #[.int k a, .int l c]) = .returned (.tuple #[.int k b, .int l d]) := by rw [h, h2]

/-- what lay in memory lies there still -/
def Stays (w w' : World) : Prop := w.heap.size ≤ w'.heap.size ∧ ∀ p : Addr, p.block < w.heap.size → w'.cell? p = w.cell? p
theorem Stays.of {w w' : World} (h : Below w.heap.size w w') : Stays w w' := ⟨h.size, fun _ hp => h.cell hp⟩
theorem Stays.refl (w : World) : Stays w w := ⟨Nat.le_refl _, fun _ _ => rfl⟩
theorem Stays.trans {a b c : World} (h : Stays a b) (k : Stays b c) : Stays a c :=
  ⟨Nat.le_trans h.1 k.1, fun p hp => (k.2 p (Nat.lt_of_lt_of_le hp h.1)).trans (h.2 p hp)⟩

theorem Sl.stays {w w' : World} {v : Value} {n : Nat} {R R' : Nat → Nat → Nat → Prop} (h : Sl w v n R) (hs : Stays w w')
    (hR : ∀ b off i, b < w.heap.size → i < n → R b off i → R' b off i) : Sl w' v n R' := by
  obtain ⟨A, c, hv, hn, hc, hA⟩ := h
  refine ⟨A, c, hv, hn, hc, fun h0 => ?_⟩
  obtain ⟨b, off, e, hb, hi⟩ := hA h0
  exact ⟨b, off, e, Nat.lt_of_lt_of_le hb hs.1, fun i hin => hR b off i hb hin (hi i hin)⟩
theorem IsInts.stays {w w' : World} {v : Value} {xs : List Int} (h : IsInts w v xs) (hs : Stays w w') : IsInts w' v xs :=
  Sl.stays h hs fun _ _ _ hb _ hc => (hs.2 _ hb).trans hc
theorem IsStep.stays {w w' : World} {b o : Nat} {s : Step} (h : IsStep w b o s) (hs : Stays w w') (hb : b < w.heap.size) : IsStep w' b o s := by
  obtain ⟨h1, cv, h2, h3⟩ := h
  exact ⟨(hs.2 _ hb).trans h1, cv, (hs.2 _ hb).trans h2, h3.stays hs⟩
theorem IsSteps.stays {w w' : World} {v : Value} {ss : List Step} (h : IsSteps w v ss) (hs : Stays w w') : IsSteps w' v ss :=
  Sl.stays h hs fun _ _ _ hb _ hc => hc.stays hs hb
theorem IsRate.stays {w w' : World} {b o : Nat} {r : Rate} (h : IsRate w b o r) (hs : Stays w w') (hb : b < w.heap.size) : IsRate w' b o r := by
  obtain ⟨h1, ⟨sv, h2, h3⟩, h4, h5⟩ := h
  exact ⟨(hs.2 _ hb).trans h1, ⟨sv, (hs.2 _ hb).trans h2, h3.stays hs⟩, (hs.2 _ hb).trans h4, h5⟩
theorem IsRates.stays {w w' : World} {v : Value} {rs : List Rate} (h : IsRates w v rs) (hs : Stays w w') : IsRates w' v rs :=
  Sl.stays h hs fun _ _ _ hb _ hc => hc.stays hs hb
theorem IsZone.stays {w w' : World} {b o : Nat} {z : Zone} (h : IsZone w b o z) (hs : Stays w w') (hb : b < w.heap.size) : IsZone w' b o z :=
  ⟨(hs.2 _ hb).trans h.1, (hs.2 _ hb).trans h.2.1, (hs.2 _ hb).trans h.2.2.1, h.2.2.2⟩
theorem IsZones.stays {w w' : World} {v : Value} {zs : List Zone} (h : IsZones w v zs) (hs : Stays w w') : IsZones w' v zs :=
  Sl.stays h hs fun _ _ _ hb _ hc => hc.stays hs hb

theorem IsPiece.stays {w w' : World} {b o : Nat} {p : Piece} (h : IsPiece w b o p) (hs : Stays w w') (hb : b < w.heap.size) : IsPiece w' b o p :=
  ⟨(hs.2 _ hb).trans h.1, (hs.2 _ hb).trans h.2.1, (hs.2 _ hb).trans h.2.2.1, (hs.2 _ hb).trans h.2.2.2.1, (hs.2 _ hb).trans h.2.2.2.2.1, h.2.2.2.2.2⟩
theorem IsPieces.stays {w w' : World} {v : Value} {ps : List Piece} (h : IsPieces w v ps) (hs : Stays w w') : IsPieces w' v ps :=
  Sl.stays h hs fun _ _ _ hb _ hc => hc.stays hs hb

/-- block g is just the cells cs of element type t, none of them frozen -/
def Blk (w : World) (g : Nat) (t : TypeId) (cs : Array Value) : Prop := w.heap[g]? = some (.cells cs t (0, 0))
section
variable {w w' : World} {g : Nat} {t : TypeId} {cs : Array Value}
theorem Blk.lt (h : Blk w g t cs) : g < w.heap.size := by
  rcases Nat.lt_or_ge g w.heap.size with hlt | hge
  · exact hlt
  · unfold Blk at h; rw [Array.getElem?_eq_none hge] at h; cases h
theorem Blk.cell (h : Blk w g t cs) (i : Nat) : w.cell? ⟨g, i, none⟩ = cs[i]? := cell_of_row w g i cs t (0, 0) h
theorem Blk.frozen (h : Blk w g t cs) (i : Nat) : w.frozen? ⟨g, i, none⟩ = false := by
  unfold Blk at h
  simp [World.frozen?, h]
theorem Blk.new (w : World) (t : TypeId) (cs : Array Value) : Blk (w.alloc (.cells cs t)) w.heap.size t cs := heap_alloc_new w _
theorem Blk.new_at (w : World) (t : TypeId) (cs : Array Value) (n : Nat) (h : n = w.heap.size) : Blk (w.alloc (.cells cs t)) n t cs := by subst h; exact Blk.new w t cs
theorem Blk.alloc (h : Blk w g t cs) (o : Obj) : Blk (w.alloc o) g t cs := (Below.heap_alloc w o g h.lt).trans h
theorem Blk.set_ (h : Blk w g t cs) (i : Nat) (u : Value) : Blk (w.setCell ⟨g, i, none⟩ u) g t (cs.setIfInBounds i u) := by
  unfold Blk at h ⊢
  simp [World.setCell, Array.getElem?_modify, h]
theorem Blk.far (h : Blk w g t cs) {p : Addr} (hp : g ≠ p.block) (u : Value) : Blk (w.setCell p u) g t cs := (Below.heap_setCell w p u g hp).trans h
theorem Blk.below {B : Nat} (h : Blk w g t cs) (hb : Below B w w') (hg : g < B) : Blk w' g t cs := (hb.block g hg).trans h
theorem Blk.grown {row : Option Nat} (h : Blk w g t cs) (hb : w.grownBy w' row) (hg : some g ≠ row) : Blk w' g t cs := (hb.block g h.lt hg).trans h
end

/-- a struct that lies in a block of its own, handed back beside a slot -/
theorem results_row_tmp {P : Program} {fn : Func} {p u : Tmp} {ty : TypeId} (h : fn.results = #[.cell p ty, .tmp u]) (tmps : Array Value) (w : World) (g : Nat) (t : TypeId) (cs : Array Value) (d : TypeDesc)
    (hp : tmps.getD p undef = .pointer (some ⟨g, 0, none⟩)) (hg : Blk w g t cs) (hu : P.underlying ty = some d) (hd : (match d with | .struct _ | .array _ _ => true | _ => false) = true) (hi : (P.info? ty).map (·.size) = some cs.size) :
    (results fn tmps).run P w = .ok (.tuple #[.agg cs, tmps.getD u undef]) w := by
  rw [results_cell_tmp h, hp]
  simp [asAddr, run_loadVar_row w g t ty cs (0, 0) d hg hu hd hi, Result.andThen]
theorem size57 : (Try.prog.info? 57).map (·.size) = some 3 := by kernel_rfl

end Go.Proofs.Ythbnbfeolfkkaaa
