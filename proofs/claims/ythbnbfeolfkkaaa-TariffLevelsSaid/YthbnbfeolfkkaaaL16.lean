/- What TariffLevels holds in memory, in blocks other than that of its scheme; lists that are turned from the front. -/
import Derived.Test.YthbnbfeolfkkaaaL3
import Derived.Test.YthbnbfeolfkkaaaL12
import Derived.Test.YthbnbfeolfkkaaaL13
import Derived.Test.YthbnbfeolfkkaaaL15
import Derived.Test.YthbnbfeolfkkaaaMadeW2
import Derived.Test.YthbnbfeolfkkaaaLevelsP
namespace Go.Proofs.Ythbnbfeolfkkaaa
open Go.RowKit Go.Maps

/-- the first i elements turned -/
def mapTo {α : Type} (f : α → α) (i : Nat) (l : List α) : List α := (l.take i).map f ++ l.drop i
section
variable {α : Type} {f : α → α}
theorem mapTo_zero (l : List α) : mapTo f 0 l = l := by simp [mapTo]
theorem mapTo_len (i : Nat) (l : List α) : (mapTo f i l).length = l.length := by simp [mapTo]; omega
theorem mapTo_all (l : List α) : mapTo f l.length l = l.map f := by simp [mapTo]
theorem mapTo_get {i : Nat} {l : List α} (h : i < l.length) : (mapTo f i l)[i]'(by rw [mapTo_len]; exact h) = l[i] := by
  have : (mapTo f i l)[i]? = l[i]? := by
    unfold mapTo
    rw [List.getElem?_append_right (by simp; omega), List.getElem?_drop]
    congr 1
    simp; omega
  rw [List.getElem?_eq_getElem (by rw [mapTo_len]; exact h), List.getElem?_eq_getElem h] at this
  exact Option.some.inj this
theorem mapTo_set {i : Nat} {l : List α} (h : i < l.length) : (mapTo f i l).set i (f l[i]) = mapTo f (i + 1) l := by
  unfold mapTo
  rw [List.set_append_right _ _ (by simp; omega)]
  have e : i - ((l.take i).map f).length = 0 := by simp; omega
  rw [e, List.drop_eq_getElem_cons h, List.set_cons_zero, List.take_succ_eq_append_getElem h, List.map_append, List.append_assoc]
  rfl
end
def IsZonesP (P : Nat → Prop) (w : World) (v : Value) (zs : List Zone) : Prop := SlP P w v zs.length fun b off i => IsZone w b (off + i * 3) (zs.getD i Zone.zero)
def IsPiecesP (P : Nat → Prop) (w : World) (v : Value) (ps : List Piece) : Prop := SlP P w v ps.length fun b off i => IsPiece w b (off + i * 5) (ps.getD i Piece.zero)
theorem IsZonesP.plain {P : Nat → Prop} {w : World} {v : Value} {zs : List Zone} (h : IsZonesP P w v zs) : IsZones w v zs := SlP.plain h fun _ _ _ _ _ _ hc => hc
theorem IsPiecesP.plain {P : Nat → Prop} {w : World} {v : Value} {ps : List Piece} (h : IsPiecesP P w v ps) : IsPieces w v ps := SlP.plain h fun _ _ _ _ _ _ hc => hc
theorem IsZonesP.keep {P Q : Nat → Prop} {w w' : World} {v : Value} {zs : List Zone} (h : IsZonesP P w v zs) (k : Keeps P w w') (hPQ : ∀ b, b < w.heap.size → P b → Q b) : IsZonesP Q w' v zs :=
  SlP.map h k.size hPQ fun _ _ _ hb hp _ ⟨h1, h2, h3, h4⟩ => ⟨(k.cell hb hp).trans h1, (k.cell hb hp).trans h2, (k.cell hb hp).trans h3, h4⟩
theorem IsPiecesP.keep {P Q : Nat → Prop} {w w' : World} {v : Value} {ps : List Piece} (h : IsPiecesP P w v ps) (k : Keeps P w w') (hPQ : ∀ b, b < w.heap.size → P b → Q b) : IsPiecesP Q w' v ps :=
  SlP.map h k.size hPQ fun _ _ _ hb hp _ ⟨h1, h2, h3, h4, h5, h6⟩ => ⟨(k.cell hb hp).trans h1, (k.cell hb hp).trans h2, (k.cell hb hp).trans h3, (k.cell hb hp).trans h4, (k.cell hb hp).trans h5, h6⟩
theorem IsZonesP.of {w : World} {v : Value} {zs : List Zone} (h : IsZones w v zs) : IsZonesP (fun b => b < w.heap.size) w v zs := by
  obtain ⟨A, c, hv, hn, hc, hA⟩ := h
  refine ⟨A, c, hv, hn, hc, fun h0 => ?_⟩
  obtain ⟨b, off, e, hb, hi⟩ := hA h0
  exact ⟨b, off, e, hb, hb, hi⟩
theorem OwnPieces.piecesP {base : Nat} {w : World} {v : Value} {ps : List Piece} (h : OwnPieces base w v ps) : IsPiecesP (fun b => base ≤ b) w v ps := by
  have hsl := OwnL.sl h (fun _ => rfl)
  exact SlP.map hsl (Nat.le_refl _) (fun _ _ h => h) fun b off i hb _ hi hr => by
    have h0 := hr.2.2 hi 0 (by omega)
    have h1 := hr.2.2 hi 1 (by omega)
    have h2 := hr.2.2 hi 2 (by omega)
    have h3 := hr.2.2 hi 3 (by omega)
    have h4 := hr.2.2 hi 4 (by omega)
    rw [getD_of ps Piece.zero i hi]
    exact ⟨by simpa [pieceCells] using h0, by simpa [pieceCells] using h1, by simpa [pieceCells] using h2, by simpa [pieceCells] using h3, by simpa [pieceCells] using h4, h.2 ps[i] (List.getElem_mem hi)⟩
/-- what TariffLevels holds, but for its scheme: nothing of it in block gx -/
def LevMem (gx : Nat) (w : World) (vA vB : Nat) (rv zv qv pv ov : Value) (cls : Int) (o : ByteArray) (rs : List Rate) (zs : List Zone) (pcs : List Piece) (p q : List Int) : Prop :=
  (vA < w.heap.size ∧ vB < w.heap.size ∧ vA ≠ gx ∧ vB ≠ gx ∧ w.cell? ⟨vA, 0, none⟩ = some rv ∧ w.cell? ⟨vA, 1, none⟩ = some zv ∧ w.cell? ⟨vB, 0, none⟩ = some (.int .u8 cls) ∧ w.cell? ⟨vB, 1, none⟩ = some (.int .u8 1) ∧ w.cell? ⟨vB, 2, none⟩ = some (.string o) ∧ w.cell? ⟨vB, 3, none⟩ = some qv) ∧
    IsRatesP (· ≠ gx) w rv rs ∧ IsZonesP (· ≠ gx) w zv zs ∧ IsPiecesP (· ≠ gx) w qv pcs ∧ IsIntsP (· ≠ gx) w pv p ∧ IsIntsP (· ≠ gx) w ov q
theorem LevMem.keep {gx : Nat} {w w' : World} {vA vB : Nat} {rv zv qv pv ov : Value} {cls : Int} {o : ByteArray} {rs : List Rate} {zs : List Zone} {pcs : List Piece} {p q : List Int} (h : LevMem gx w vA vB rv zv qv pv ov cls o rs zs pcs p q) (k : Keeps (· ≠ gx) w w') : LevMem gx w' vA vB rv zv qv pv ov cls o rs zs pcs p q := by
  obtain ⟨⟨h1, h2, n1, n2, h3, h4, h5, h6, h7, h8⟩, h9, h10, h11, h12, h13⟩ := h
  exact ⟨⟨Nat.lt_of_lt_of_le h1 k.size, Nat.lt_of_lt_of_le h2 k.size, n1, n2, (k.cell h1 n1).trans h3, (k.cell h1 n1).trans h4, (k.cell h2 n2).trans h5, (k.cell h2 n2).trans h6, (k.cell h2 n2).trans h7, (k.cell h2 n2).trans h8⟩, h9.keep k (fun _ _ h => h), h10.keep k (fun _ _ h => h), h11.keep k (fun _ _ h => h), h12.keep k (fun _ _ h => h), h13.keep k (fun _ _ h => h)⟩
end Go.Proofs.Ythbnbfeolfkkaaa
