/- A row of the call's own in a field of a struct of the call's own: what an append to it leaves. -/
import Derived.Test.YthbnbfeolfkkaaaOwn
namespace Go.Proofs.Ythbnbfeolfkkaaa
open Go.RowKit

section
variable {α : Type} {E : TypeId} {k : Nat} {cells : α → List Value} {I : (Nat → Prop) → World → α → Prop}
/-- 'x.f = append(x.f, a)': the struct lies in block G, the row and all behind it in blocks from B on -/
theorem field_append (hI : Inner I) {B G i Bd : Nat} {T : TypeId} {cs : Array Value} {W2 wr wA w1 : World} {cv : Value} {g n cap : Nat} {ps : List α} {a : α}
    (hbi : Below Bd W2 wr) (hbk : Blk wr G T cs) (hown : OwnL E k cells I B wr cv ps) (hA : Below wr.heap.size wr wA) (hGB : G < B) (hBd : Bd ≤ G)
    (ha : I (fun b => B ≤ b ∧ some b ≠ cv.ownBlock) wA a)
    (hown1 : w1.ownsRow B E k (.slice (some ⟨g, 0, none⟩) n cap) n (ps.flatMap cells ++ cells a)) (hn : n = ps.length + 1)
    (hgr : wA.grownBy w1 cv.ownBlock) (hat : cv.ownBlock = some g ∨ wA.heap.size ≤ g) :
    Below Bd W2 (w1.setCell ⟨G, i, none⟩ (.slice (some ⟨g, 0, none⟩) n cap)) ∧ Blk (w1.setCell ⟨G, i, none⟩ (.slice (some ⟨g, 0, none⟩) n cap)) G T (cs.setIfInBounds i (.slice (some ⟨g, 0, none⟩) n cap)) ∧
      OwnL E k cells I B (w1.setCell ⟨G, i, none⟩ (.slice (some ⟨g, 0, none⟩) n cap)) (.slice (some ⟨g, 0, none⟩) n cap) (ps ++ [a]) := by
  subst hn
  have hcv : ∀ h, cv.ownBlock = some h → B ≤ h := fun h e => (hown.1.lt h e).1
  have hlt : G < wr.heap.size := hbk.lt
  have hownA : OwnL E k cells I B wA cv ps := hown.keep hI (Keeps.of_below hA _)
  have happ := hownA.append hI ha hown1 hgr (by
    rcases hat with e | e
    · exact .inl (by rw [e]; rfl)
    · exact .inr ⟨g, rfl, e⟩)
  have hbkA := hbk.below hA hlt
  have hbk1 := hbkA.grown hgr (fun e => by have := hcv G e.symm; omega)
  have hs := hA.size
  refine ⟨?_, hbk1.set_ i _, happ.keep hI (Keeps.set_ _ _ _ (by simp; omega))⟩
  exact ((hbi.trans (hA.mono (by omega))).grown hgr (by omega) (fun h e => by have := hcv h e; omega)).setCell hBd _
/-- a slot 'out = append(out, a)' -/
theorem slot_append (hI : Inner I) {B Bd : Nat} {W2 wr wA w1 : World} {cv : Value} {g n cap : Nat} {ps : List α} {a : α}
    (hbi : Below Bd W2 wr) (hown : OwnL E k cells I B wr cv ps) (hA : Below wr.heap.size wr wA) (hBd : Bd ≤ B) (hBs : Bd ≤ wr.heap.size)
    (ha : I (fun b => B ≤ b ∧ some b ≠ cv.ownBlock) wA a)
    (hown1 : w1.ownsRow B E k (.slice (some ⟨g, 0, none⟩) n cap) n (ps.flatMap cells ++ cells a)) (hn : n = ps.length + 1)
    (hgr : wA.grownBy w1 cv.ownBlock) (hat : cv.ownBlock = some g ∨ wA.heap.size ≤ g) :
    Below Bd W2 w1 ∧ OwnL E k cells I B w1 (.slice (some ⟨g, 0, none⟩) n cap) (ps ++ [a]) := by
  subst hn
  have hcv : ∀ h, cv.ownBlock = some h → B ≤ h := fun h e => (hown.1.lt h e).1
  have hownA : OwnL E k cells I B wA cv ps := hown.keep hI (Keeps.of_below hA _)
  have happ := hownA.append hI ha hown1 hgr (by
    rcases hat with e | e
    · exact .inl (by rw [e]; rfl)
    · exact .inr ⟨g, rfl, e⟩)
  have hs := hA.size
  exact ⟨(hbi.trans (hA.mono (by omega))).grown hgr (by omega) (fun h e => by have := hcv h e; omega), happ⟩
/-- what lies behind the row's elements does not go by the world: a store elsewhere turns nothing -/
theorem OwnL.far {B : Nat} {w w' : World} {v : Value} {ps : List α} (hI : ∀ P Q w w' a, I P w a → I Q w' a) (h : OwnL E k cells I B w v ps) (hw : ∀ g, v.ownBlock = some g → w'.heap[g]? = w.heap[g]?) : OwnL E k cells I B w' v ps := by
  refine ⟨⟨h.1.1, ?_⟩, fun p hp => hI _ _ _ _ _ (h.2 p hp)⟩
  rcases h.1.2 with h0 | ⟨g, cap, cur, e, hb, hg, h1⟩
  · exact .inl h0
  · exact .inr ⟨g, cap, cur, e, hb, (hw g (by rw [e]; rfl)).trans hg, h1⟩
end
theorem drewN_below (w : World) (n : Nat) : Below w.heap.size w (w.drewN n) := ⟨rfl, rfl, rfl, Nat.le_refl _, fun _ _ => rfl⟩
theorem IsIntsP.weak {P Q : Nat → Prop} {w : World} {v : Value} {xs : List Int} (h : IsIntsP P w v xs) (hPQ : ∀ b, b < w.heap.size → P b → Q b) : IsIntsP Q w v xs := h.keep ⟨Nat.le_refl _, fun _ _ _ => rfl⟩ hPQ
theorem IsStepsP.weak {P Q : Nat → Prop} {w : World} {v : Value} {xs : List Step} (h : IsStepsP P w v xs) (hPQ : ∀ b, b < w.heap.size → P b → Q b) : IsStepsP Q w v xs := h.keep ⟨Nat.le_refl _, fun _ _ _ => rfl⟩ hPQ
theorem OwnL.base {α : Type} {E : TypeId} {k : Nat} {cells : α → List Value} {I : (Nat → Prop) → World → α → Prop} (hI : Inner I) {B B' : Nat} {w : World} {v : Value} {ps : List α} (h : OwnL E k cells I B w v ps) (hB : B' ≤ B) : OwnL E k cells I B' w v ps := by
  refine ⟨⟨h.1.1, ?_⟩, fun p hp => hI.keep (h.2 p hp) ⟨Nat.le_refl _, fun _ _ _ => rfl⟩ fun b _ hb => ⟨Nat.le_trans hB hb.1, hb.2⟩⟩
  rcases h.1.2 with h0 | ⟨g, cap, cur, e, hb, hg⟩
  · exact .inl h0
  · exact .inr ⟨g, cap, cur, e, Nat.le_trans hB hb, hg⟩
end Go.Proofs.Ythbnbfeolfkkaaa
