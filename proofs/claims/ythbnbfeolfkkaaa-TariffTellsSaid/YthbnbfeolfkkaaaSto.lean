/- Stores into a row of the call's own. -/
import Derived.Test.YthbnbfeolfkkaaaOwn2
namespace Go.Proofs.Ythbnbfeolfkkaaa
open Go.RowKit

theorem ownsRow_setAt {w : World} {base : Nat} {e : TypeId} {k : Nat} {v : Value} {n : Nat} {xs : List Value} {g idx : Nat} (u : Value) (h : w.ownsRow base e k v n xs) (hg : v.ownBlock = some g) (_hi : idx < xs.length) :
    (w.setCell ⟨g, idx, none⟩ u).ownsRow base e k v n (xs.set idx u) := by
  obtain ⟨hl, h | ⟨g', cap, cur, rfl, hb, hgh, h1, h2, h3, h4⟩⟩ := h
  · rw [h.1] at hg; cases hg
  · obtain rfl : g' = g := by simpa [Value.ownBlock] using hg
    refine ⟨by simp [hl], .inr ⟨g', cap, cur.setIfInBounds idx u, rfl, hb, ?_, h1, h2, by simp [h3], ?_⟩⟩
    · simp [World.setCell, Array.getElem?_modify, hgh]
    · rw [Array.toList_setIfInBounds, List.take_set, h4]
theorem ownsRow_frozen {w : World} {base : Nat} {e : TypeId} {k : Nat} {v : Value} {n : Nat} {xs : List Value} {g : Nat} (h : w.ownsRow base e k v n xs) (hg : v.ownBlock = some g) (i : Nat) : w.frozen? ⟨g, i, none⟩ = false := by
  obtain ⟨hl, h | ⟨g', cap, cur, rfl, hb, hgh, h1, h2, h3, h4⟩⟩ := h
  · rw [h.1] at hg; cases hg
  · obtain rfl : g' = g := by simpa [Value.ownBlock] using hg
    simp [World.frozen?, hgh]
theorem flat_set {α β : Type} (f : α → List β) (k : Nat) (hf : ∀ a, (f a).length = k) : ∀ (l : List α) (i j : Nat) (hi : i < l.length), j < k → ∀ (u : β) (a' : α), f a' = (f l[i]).set j u → (l.flatMap f).set (i * k + j) u = (l.set i a').flatMap f
  | [], i, _, hi, _, _, _, _ => by simp at hi
  | a :: l, 0, j, _, hj, u, a', e => by
    simp only [List.flatMap_cons, Nat.zero_mul, Nat.zero_add, List.set_cons_zero, List.getElem_cons_zero] at e ⊢
    rw [e, List.set_append_left _ _ (by rw [hf]; exact hj)]
  | a :: l, i + 1, j, hi, hj, u, a', e => by
    simp only [List.flatMap_cons, List.set_cons_succ, List.getElem_cons_succ] at e ⊢
    rw [List.set_append_right _ _ (by rw [hf, Nat.succ_mul]; omega), hf, show (i + 1) * k + j - k = i * k + j from by rw [Nat.succ_mul]; omega]
    rw [flat_set f k hf l i j (by simpa using hi) hj u a' e]
section
variable {α : Type} {E : TypeId} {k : Nat} {cells : α → List Value} {I : (Nat → Prop) → World → α → Prop}
/-- one cell of one element is written -/
theorem OwnL.setOne {B : Nat} {w : World} {v : Value} {ps : List α} {g : Nat} (hI : Inner I) (hf : ∀ a, (cells a).length = k) (h : OwnL E k cells I B w v ps) (hg : v.ownBlock = some g) (i j : Nat) (hi : i < ps.length) (hj : j < k) (u : Value) (a' : α)
    (hc : cells a' = (cells ps[i]).set j u) (hin : I (fun b => B ≤ b ∧ some b ≠ v.ownBlock) w a') : OwnL E k cells I B (w.setCell ⟨g, i * k + j, none⟩ u) v (ps.set i a') := by
  have hlt : i * k + j < (ps.flatMap cells).length := by
    have : (i + 1) * k ≤ ps.length * k := Nat.mul_le_mul_right k hi
    rw [h.1.1]
    rw [Nat.succ_mul] at this
    omega
  have hK : Keeps (fun b => B ≤ b ∧ some b ≠ v.ownBlock) w (w.setCell ⟨g, i * k + j, none⟩ u) := Keeps.set_ _ _ _ (by rw [hg]; simp)
  refine ⟨?_, fun p hp => ?_⟩
  · have := ownsRow_setAt u h.1 hg hlt
    rw [flat_set cells k hf ps i j hi hj u a' hc] at this
    simpa using this
  · rcases List.mem_or_eq_of_mem_set hp with hp | rfl
    · exact hI.keep (h.2 p hp) hK fun _ _ h => h
    · exact hI.keep hin hK fun _ _ h => h
end
end Go.Proofs.Ythbnbfeolfkkaaa
