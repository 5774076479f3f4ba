/- A map from texts to texts that the call itself makes: made, asked, written. -/
import Derived.Test.YthbnbfeolfkkaaaSets
import Derived.Maps.OwnSet
import Derived.Maps.StringElems
namespace Go.Proofs.Ythbnbfeolfkkaaa
open Go.RowKit Go.Maps

def getB (k : ByteArray) : List (ByteArray × ByteArray) → Option ByteArray
  | [] => none
  | p :: t => if p.1 = k then some p.2 else getB k t
def orNo (o : Option ByteArray) : ByteArray := o.getD ⟨#[]⟩

/-- block b is a map of at most n entries that holds what the list of pairs says, the first pair of a key first -/
def MapS (w : World) (b n : Nat) (M : List (ByteArray × ByteArray)) : Prop :=
  ∃ D : DataW Unit, w.ownsMap Try.prog 9 (plainElem Try.prog 9) b n D ∧ IsMap D ∧
    ∀ k : ByteArray, D.atKey (.string k.data.toList) (.lit (.string [])) = .lit (.string (orNo (getB k M)).data.toList) ∧ Maps.has D (.string k.data.toList) = (getB k M).isSome
theorem zero9 (w : World) : (zeroValue 9).run Try.prog w = .ok (.string ⟨#[]⟩) w := by kernel_rfl
theorem data_inj {a b : ByteArray} (h : a.data.toList = b.data.toList) : a = b := by
  cases a; cases b
  simp at h
  rw [h]

section
variable {w w' : World} {b n : Nat} {M : List (ByteArray × ByteArray)}
theorem MapS.made (w : World) : MapS (w.alloc (.map #[] 0)) w.heap.size 0 [] :=
  ⟨.map [], World.ownsMap_made w _ _ _, ⟨_, rfl⟩, fun _ => ⟨rfl, rfl⟩⟩
theorem MapS.kept {row : Option Nat} (h : MapS w b n M) (hg : w.grownBy w' row) (hne : some b ≠ row) : MapS w' b n M := by
  obtain ⟨D, h1, h2, h3⟩ := h
  exact ⟨D, h1.kept hg hne, h2, h3⟩
theorem MapS.below (h : MapS w b n M) (hb : Below w.heap.size w w') : MapS w' b n M :=
  h.kept (row := none) ⟨hb.os, hb.tape, hb.output, hb.size, fun i hi _ => hb.block i hi⟩ (by simp)
theorem MapS.alloc (h : MapS w b n M) (o : Obj) : MapS (w.alloc o) b n M := by
  obtain ⟨D, h1, h2, h3⟩ := h
  exact ⟨D, h1.alloc o, h2, h3⟩
theorem MapS.drew (h : MapS w b n M) : MapS w.drew b n M := h
theorem MapS.lt (h : MapS w b n M) : b < w.heap.size := by
  obtain ⟨D, h1, _⟩ := h
  exact h1.lt
theorem MapS.look (h : MapS w b n M) (k : ByteArray) (hk : k.size ≤ maxLen) : (Instr.lookup 122 (.map (some b)) (.string k) false).run Try.prog w = .ok (.string (orNo (getB k M))) w := by
  obtain ⟨D, h1, h2, h3⟩ := h
  obtain ⟨v, ps, hrun, hv⟩ := h1.lookup (zd := .lit (.string [])) (zp := []) keyed9 Try.underlying122 (zero9 w) (plainElem_string Try.underlying9 (Nat.zero_le _)) (WideMaps.keyOf_string_mk Try.underlying9 hk)
  obtain ⟨s, rfl, hs, _⟩ := plainElem_string_inv Try.underlying9 hv
  rw [(h3 k).1] at hs
  simp only [Prod.mk.injEq, DataW.lit.injEq, Lit.string.injEq] at hs
  rw [hrun, data_inj hs.1]
theorem MapS.look_ok (h : MapS w b n M) (k : ByteArray) (hk : k.size ≤ maxLen) : (Instr.lookup 122 (.map (some b)) (.string k) true).run Try.prog w = .ok (.tuple #[.string (orNo (getB k M)), .bool (getB k M).isSome]) w := by
  obtain ⟨D, h1, h2, h3⟩ := h
  obtain ⟨v, ps, hrun, hv⟩ := h1.look_ok (zd := .lit (.string [])) (zp := []) keyed9 Try.underlying122 (zero9 w) (plainElem_string Try.underlying9 (Nat.zero_le _)) (WideMaps.keyOf_string_mk Try.underlying9 hk)
  obtain ⟨s, rfl, hs, _⟩ := plainElem_string_inv Try.underlying9 hv
  rw [(h3 k).1] at hs
  simp only [Prod.mk.injEq, DataW.lit.injEq, Lit.string.injEq] at hs
  rw [hrun, data_inj hs.1, (h3 k).2]
theorem MapS.put (h : MapS w b n M) (k v : ByteArray) (hk : k.size ≤ maxLen) (hv : v.size ≤ maxLen) (hn : n < maxLen) :
    ∃ w', (Instr.mapUpdate 122 (.map (some b)) (.string k) (.string v)).run Try.prog w = .ok () w' ∧ MapS w' b (n + 1) ((k, v) :: M) ∧ w.grownBy w' (some b) := by
  obtain ⟨D, h1, h2, h3⟩ := h
  have hkl := WideMaps.keyOf_string_mk Try.underlying9 hk
  obtain ⟨w', hrun, h4, h5⟩ := h1.update keyed9 Try.underlying122 hn hkl (plainElem_string Try.underlying9 hv)
  refine ⟨w', hrun, ⟨_, h4, ?_, fun k' => ?_⟩, h5⟩
  · obtain ⟨es, rfl⟩ := h2
    exact ⟨_, rfl⟩
  · by_cases hne : k = k'
    · subst hne
      rw [atKey_put_same h2 (keyed9.key hkl), has_put_same h2 (keyed9.key hkl)]
      simp [getB, orNo]
    · have hkl' : (Lit.string k'.data.toList) ≠ .string k.data.toList := fun e' => by
        injection e' with e'
        exact hne (data_inj e'.symm)
      rw [atKey_put_other hkl', has_put_other hkl', getB, if_neg hne]
      exact h3 k'
end
end Go.Proofs.Ythbnbfeolfkkaaa
