/- Plain lemmas for TariffTells: what the loops of the reference have met, and the best row so far. -/
import Derived.Test.YthbnbfeolfkkaaaMem
namespace Go.Proofs.Ythbnbfeolfkkaaa

theorem memB_iff {α : Type} [DecidableEq α] {a : α} {l : List α} : memB a l = true ↔ a ∈ l := by simp [memB]
/-- what a loop has met, the last first -/
def metL {α β : Type} (f : α → β) (l : List α) (i : Nat) : List β := ((l.take i).map f).reverse
theorem metL_zero {α β : Type} (f : α → β) (l : List α) : metL f l 0 = [] := by simp [metL]
theorem metL_succ {α β : Type} (f : α → β) (l : List α) (d : α) (i : Nat) (h : i < l.length) : metL f l (i + 1) = f (l.getD i d) :: metL f l i := by
  rw [metL, List.take_succ_eq_append_getElem h, List.map_append, List.reverse_append]
  simp [metL, h]
theorem metL_yes {α β : Type} (f : α → β) (l : List α) (d : α) (i k : Nat) (hk : k < i) (hi : i ≤ l.length) : f (l.getD k d) ∈ metL f l i := by
  rw [metL, List.mem_reverse, List.mem_map]
  have hkl : k < l.length := by omega
  refine ⟨l.getD k d, ?_, rfl⟩
  rw [List.getD_eq_getElem?_getD, List.getElem?_eq_getElem hkl]
  exact List.mem_take_iff_getElem.2 ⟨k, by omega, rfl⟩
theorem metL_no {α β : Type} (f : α → β) (l : List α) (d : α) (i : Nat) (a : β) (h : ∀ k, k < i → f (l.getD k d) ≠ a) : a ∉ metL f l i := by
  rw [metL, List.mem_reverse, List.mem_map]
  rintro ⟨x, hx, rfl⟩
  obtain ⟨k, hk, rfl⟩ := List.mem_take_iff_getElem.1 hx
  refine h k (by omega) ?_
  rw [List.getD_eq_getElem?_getD, List.getElem?_eq_getElem (by omega)]
  rfl
theorem memB_false {α : Type} [DecidableEq α] {a : α} {l : List α} (h : a ∉ l) : memB a l = false := by
  cases hm : memB a l
  · rfl
  · exact absurd (memB_iff.1 hm) h
/-- the best row among the first ones -/
def bestZ (f t : ByteArray) (zs : List Zone) (i : Nat) : Zone := zoneFold f t ⟨⟨#[]⟩, ⟨#[]⟩, 0⟩ (zs.take i)
theorem bestZ_zero (f t : ByteArray) (zs : List Zone) : bestZ f t zs 0 = ⟨⟨#[]⟩, ⟨#[]⟩, 0⟩ := by simp [bestZ, zoneFold]
theorem bestZ_succ (f t : ByteArray) (zs : List Zone) (i : Nat) (h : i < zs.length) : bestZ f t zs (i + 1) = zoneStep f t (bestZ f t zs i) (zs.getD i Zone.zero) := by
  rw [bestZ, List.take_succ_eq_append_getElem h, zoneFold, List.foldl_append]
  simp [bestZ, zoneFold, h]
theorem bestZ_all (f t : ByteArray) (zs : List Zone) : (bestZ f t zs zs.length).zone = zoneOf zs f t := by rw [bestZ, List.take_length]; rfl
theorem rowsOk_zone {z : Int} : ∀ {met : List (ByteArray × ByteArray)} {zs : List Zone}, rowsOk z met zs = true → ∀ r ∈ zs, 1 ≤ r.zone ∧ r.zone ≤ z
  | _, [], _, r, hr => by cases hr
  | met, q :: t, h, r, hr => by
    by_cases hb : rowBad z met q
    · rw [rowsOk_no hb] at h; cases h
    · rw [rowsOk_yes hb] at h
      rcases List.mem_cons.1 hr with rfl | hr
      · exact ⟨Int.not_lt.1 fun hlt => hb (.inr (.inr (.inl hlt))), Int.not_lt.1 fun hlt => hb (.inr (.inr (.inr (.inl hlt))))⟩
      · exact rowsOk_zone h r hr
theorem right_zone {rs : List Rate} {zs : List Zone} (h : right rs zs = true) : ∀ r ∈ zs, 1 ≤ r.zone := fun r hr => (rowsOk_zone (right_parts h).2.2.2.2 r hr).1
theorem within_yes {n l h : Int} (h1 : l ≤ n) (h2 : n ≤ h) : (decide (l ≤ n) && decide (n ≤ h)) = true := by simp [h1, h2]
end Go.Proofs.Ythbnbfeolfkkaaa
