/- What a round of TariffAdds sees, in plain Lean. -/
import Derived.Test.YthbnbfeolfkkaaaFitsP
namespace Go.Proofs.Ythbnbfeolfkkaaa

theorem mailing_parts {m : Mailing} (h : mailing m = true) : isCode m.origin = true ∧ m.pieces.length ≤ 2000 ∧ piecesOk 0 m.pieces = true := by
  unfold mailing at h
  split at h
  · cases h
  · split at h
    · cases h
    · rename_i h2
      refine ⟨?_, by omega, h⟩
      cases hq : isCode m.origin
      · exact absurd (.inl hq) h2
      · rfl
section
variable {ps : List Int} (hps : ∀ x ∈ ps, 0 ≤ x ∧ x ≤ 255) (m z s : Nat) (bar : Int) (c : Nat) (hz : 1 ≤ z) (hz3 : z ≤ 3) (hs : 1 ≤ s) (hs3 : s ≤ 3) (hc3 : c ≤ 3) (hb : 0 ≤ bar) (hb2 : bar ≤ 31) (k : Nat) (hk : k < c)
include hps hz hz3 hs hs3 hc3 hb hb2 hk
/-- the base of a piece of a mailing that is made: the price of its zone and weight -/
theorem base_made (o : ByteArray) (ho : isCode o = true) (p : Piece) (hp : 1 ≤ p.grams ∧ p.grams ≤ 20 ∧ isCode p.code = true) :
    ∃ zn P : Int, zoneRes (madeRates ps z s bar c) (madeRows m z 9) o p.code = (zn, 0) ∧ priceRes (madeRates ps z s bar c) (madeRows m z 9) ((k : Int) + 1) zn p.grams = (P, 0) ∧ baseOf (madeSteps ps z k s) (madeRows m z 9) o p = P ∧ 300 ≤ P ∧ P ≤ 555 := by
  obtain ⟨hg1, hg2, hcd⟩ := hp
  obtain ⟨h1, h2, h3⟩ := zone_made hps m z s bar c hz hz3 hs hs3 hc3 hb hb2 k hk o p.code ho hcd
  obtain ⟨h4, h5, h6⟩ := price_made hps m z s bar c hz hz3 hs hs3 hc3 hb hb2 k hk h2 h3 hg1 hg2
  refine ⟨_, _, h1, h4, ?_, h5, h6⟩
  unfold baseOf
  rw [(stepAt_first hs hg2).2]
/-- a round of TariffAdds -/
theorem adds_piece (o : ByteArray) (ho : isCode o = true) (pcs : List Piece) (hg : ∀ p ∈ pcs, 1 ≤ p.grams ∧ p.grams ≤ 20 ∧ isCode p.code = true) {ls : List Level} (hl : ∀ l ∈ ls, 0 ≤ l.cents ∧ l.cents ≤ 255)
    {plan : List Int} (hpl : plan.length = pcs.length) (hp : ∀ x ∈ plan, 0 ≤ x ∧ x < (ls.length : Int)) (i : Nat) (hi : i < pcs.length) :
    ∃ (zn P C : Int) (j : Nat), zoneRes (madeRates ps z s bar c) (madeRows m z 9) o (pcs.getD i Piece.zero).code = (zn, 0) ∧ priceRes (madeRates ps z s bar c) (madeRows m z 9) ((k : Int) + 1) zn (pcs.getD i Piece.zero).grams = (P, 0) ∧
      (pcs.map (baseOf (madeSteps ps z k s) (madeRows m z 9) o)).getD i 0 = P ∧ 300 ≤ P ∧ P ≤ 555 ∧ plan.getD i 0 = (j : Int) ∧ j < ls.length ∧ (ls.getD j Level.zero).cents = C ∧ 0 ≤ C ∧ C ≤ 255 ∧
      (postGo bar ls 0 (pcs.map (baseOf (madeSteps ps z k s) (madeRows m z 9) o)) pcs plan).getD i 0 = (if (pcs.getD i Piece.zero).barred then P - bar else P) - C := by
  have hmem : pcs.getD i Piece.zero ∈ pcs := by rw [List.getD_eq_getElem?_getD, List.getElem?_eq_getElem hi]; exact List.getElem_mem hi
  obtain ⟨zn, P, h1, h2, h3, h4, h5⟩ := base_made hps m z s bar c hz hz3 hs hs3 hc3 hb hb2 k hk o ho _ (hg _ hmem)
  have hbase : (pcs.map (baseOf (madeSteps ps z k s) (madeRows m z 9) o)).getD i 0 = P := by
    rw [← h3, List.getD_eq_getElem?_getD, List.getElem?_map, List.getD_eq_getElem?_getD, List.getElem?_eq_getElem hi]; rfl
  have hi2 : i < plan.length := by omega
  have hx := hp (plan.getD i 0) (by rw [List.getD_eq_getElem?_getD, List.getElem?_eq_getElem hi2]; exact List.getElem_mem hi2)
  have hj : (plan.getD i 0).toNat < ls.length := by omega
  have hc := hl (ls.getD (plan.getD i 0).toNat Level.zero) (by rw [List.getD_eq_getElem?_getD, List.getElem?_eq_getElem hj]; exact List.getElem_mem hj)
  refine ⟨zn, P, _, (plan.getD i 0).toNat, h1, h2, hbase, h4, h5, by omega, hj, rfl, hc.1, hc.2, ?_⟩
  have := postGo_at bar ls pcs plan 0 (pcs.map (baseOf (madeSteps ps z k s) (madeRows m z 9) o)) i hi hpl.symm (by simp)
  rw [Nat.zero_add, hbase] at this
  rw [this]
  rfl
end
end Go.Proofs.Ythbnbfeolfkkaaa
