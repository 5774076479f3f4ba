/- TariffSteps in plain Lean: the price of a weight is that of the first step that holds it. -/
import Derived.Test.YthbnbfeolfkkaaaMadeP
namespace Go.Proofs.Ythbnbfeolfkkaaa

theorem stepAt_spec (g : Int) : ∀ (k : Nat) (ss : List Step), (stepAt g k ss = -1 ∧ ss.find? (fun s => decide (g ≤ s.grams)) = none) ∨ ∃ i, i < ss.length ∧ stepAt g k ss = ((k + i : Nat) : Int) ∧ ss.find? (fun s => decide (g ≤ s.grams)) = some (ss.getD i Step.zero)
  | _, [] => .inl ⟨rfl, rfl⟩
  | k, s :: t => by
    rw [stepAt_cons]
    by_cases h : g ≤ s.grams
    · rw [if_pos h]
      exact .inr ⟨0, by simp, by simp, by simp [h]⟩
    · rw [if_neg h, List.find?_cons_of_neg (by simpa using h)]
      rcases stepAt_spec g (k + 1) t with ⟨h1, h2⟩ | ⟨i, hi, h1, h2⟩
      · exact .inl ⟨h1, h2⟩
      · exact .inr ⟨i + 1, by simpa using hi, by rw [h1]; omega, by simpa using h2⟩
def priceFind (ss : List Step) (zone g : Int) : Int × Int :=
  match ss.find? (fun s => decide (g ≤ s.grams)) with
  | none => (0, 3)
  | some s => (s.cents.getD (zone - 1).toNat 0, 0)
theorem priceOf_find (ss : List Step) (zone g : Int) : priceOf ss zone g = priceFind ss zone g := by
  unfold priceOf priceFind
  rcases stepAt_spec g 0 ss with ⟨h1, h2⟩ | ⟨i, hi, h1, h2⟩
  · rw [h1, h2]; rfl
  · rw [h1, h2, if_neg (by omega)]
    simp

/-- what the loop of TariffSteps returns from a step on, behind a step of so many grams -/
def stepsSay (g z got e : Int) : Int → List Step → Bool
  | bf, [] => (e == 3) && ((got == 0) && decide (bf < g))
  | bf, s :: t => if bf < g ∧ g ≤ s.grams then (e == 0) && (got == s.cents.getD (z - 1).toNat 0) else stepsSay g z got e s.grams t
theorem stepsSay_true (g z : Int) : ∀ (bf : Int) (ss : List Step), bf < g → stepsSay g z (priceFind ss z g).1 (priceFind ss z g).2 bf ss = true
  | bf, [], h => by simp [stepsSay, priceFind, h]
  | bf, s :: t, h => by
    rw [stepsSay]
    by_cases hs : g ≤ s.grams
    · rw [if_pos ⟨h, hs⟩]
      simp [priceFind, List.find?_cons_of_pos, hs]
    · rw [if_neg (by omega)]
      have : priceFind (s :: t) z g = priceFind t z g := by simp [priceFind, List.find?_cons_of_neg, hs]
      rw [this]
      exact stepsSay_true g z s.grams t (by omega)
theorem stepsSay_yes {g z got e bf : Int} {s : Step} {t : List Step} (h : bf < g) (h2 : g ≤ s.grams) : stepsSay g z got e bf (s :: t) = ((e == 0) && (got == s.cents.getD (z - 1).toNat 0)) := by rw [stepsSay, if_pos ⟨h, h2⟩]
theorem stepsSay_no {g z got e bf : Int} {s : Step} {t : List Step} (h : ¬ (bf < g ∧ g ≤ s.grams)) : stepsSay g z got e bf (s :: t) = stepsSay g z got e s.grams t := by rw [stepsSay, if_neg h]
/-- what the price of a made tariff is, and that the law's loop says true of it -/
theorem steps_law {ps : List Int} (hps : ∀ x ∈ ps, 0 ≤ x ∧ x ≤ 255) (m z s : Nat) (bar : Int) (c k : Nat) (zn g : Int) (hz : 1 ≤ z) (hz3 : z ≤ 3) (hs : 1 ≤ s) (hs3 : s ≤ 3) (hk : k < c) (hc3 : c ≤ 3) (hb : 0 ≤ bar) (hb2 : bar ≤ 31)
    (h1 : 1 ≤ zn) (h2 : zn ≤ z) (hg : 1 ≤ g) :
    stepsSay g zn (priceRes (madeRates ps z s bar c) (madeRows m z 9) ((k : Int) + 1) zn g).1 (priceRes (madeRates ps z s bar c) (madeRows m z 9) ((k : Int) + 1) zn g).2 0 (madeSteps ps z k s) = true := by
  have hr := right_made hps m z s bar c hz hz3 hs hs3 (by omega) hc3 hb hb2
  have e : priceRes (madeRates ps z s bar c) (madeRows m z 9) ((k : Int) + 1) zn g = priceFind (madeSteps ps z k s) zn g := by
    unfold priceRes
    rw [if_neg (by unfold priceBad; rw [hr, countZones_made _ _ _ _ _ hs (by omega)]; simp; omega)]
    unfold priceBy
    rw [rateOf_made ps z s bar c k hk hc3]
    exact priceOf_find _ _ _
  rw [e]
  exact stepsSay_true g zn 0 _ (by omega)
end Go.Proofs.Ythbnbfeolfkkaaa
