/- The tariff that Made makes, in plain Lean: its rates, its rows of zones, and that it is right. -/
import Derived.Test.YthbnbfeolfkkaaaPlain
namespace Go.Proofs.Ythbnbfeolfkkaaa

def priceAt (ps : List Int) (i : Nat) : Int := if ps = [] then 300 else 300 + ps.getD (i % ps.length) 0
theorem priceAt_bd {ps : List Int} (hps : ∀ x ∈ ps, 0 ≤ x ∧ x ≤ 255) (i : Nat) : 300 ≤ priceAt ps i ∧ priceAt ps i ≤ 555 := by
  unfold priceAt
  split
  · omega
  · rename_i h
    have hl : 0 < ps.length := by rcases ps with _ | ⟨a, t⟩; exact absurd rfl h; simp
    have hml : i % ps.length < ps.length := Nat.mod_lt _ hl
    have := hps (ps.getD (i % ps.length) 0) (by rw [List.getD_eq_getElem?_getD, List.getElem?_eq_getElem hml]; exact List.getElem_mem hml)
    omega

/-! the tariff that Made makes: z zones, rates 0 to c, steps 0 to s -/
def madeCents (ps : List Int) (c s z : Nat) : List Int := (List.range z).map fun k => priceAt ps (17 * c + 5 * s + k)
def madeSteps (ps : List Int) (z c s : Nat) : List Step := (List.range s).map fun (j : Nat) => ⟨20 + 30 * (j : Int), madeCents ps c j z⟩
def madeRates (ps : List Int) (z s : Nat) (bar : Int) (c : Nat) : List Rate := (List.range c).map fun (k : Nat) => ⟨(k : Int) + 1, madeSteps ps z k s, bar⟩
theorem madeCents_snoc (ps : List Int) (c s z : Nat) : madeCents ps c s (z + 1) = madeCents ps c s z ++ [priceAt ps (17 * c + 5 * s + z)] := by
  simp [madeCents, List.range_succ]
theorem madeSteps_snoc (ps : List Int) (z c s : Nat) : madeSteps ps z c (s + 1) = madeSteps ps z c s ++ [⟨20 + 30 * (s : Int), madeCents ps c s z⟩] := by
  simp [madeSteps, List.range_succ]
theorem madeRates_snoc (ps : List Int) (z s : Nat) (bar : Int) (c : Nat) : madeRates ps z s bar (c + 1) = madeRates ps z s bar c ++ [⟨(c : Int) + 1, madeSteps ps z c s, bar⟩] := by
  simp [madeRates, List.range_succ]

/-- the nine pairs of prefixes -/
def madePairs : List (ByteArray × ByteArray) := [(⟨#[49]⟩, ⟨#[]⟩), (⟨#[]⟩, ⟨#[50]⟩), (⟨#[49]⟩, ⟨#[50]⟩), (⟨#[49, 48]⟩, ⟨#[]⟩), (⟨#[49]⟩, ⟨#[50, 49]⟩), (⟨#[49, 48]⟩, ⟨#[50]⟩), (⟨#[49, 48, 48]⟩, ⟨#[49, 48]⟩), (⟨#[]⟩, ⟨#[49, 48, 48, 48]⟩), (⟨#[50]⟩, ⟨#[49]⟩)]
def pairAt (i : Nat) : ByteArray × ByteArray := madePairs.getD i (⟨#[]⟩, ⟨#[]⟩)
def madeRow (z i : Nat) : Zone := ⟨(pairAt i).1, (pairAt i).2, 1 + ((i % z : Nat) : Int)⟩
/-- the rows that are made out of the first k pairs, by the bits of m -/
def madeRows (m z : Nat) : Nat → List Zone
  | 0 => [⟨⟨#[]⟩, ⟨#[]⟩, 1⟩]
  | k + 1 => if m / 2 ^ k % 2 = 1 then madeRows m z k ++ [madeRow z k] else madeRows m z k
theorem madeRows_len (m z : Nat) : ∀ k, 1 ≤ (madeRows m z k).length ∧ (madeRows m z k).length ≤ k + 1
  | 0 => by simp [madeRows]
  | k + 1 => by
    have := madeRows_len m z k
    rw [madeRows]
    split
    · simp; omega
    · omega
/-- the rows go by the last nine bits alone -/
theorem madeRows_mod (m z : Nat) : ∀ k, k ≤ 9 → madeRows m z k = madeRows (m % 512) z k
  | 0, _ => rfl
  | k + 1, h => by
    have e : m % 512 / 2 ^ k % 2 = m / 2 ^ k % 2 := by
      have : k = 0 ∨ k = 1 ∨ k = 2 ∨ k = 3 ∨ k = 4 ∨ k = 5 ∨ k = 6 ∨ k = 7 ∨ k = 8 := by omega
      rcases this with rfl | rfl | rfl | rfl | rfl | rfl | rfl | rfl | rfl <;> simp only [Nat.reducePow] <;> omega
    rw [madeRows, madeRows, madeRows_mod m z k (by omega), e]
theorem rightRows_all1 : ∀ m, m < 512 → rightRows (madeRows m 1 9) 1 = true := by decide +kernel
theorem rightRows_all2 : ∀ m, m < 512 → rightRows (madeRows m 2 9) 2 = true := by decide +kernel
theorem rightRows_all3 : ∀ m, m < 512 → rightRows (madeRows m 3 9) 3 = true := by decide +kernel
theorem rightRows_made (m z : Nat) (hz : 1 ≤ z) (hz3 : z ≤ 3) : rightRows (madeRows m z 9) z = true := by
  rw [madeRows_mod m z 9 (Nat.le_refl _)]
  have hm : m % 512 < 512 := Nat.mod_lt _ (by omega)
  have : z = 1 ∨ z = 2 ∨ z = 3 := by omega
  rcases this with rfl | rfl | rfl
  · exact rightRows_all1 _ hm
  · exact rightRows_all2 _ hm
  · exact rightRows_all3 _ hm

theorem centsOk_made {ps : List Int} (hps : ∀ x ∈ ps, 0 ≤ x ∧ x ≤ 255) (c s z : Nat) : centsOk (madeCents ps c s z) = true := by
  simp only [centsOk, madeCents, List.all_eq_true, List.mem_map]
  rintro x ⟨k, _, rfl⟩
  have := priceAt_bd hps (17 * c + 5 * s + k)
  simp; omega
theorem madeCents_len (ps : List Int) (c s z : Nat) : (madeCents ps c s z).length = z := by simp [madeCents]
theorem madeSteps_len (ps : List Int) (z c s : Nat) : (madeSteps ps z c s).length = s := by simp [madeSteps]
theorem madeRates_len (ps : List Int) (z s : Nat) (bar : Int) (c : Nat) : (madeRates ps z s bar c).length = c := by simp [madeRates]
theorem rightRate_made {ps : List Int} (hps : ∀ x ∈ ps, 0 ≤ x ∧ x ≤ 255) (z s : Nat) (bar : Int) (k : Nat) (hs : 1 ≤ s) (hs3 : s ≤ 3) (hb : 0 ≤ bar) (hb2 : bar ≤ 31) :
    rightRate ⟨(k : Int) + 1, madeSteps ps z k s, bar⟩ z = true := by
  unfold rightRate
  rw [if_neg (by simp only [madeSteps_len]; omega)]
  have key : ∀ (j : Nat) (b : Int), b < 20 + 30 * (j : Int) → j ≤ 3 → ∀ t : List Step, stepsOk z (20 + 30 * (j : Int)) t = true → stepsOk z b (⟨20 + 30 * (j : Int), madeCents ps k j z⟩ :: t) = true := by
    intro j b hb hj t ht
    rw [stepsOk_yes (by simp only [madeCents_len]; omega) (centsOk_made hps _ _ _)]
    exact ht
  have hnil : ∀ b, stepsOk z b [] = true := fun _ => rfl
  have : s = 1 ∨ s = 2 ∨ s = 3 := by omega
  rcases this with rfl | rfl | rfl <;> simp only [madeSteps, List.range_succ, List.range_zero, List.nil_append, List.map_cons, List.map_nil, List.cons_append]
  · exact key 0 0 (by omega) (by omega) _ (hnil _)
  · exact key 0 0 (by omega) (by omega) _ (key 1 _ (by omega) (by omega) _ (hnil _))
  · exact key 0 0 (by omega) (by omega) _ (key 1 _ (by omega) (by omega) _ (key 2 _ (by omega) (by omega) _ (hnil _)))
theorem countZones_made (ps : List Int) (z s : Nat) (bar : Int) (c : Nat) (hs : 1 ≤ s) (hc : 1 ≤ c) : countZones (madeRates ps z s bar c) = z := by
  obtain ⟨c, rfl⟩ : ∃ d, c = d + 1 := ⟨c - 1, by omega⟩
  obtain ⟨s, rfl⟩ : ∃ d, s = d + 1 := ⟨s - 1, by omega⟩
  simp [madeRates, List.range_succ_eq_map, countZones, madeSteps, madeCents]
theorem ratesOk_made {ps : List Int} (hps : ∀ x ∈ ps, 0 ≤ x ∧ x ≤ 255) (z s : Nat) (bar : Int) (c : Nat) (hs : 1 ≤ s) (hs3 : s ≤ 3) (hc : 1 ≤ c) (hc3 : c ≤ 3) (hb : 0 ≤ bar) (hb2 : bar ≤ 31) :
    ratesOk z [] (madeRates ps z s bar c) = true := by
  have h0 := rightRate_made hps z s bar 0 hs hs3 hb hb2
  have h1 := rightRate_made hps z s bar 1 hs hs3 hb hb2
  have h2 := rightRate_made hps z s bar 2 hs hs3 hb hb2
  have n0 : ∀ met, memB (((0 : Nat) : Int) + 1) met = false → ¬ rateBad z met ⟨((0 : Nat) : Int) + 1, madeSteps ps z 0 s, bar⟩ := fun met hm => by unfold rateBad; rw [h0, hm]; simp
  have n1 : ∀ met, memB (((1 : Nat) : Int) + 1) met = false → ¬ rateBad z met ⟨((1 : Nat) : Int) + 1, madeSteps ps z 1 s, bar⟩ := fun met hm => by unfold rateBad; rw [h1, hm]; simp
  have n2 : ∀ met, memB (((2 : Nat) : Int) + 1) met = false → ¬ rateBad z met ⟨((2 : Nat) : Int) + 1, madeSteps ps z 2 s, bar⟩ := fun met hm => by unfold rateBad; rw [h2, hm]; simp
  have : c = 1 ∨ c = 2 ∨ c = 3 := by omega
  rcases this with rfl | rfl | rfl <;> simp only [madeRates, List.range_succ, List.range_zero, List.nil_append, List.map_cons, List.map_nil, List.cons_append]
  · rw [ratesOk_yes (n0 _ rfl)]; rfl
  · rw [ratesOk_yes (n0 _ rfl), ratesOk_yes (n1 _ rfl)]; rfl
  · rw [ratesOk_yes (n0 _ rfl), ratesOk_yes (n1 _ rfl), ratesOk_yes (n2 _ rfl)]; rfl
/-- what Made makes is right -/
theorem right_made {ps : List Int} (hps : ∀ x ∈ ps, 0 ≤ x ∧ x ≤ 255) (m z s : Nat) (bar : Int) (c : Nat) (hz : 1 ≤ z) (hz3 : z ≤ 3) (hs : 1 ≤ s) (hs3 : s ≤ 3) (hc : 1 ≤ c) (hc3 : c ≤ 3) (hb : 0 ≤ bar) (hb2 : bar ≤ 31) :
    right (madeRates ps z s bar c) (madeRows m z 9) = true := by
  unfold right
  have hl := madeRows_len m z 9
  rw [if_pos (by unfold rightMany; rw [madeRates_len]; omega), countZones_made _ _ _ _ _ hs hc, if_neg (by omega), ratesOk_made hps z s bar c hs hs3 hc hc3 hb hb2, if_pos rfl]
  exact rightRows_made m z hz hz3
theorem rateOf_made (ps : List Int) (z s : Nat) (bar : Int) (c k : Nat) (hk : k < c) (hc : c ≤ 3) : rateOf ((k : Int) + 1) (madeRates ps z s bar c) = some ⟨(k : Int) + 1, madeSteps ps z k s, bar⟩ := by
  have : c = 1 ∨ c = 2 ∨ c = 3 := by omega
  have hk3 : k = 0 ∨ k = 1 ∨ k = 2 := by omega
  rcases this with rfl | rfl | rfl <;> rcases hk3 with rfl | rfl | rfl <;> first | omega | simp [madeRates, List.range_succ, rateOf]
end Go.Proofs.Ythbnbfeolfkkaaa
