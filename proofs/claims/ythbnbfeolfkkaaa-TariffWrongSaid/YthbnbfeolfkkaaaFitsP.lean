/- What Bases and Postage compute of tariffs, schemes and mailings that are made; in plain Lean. -/
import Derived.Test.YthbnbfeolfkkaaaAddsP
namespace Go.Proofs.Ythbnbfeolfkkaaa

theorem minGo_ge : ∀ (m : Int) (xs : List Int), 300 ≤ m → (∀ x ∈ xs, 300 ≤ x) → 300 ≤ minGo m xs
  | _, [], h, _ => h
  | m, c :: t, h, hx => by
    rw [minGo]
    have hc := hx c (by simp)
    exact minGo_ge _ t (by split <;> omega) (fun x hm => hx x (List.mem_cons_of_mem _ hm))
theorem minL_ge {xs : List Int} (h0 : xs ≠ []) (h : ∀ x ∈ xs, 300 ≤ x) : 300 ≤ minL xs := by
  cases xs with
  | nil => exact absurd rfl h0
  | cons a t => exact minGo_ge a t (h a (by simp)) (fun x hm => h x (List.mem_cons_of_mem _ hm))
theorem leastGo_ge : ∀ (ss : List Step) (m : Int), 300 ≤ m → (∀ s ∈ ss, 300 ≤ minL s.cents) → 300 ≤ leastGo m ss
  | [], _, h, _ => h
  | s :: t, m, h, hs => by
    rw [leastGo]
    have := hs s (by simp)
    exact leastGo_ge t _ (by split <;> omega) (fun x hm => hs x (List.mem_cons_of_mem _ hm))
theorem ratesFit_of {g : Int} (hg : g ≤ 269) : ∀ rs : List Rate, (∀ r ∈ rs, r.bar ≤ 31 ∧ ∀ s ∈ r.steps, 300 ≤ minL s.cents) → ratesFit g rs = true
  | [], _ => rfl
  | r :: t, h => by
    obtain ⟨h1, h2⟩ := h r (by simp)
    have := leastGo_ge r.steps 1000000 (by omega) h2
    rw [ratesFit, if_neg (by omega)]
    exact ratesFit_of hg t (fun q hq => h q (List.mem_cons_of_mem _ hq))
theorem maxGo_le {b : Int} : ∀ (ls : List Level) (m : Int), m ≤ b → (∀ l ∈ ls, l.cents ≤ b) → maxGo m ls ≤ b
  | [], _, h, _ => h
  | l :: t, m, h, hl => by
    rw [maxGo]
    have := hl l (by simp)
    exact maxGo_le t _ (by split <;> omega) (fun x hm => hl x (List.mem_cons_of_mem _ hm))
theorem madeCents_ge {ps : List Int} (hps : ∀ x ∈ ps, 0 ≤ x ∧ x ≤ 255) (c s z : Nat) : ∀ x ∈ madeCents ps c s z, 300 ≤ x ∧ x ≤ 555 := by
  intro x hx
  obtain ⟨k, _, rfl⟩ := List.mem_map.1 hx
  exact priceAt_bd hps _
/-- a tariff that is made fits each right scheme that saves at most 269 -/
theorem fits_made {ps : List Int} (hps : ∀ x ∈ ps, 0 ≤ x ∧ x ≤ 255) (m z s : Nat) (bar : Int) (c : Nat) (hz : 1 ≤ z) (hz3 : z ≤ 3) (hs : 1 ≤ s) (hs3 : s ≤ 3) (hc : 1 ≤ c) (hc3 : c ≤ 3) (hb : 0 ≤ bar) (hb2 : bar ≤ 31)
    {ls : List Level} (hls : schemeRight ls = true) (hl : ∀ l ∈ ls, l.cents ≤ 269) : fits (madeRates ps z s bar c) (madeRows m z 9) ls = true := by
  unfold fits
  rw [right_made hps m z s bar c hz hz3 hs hs3 hc hc3 hb hb2, hls, if_neg (by simp)]
  refine ratesFit_of (maxGo_le ls 0 (by omega) hl) _ fun r hr => ?_
  obtain ⟨k, _, rfl⟩ := List.mem_map.1 hr
  refine ⟨hb2, fun q hq => ?_⟩
  obtain ⟨j, _, rfl⟩ := List.mem_map.1 hq
  refine minL_ge (fun e => ?_) (fun x hx => (madeCents_ge hps _ _ _ x hx).1)
  have := congrArg List.length e
  simp [madeCents_len] at this
  omega
def GoodL (l : Level) : Prop := (0 ≤ l.cents ∧ l.cents ≤ 255) ∧ l.labels.length ≤ 6 ∧ l.name.size ≤ 10
theorem goodA (m : Nat) {c : Int} (h : 0 ≤ c ∧ c ≤ 255) : GoodL (LA m c) := ⟨h, by have := lenA m c; omega, by show (4 : Nat) ≤ 10; omega⟩
theorem goodB (m : Nat) {c : Int} (h : 0 ≤ c ∧ c ≤ 255) : GoodL (LB m c) := ⟨h, lenB m c, by show (5 : Nat) ≤ 10; omega⟩
theorem goodC (m : Nat) {c : Int} (h : 0 ≤ c ∧ c ≤ 255) : GoodL (LC m c) := ⟨h, by have := lenC m c; omega, by show (3 : Nat) ≤ 10; omega⟩
theorem goodD {c : Int} (h : 0 ≤ c ∧ c ≤ 255) : GoodL (LD c) := ⟨h, by rw [lenD]; omega, by show (3 : Nat) ≤ 10; omega⟩
theorem good_cons {l : Level} {t : List Level} (h : GoodL l) (ht : ∀ x ∈ t, GoodL x) : ∀ x ∈ l :: t, GoodL x := fun x hx => by
  rcases List.mem_cons.1 hx with rfl | hx
  · exact h
  · exact ht x hx
theorem good_nil : ∀ x ∈ ([] : List Level), GoodL x := fun x hx => by cases hx
theorem madeLevels_good (n : Nat) (cents : List Int) (hc : ∀ x ∈ cents, 0 ≤ x ∧ x ≤ 255) : (∀ l ∈ madeLevels n cents, GoodL l) ∧ 1 ≤ (madeLevels n cents).length ∧ (madeLevels n cents).length ≤ 4 := by
  obtain ⟨m5, m3, m1, c0, c1, c2, c3, h0, h1, h2, h3, h⟩ := madeLevels_form n cents hc
  rcases h with h | h | h | h | h | h | h | h <;> rw [h] <;> refine ⟨?_, by simp, by simp⟩
  · exact good_cons (goodD h0) good_nil
  · exact good_cons (goodA _ h0) (good_cons (goodD h1) good_nil)
  · exact good_cons (goodB _ h0) (good_cons (goodD h1) good_nil)
  · exact good_cons (goodC _ h0) (good_cons (goodD h1) good_nil)
  · exact good_cons (goodA _ h0) (good_cons (goodB _ h1) (good_cons (goodD h2) good_nil))
  · exact good_cons (goodA _ h0) (good_cons (goodC _ h1) (good_cons (goodD h2) good_nil))
  · exact good_cons (goodB _ h0) (good_cons (goodC _ h1) (good_cons (goodD h2) good_nil))
  · exact good_cons (goodA _ h0) (good_cons (goodB _ h1) (good_cons (goodC _ h2) (good_cons (goodD h3) good_nil)))

/-! bases and postage, one by one -/
def baseOf (ss : List Step) (zs : List Zone) (o : ByteArray) (p : Piece) : Int := (priceOf ss (zoneOf zs o p.code) p.grams).1
theorem basesAcc_map {ss : List Step} {zs : List Zone} {o : ByteArray} : ∀ (ps : List Piece) (acc : List Int), (∀ p ∈ ps, (priceOf ss (zoneOf zs o p.code) p.grams).2 = 0) → basesAcc ss zs o acc ps = (acc ++ ps.map (baseOf ss zs o), 0)
  | [], acc, _ => by simp [basesAcc]
  | p :: t, acc, h => by
    rw [basesAcc_yes (by rw [h p (by simp)]; simp), basesAcc_map t _ (fun q hq => h q (List.mem_cons_of_mem _ hq))]
    simp [baseOf]
theorem postGo_len (bar : Int) (ls : List Level) : ∀ (ps : List Piece) (xs : List Int) (k : Nat) (acc : List Int), (postGo bar ls k acc ps xs).length = acc.length
  | [], xs, k, acc => by cases xs <;> rfl
  | p :: t, [], k, acc => rfl
  | p :: t, x :: xs, k, acc => by rw [postGo, postGo_len bar ls t xs]; simp
theorem postGo_before (bar : Int) (ls : List Level) : ∀ (ps : List Piece) (xs : List Int) (k : Nat) (acc : List Int) (i : Nat), i < k → (postGo bar ls k acc ps xs).getD i 0 = acc.getD i 0
  | [], xs, k, acc, i, _ => by cases xs <;> rfl
  | p :: t, [], k, acc, i, _ => rfl
  | p :: t, x :: xs, k, acc, i, h => by
    rw [postGo, postGo_before bar ls t xs (k + 1) _ i (by omega)]
    simp only [List.getD_eq_getElem?_getD]
    rw [List.getElem?_set_ne (by omega)]
theorem postGo_at (bar : Int) (ls : List Level) : ∀ (ps : List Piece) (xs : List Int) (k : Nat) (acc : List Int) (i : Nat), i < ps.length → ps.length = xs.length → k + ps.length = acc.length → (postGo bar ls k acc ps xs).getD (k + i) 0 = postOne bar ls (ps.getD i Piece.zero) (acc.getD (k + i) 0) (xs.getD i 0)
  | [], _, _, _, _, h, _, _ => by simp at h
  | p :: t, [], _, _, _, _, h, _ => by simp at h
  | p :: t, x :: xs, k, acc, 0, _, h2, h3 => by
    simp only [Nat.add_zero]
    rw [postGo, postGo_before bar ls t xs (k + 1) _ k (by omega)]
    simp only [List.length_cons] at h3
    simp only [List.getD_eq_getElem?_getD]
    rw [List.getElem?_set_self (by omega)]
    rfl
  | p :: t, x :: xs, k, acc, i + 1, h, h2, h3 => by
    simp only [List.length_cons] at h h2 h3
    rw [postGo, show k + (i + 1) = (k + 1) + i from by omega, postGo_at bar ls t xs (k + 1) _ i (by omega) (by omega) (by simp; omega)]
    simp only [List.getD_eq_getElem?_getD]
    rw [List.getElem?_set_ne (by omega)]
    rfl
theorem planOk_of {n : Nat} : ∀ {l : List Int}, (∀ x ∈ l, 0 ≤ x ∧ x < (n : Int)) → planOk n l = true
  | [], _ => rfl
  | y :: t, h => by
    have := h y (by simp)
    rw [planOk, if_neg (by omega)]
    exact planOk_of (fun x hx => h x (List.mem_cons_of_mem _ hx))

/-! tariffs, mailings that are made -/
theorem stepAt_first {ps : List Int} {z k s : Nat} {g : Int} (hs : 1 ≤ s) (hg : g ≤ 20) : priceOf (madeSteps ps z k s) = priceOf (madeSteps ps z k s) ∧ ∀ zn, priceOf (madeSteps ps z k s) zn g = ((madeCents ps k 0 z).getD (zn - 1).toNat 0, 0) := by
  refine ⟨rfl, fun zn => ?_⟩
  rw [priceOf_find, priceFind]
  obtain ⟨s, rfl⟩ : ∃ q, s = q + 1 := ⟨s - 1, by omega⟩
  have e : (madeSteps ps z k (s + 1)).find? (fun q => decide (g ≤ q.grams)) = some ⟨20 + 30 * ((0 : Nat) : Int), madeCents ps k 0 z⟩ := by
    unfold madeSteps
    rw [List.range_succ_eq_map, List.map_cons, List.find?_cons_of_pos (by simp; omega)]
  rw [e]
theorem mail_grams : ∀ (l : List Int) (id : Int), (∀ x ∈ l, 0 ≤ x ∧ x ≤ 65535) → ∀ p ∈ mailPieces id l, 1 ≤ p.grams ∧ p.grams ≤ 20 ∧ isCode p.code = true ∧ p.code.size ≤ 5
  | [], _, _, p, hp => by cases hp
  | x :: t, id, hx, p, hp => by
    have hxx := hx x (by simp)
    rcases List.mem_cons.1 hp with rfl | hp
    · exact ⟨by simp only [mailPiece]; omega, by simp only [mailPiece]; omega, (isCode_of (x := x / 256) (by omega) (by omega)).1, by simp only [mailPiece, codeOf_size]; omega⟩
    · exact mail_grams t _ (fun y hy => hx y (List.mem_cons_of_mem _ hy)) p hp
section
variable {ps : List Int} (hps : ∀ x ∈ ps, 0 ≤ x ∧ x ≤ 255) (m z s : Nat) (bar : Int) (c : Nat) (hz : 1 ≤ z) (hz3 : z ≤ 3) (hs : 1 ≤ s) (hs3 : s ≤ 3) (hc3 : c ≤ 3) (hb : 0 ≤ bar) (hb2 : bar ≤ 31) (k : Nat) (hk : k < c)
include hps hz hz3 hs hs3 hc3 hb hb2 hk
/-- the price of a zone of a tariff that is made, for a light piece -/
theorem price_made {zn g : Int} (h1 : 1 ≤ zn) (h2 : zn ≤ z) (hg : 1 ≤ g) (hg2 : g ≤ 20) : priceRes (madeRates ps z s bar c) (madeRows m z 9) ((k : Int) + 1) zn g = ((madeCents ps k 0 z).getD (zn - 1).toNat 0, 0) ∧ 300 ≤ (madeCents ps k 0 z).getD (zn - 1).toNat 0 ∧ (madeCents ps k 0 z).getD (zn - 1).toNat 0 ≤ 555 := by
  have hr := right_made hps m z s bar c hz hz3 hs hs3 (by omega) hc3 hb hb2
  refine ⟨?_, ?_⟩
  · unfold priceRes
    rw [if_neg (by unfold priceBad; rw [hr, countZones_made _ _ _ _ _ hs (by omega)]; simp; omega)]
    unfold priceBy
    rw [rateOf_made ps z s bar c k hk hc3]
    exact (stepAt_first hs hg2).2 zn
  · have hlt : (zn - 1).toNat < (madeCents ps k 0 z).length := by rw [madeCents_len]; omega
    refine madeCents_ge hps k 0 z _ ?_
    rw [List.getD_eq_getElem?_getD, List.getElem?_eq_getElem hlt]
    exact List.getElem_mem hlt
theorem zone_made (f t : ByteArray) (hf : isCode f = true) (ht : isCode t = true) : zoneRes (madeRates ps z s bar c) (madeRows m z 9) f t = (zoneOf (madeRows m z 9) f t, 0) ∧ 1 ≤ zoneOf (madeRows m z 9) f t ∧ zoneOf (madeRows m z 9) f t ≤ z := by
  have hr := right_made hps m z s bar c hz hz3 hs hs3 (by omega) hc3 hb hb2
  refine ⟨?_, zoneOf_in (rightRows_made m z hz hz3) f t⟩
  rw [zoneRes, if_neg (by rw [hr, hf, ht]; simp)]
/-- the bases of a mailing that is made -/
theorem bases_made (country : Int) (o : ByteArray) (pcs : List Piece) (hm : mailing ⟨(k : Int) + 1, country, o, pcs⟩ = true) (hg : ∀ p ∈ pcs, p.grams ≤ 20) :
    basesRes (madeRates ps z s bar c) (madeRows m z 9) ⟨(k : Int) + 1, country, o, pcs⟩ = (pcs.map (baseOf (madeSteps ps z k s) (madeRows m z 9) o), 0) := by
  have hr := right_made hps m z s bar c hz hz3 hs hs3 (by omega) hc3 hb hb2
  unfold basesRes
  rw [if_neg (by rw [hr, hm]; simp)]
  unfold basesBy
  rw [rateOf_made ps z s bar c k hk hc3]
  simp only
  rw [basesAcc_map pcs [] fun p hp => by rw [(stepAt_first hs (hg p hp)).2]]
  rfl
/-- the postage of a mailing that is made -/
theorem post_made (country : Int) (o : ByteArray) (pcs : List Piece) (hm : mailing ⟨(k : Int) + 1, country, o, pcs⟩ = true) (hg : ∀ p ∈ pcs, p.grams ≤ 20) {ls : List Level} (hls : schemeRight ls = true) (hl : ∀ l ∈ ls, l.cents ≤ 269)
    {plan : List Int} (hpl : plan.length = pcs.length) (hp : ∀ x ∈ plan, 0 ≤ x ∧ x < (ls.length : Int)) :
    postRes (madeRates ps z s bar c) (madeRows m z 9) ls ⟨(k : Int) + 1, country, o, pcs⟩ plan = (postGo bar ls 0 (pcs.map (baseOf (madeSteps ps z k s) (madeRows m z 9) o)) pcs plan, 0) := by
  unfold postRes
  rw [fits_made hps m z s bar c hz hz3 hs hs3 (by omega) hc3 hb hb2 hls hl, hm, if_neg (by simp [hpl]), planOk_of hp, if_neg (by simp)]
  unfold postBy
  rw [bases_made hps m z s bar c hz hz3 hs hs3 hc3 hb hb2 k hk country o pcs hm hg, rateOf_made ps z s bar c k hk hc3]
  simp
end
end Go.Proofs.Ythbnbfeolfkkaaa
