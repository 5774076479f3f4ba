/- TariffLevels in plain Lean: schemes without savings, mailings without barcodes. -/
import Derived.Test.YthbnbfeolfkkaaaAddsQ
namespace Go.Proofs.Ythbnbfeolfkkaaa

def noCents (l : Level) : Level := ⟨l.name, l.pre, l.labels, l.least, 0⟩
def noBar (p : Piece) : Piece := ⟨p.id, p.point, p.code, p.grams, false⟩
/-- the levels that are made, without their cents: those that are made of no cents -/
theorem noCents_made (n : Nat) (cents : List Int) : (madeLevels n cents).map noCents = madeLevels n [] := by
  unfold madeLevels made1 made3 made5 addL
  by_cases h5 : n % 2 = 1 <;> by_cases h3 : n / 2 % 2 = 1 <;> by_cases h1 : n / 4 % 2 = 1 <;> simp [h5, h3, h1, noCents]
theorem cents_nil (n : Nat) : ∀ l ∈ madeLevels n [], l.cents = 0 := by
  intro l hl
  rw [← noCents_made n []] at hl
  obtain ⟨q, _, rfl⟩ := List.mem_map.1 hl
  rfl
theorem piecesOk_noBar : ∀ (ps : List Piece) (bf : Int), piecesOk bf (ps.map noBar) = piecesOk bf ps
  | [], _ => rfl
  | p :: t, bf => by
    have : pieceBad bf (noBar p) ↔ pieceBad bf p := Iff.rfl
    simp only [List.map_cons, piecesOk, piecesOk_noBar t, noBar]
    rfl
theorem mailing_noBar (c k : Int) (o : ByteArray) (ps : List Piece) : mailing ⟨c, k, o, ps.map noBar⟩ = mailing ⟨c, k, o, ps⟩ := by
  unfold mailing
  simp only [List.length_map, piecesOk_noBar]
theorem bases_noBar (ss : List Step) (zs : List Zone) (o : ByteArray) (ps : List Piece) : (ps.map noBar).map (baseOf ss zs o) = ps.map (baseOf ss zs o) := by
  rw [List.map_map]; rfl
theorem set_getD_self : ∀ (l : List Int) (k : Nat), l.set k (l.getD k 0) = l
  | [], _ => by simp
  | x :: t, 0 => by simp
  | x :: t, k + 1 => by
    rw [List.set_cons_succ]
    congr 1
    exact set_getD_self t k
/-- without savings and without barcodes the postage is the base -/
theorem postGo_none (bar : Int) {ls : List Level} (hl : ∀ l ∈ ls, l.cents = 0) : ∀ (ps : List Piece) (xs : List Int) (k : Nat) (acc : List Int), (∀ p ∈ ps, p.barred = false) → postGo bar ls k acc ps xs = acc
  | [], xs, k, acc, _ => by cases xs <;> rfl
  | p :: t, [], k, acc, _ => rfl
  | p :: t, x :: xs, k, acc, h => by
    have hc : (ls.getD x.toNat Level.zero).cents = 0 := by
      rcases Nat.lt_or_ge x.toNat ls.length with hx | hx
      · rw [List.getD_eq_getElem?_getD, List.getElem?_eq_getElem hx]; exact hl _ (List.getElem_mem hx)
      · rw [List.getD_eq_getElem?_getD, List.getElem?_eq_none hx]; rfl
    rw [postGo, postOne, hc, h p (by simp)]
    simp only [Bool.false_eq_true, if_false, Int.sub_zero]
    rw [set_getD_self]
    exact postGo_none bar hl t xs (k + 1) acc (fun q hq => h q (List.mem_cons_of_mem _ hq))
section
variable {ps : List Int} (hps : ∀ x ∈ ps, 0 ≤ x ∧ x ≤ 255) (m z s : Nat) (bar : Int) (c : Nat) (hz : 1 ≤ z) (hz3 : z ≤ 3) (hs : 1 ≤ s) (hs3 : s ≤ 3) (hc3 : c ≤ 3) (hb : 0 ≤ bar) (hb2 : bar ≤ 31) (k : Nat) (hk : k < c)
include hps hz hz3 hs hs3 hc3 hb hb2 hk
/-- a round of TariffLevels -/
theorem levels_piece (o : ByteArray) (ho : isCode o = true) (pcs : List Piece) (hg : ∀ p ∈ pcs, 1 ≤ p.grams ∧ p.grams ≤ 20 ∧ isCode p.code = true) {ls : List Level} (hl : ∀ l ∈ ls, 0 ≤ l.cents ∧ l.cents ≤ 255)
    {plan : List Int} (hpl : plan.length = pcs.length) (hp : ∀ x ∈ plan, 0 ≤ x ∧ x < (ls.length : Int)) (i : Nat) (hi : i < pcs.length) :
    ∃ (P C : Int) (j : Nat), (pcs.map (baseOf (madeSteps ps z k s) (madeRows m z 9) o)).getD i 0 = P ∧ 300 ≤ P ∧ P ≤ 555 ∧ plan.getD i 0 = (j : Int) ∧ j < ls.length ∧ (ls.getD j Level.zero).cents = C ∧ 0 ≤ C ∧ C ≤ 255 ∧
      (postGo bar ls 0 (pcs.map (baseOf (madeSteps ps z k s) (madeRows m z 9) o)) pcs plan).getD i 0 = (if (pcs.getD i Piece.zero).barred then P - bar else P) - C := by
  obtain ⟨zn, P, C, j, _, _, h3, h4, h5, h6, h7, h8, h9, h10, h11⟩ := adds_piece hps m z s bar c hz hz3 hs hs3 hc3 hb hb2 k hk o ho pcs hg hl hpl hp i hi
  exact ⟨P, C, j, h3, h4, h5, h6, h7, h8, h9, h10, h11⟩
/-- all that TariffLevels needs of bases and postage -/
theorem levels_facts (o : ByteArray) (pcs : List Piece) (hm : mailing ⟨(k : Int) + 1, 1, o, pcs⟩ = true) (hg : ∀ p ∈ pcs, 1 ≤ p.grams ∧ p.grams ≤ 20 ∧ isCode p.code = true) (n : Nat) (cents : List Int) (hcs : ∀ x ∈ cents, 0 ≤ x ∧ x ≤ 255) :
    ∃ bs : List Int, bs.length = pcs.length ∧ basesRes (madeRates ps z s bar c) (madeRows m z 9) ⟨(k : Int) + 1, 1, o, pcs⟩ = (bs, 0) ∧
      (∀ plan : List Int, plan.length = pcs.length → (∀ x ∈ plan, 0 ≤ x ∧ x < ((madeLevels n cents).length : Int)) → ∃ gs : List Int, postRes (madeRates ps z s bar c) (madeRows m z 9) (madeLevels n cents) ⟨(k : Int) + 1, 1, o, pcs⟩ plan = (gs, 0) ∧ gs.length = pcs.length ∧
        ∀ i, i < pcs.length → ∃ (P C : Int) (j : Nat), 300 ≤ P ∧ P ≤ 555 ∧ plan.getD i 0 = (j : Int) ∧ j < (madeLevels n cents).length ∧ ((madeLevels n cents).getD j Level.zero).cents = C ∧ 0 ≤ C ∧ C ≤ 255 ∧ bs.getD i 0 = P ∧ gs.getD i 0 = (if (pcs.getD i Piece.zero).barred then P - bar else P) - C) ∧
      (∀ plan : List Int, plan.length = pcs.length → (∀ x ∈ plan, 0 ≤ x ∧ x < ((madeLevels n cents).length : Int)) → postRes (madeRates ps z s bar c) (madeRows m z 9) (madeLevels n []) ⟨(k : Int) + 1, 1, o, pcs.map noBar⟩ plan = (bs, 0)) ∧
      (∀ plan : List Int, plan.length = pcs.length → (∀ x ∈ plan, 0 ≤ x ∧ x < ((madeLevels n cents).length : Int)) → ∃ ds : List Int, postRes (madeRates ps z s bar c) (madeRows m z 9) (madeLevels n []) ⟨(k : Int) + 1, 1, o, pcs⟩ plan = (ds, 0) ∧ ds.length = pcs.length ∧
        ∀ i, i < pcs.length → ∃ P : Int, 300 ≤ P ∧ P ≤ 555 ∧ bs.getD i 0 = P ∧ ds.getD i 0 = (if (pcs.getD i Piece.zero).barred then P - bar else P)) := by
  have ho := (mailing_parts hm).1
  have hg20 : ∀ p ∈ pcs, p.grams ≤ 20 := fun p hp => (hg p hp).2.1
  obtain ⟨g1, _, _⟩ := madeLevels_good n cents hcs
  have hnil : ∀ x ∈ ([] : List Int), 0 ≤ x ∧ x ≤ 255 := fun x hx => by cases hx
  have hl0 : (madeLevels n []).length = (madeLevels n cents).length := by rw [← noCents_made n cents, List.length_map]
  have hbm := bases_made hps m z s bar c hz hz3 hs hs3 hc3 hb hb2 k hk 1 o pcs hm hg20
  have c0 := cents_nil n
  refine ⟨_, by simp, hbm, fun plan h1 h2 => ?_, fun plan h1 h2 => ?_, fun plan h1 h2 => ?_⟩
  · refine ⟨_, post_made hps m z s bar c hz hz3 hs hs3 hc3 hb hb2 k hk 1 o pcs hm hg20 (schemeRight_made n cents hcs) (fun l hl => by have := (g1 l hl).1; omega) h1 h2, by rw [postGo_len]; simp, fun i hi => ?_⟩
    obtain ⟨P, C, j, e1, e2, e3, e4, e5, e6, e7, e8, e9⟩ := levels_piece hps m z s bar c hz hz3 hs hs3 hc3 hb hb2 k hk o ho pcs hg (fun l hl => (g1 l hl).1) h1 h2 i hi
    exact ⟨P, C, j, e2, e3, e4, e5, e6, e7, e8, e1, e9⟩
  · rw [post_made hps m z s bar c hz hz3 hs hs3 hc3 hb hb2 k hk 1 o (pcs.map noBar) (by rw [mailing_noBar]; exact hm) (fun p hp => by obtain ⟨q, hq, rfl⟩ := List.mem_map.1 hp; exact hg20 q hq) (schemeRight_made n [] hnil) (fun l hl => by rw [c0 l hl]; omega) (by rw [List.length_map]; exact h1) (by rw [hl0]; exact h2), bases_noBar, postGo_none bar c0 _ _ _ _ (fun p hp => by obtain ⟨q, hq, rfl⟩ := List.mem_map.1 hp; rfl)]
  · refine ⟨_, post_made hps m z s bar c hz hz3 hs hs3 hc3 hb hb2 k hk 1 o pcs hm hg20 (schemeRight_made n [] hnil) (fun l hl => by rw [c0 l hl]; omega) h1 (by rw [hl0]; exact h2), by rw [postGo_len]; simp, fun i hi => ?_⟩
    obtain ⟨P, C, j, e1, e2, e3, e4, e5, e6, e7, e8, e9⟩ := levels_piece hps m z s bar c hz hz3 hs hs3 hc3 hb hb2 k hk o ho pcs hg (fun l hl => by rw [c0 l hl]; omega) h1 (by rw [hl0]; exact h2) i hi
    refine ⟨P, e2, e3, e1, ?_⟩
    have hC : C = 0 := by
      rw [← e6, List.getD_eq_getElem?_getD, List.getElem?_eq_getElem e5]
      exact c0 _ (List.getElem_mem e5)
    rw [e9, hC]
    omega
end
end Go.Proofs.Ythbnbfeolfkkaaa
