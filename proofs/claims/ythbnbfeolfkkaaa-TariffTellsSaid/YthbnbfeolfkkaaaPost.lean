/- Plain laws on bases and postage: what Postage computes. -/
import Derived.Test.YthbnbfeolfkkaaaLaws
import Derived.Test.YthbnbfeolfkkaaaW19
namespace Go.Proofs.Ythbnbfeolfkkaaa
open Go.RowKit Go.Maps

theorem priceOf_in {ss : List Step} {z : Int} (h : stepsOk z 0 ss = true) (zone grams : Int) : 0 ≤ (priceOf ss zone grams).1 ∧ (priceOf ss zone grams).1 ≤ 1000000 := by
  unfold priceOf
  split
  · exact ⟨by simp, by simp⟩
  · rename_i hneg
    have hlt := stepAt_lt grams 0 ss
    have hi : (stepAt grams 0 ss).toNat < ss.length := by omega
    obtain ⟨_, _, _, hc⟩ := stepsOk_all h (ss.getD (stepAt grams 0 ss).toNat Step.zero) (by rw [List.getD_eq_getElem?_getD, List.getElem?_eq_getElem hi]; exact List.getElem_mem hi)
    generalize (ss.getD (stepAt grams 0 ss).toNat Step.zero).cents = cs at hc
    generalize (zone - 1).toNat = j
    show 0 ≤ cs.getD j 0 ∧ cs.getD j 0 ≤ 1000000
    rcases Nat.lt_or_ge j cs.length with hj | hj
    · unfold centsOk at hc
      rw [List.all_eq_true] at hc
      have := hc (cs[j]) (List.getElem_mem hj)
      rw [List.getD_eq_getElem?_getD, List.getElem?_eq_getElem hj]
      simpa using this
    · rw [List.getD_eq_getElem?_getD, List.getElem?_eq_none hj]
      simp
theorem basesAcc_spec {ss : List Step} {zs : List Zone} {o : ByteArray} {z : Int} (h : stepsOk z 0 ss = true) : ∀ (ps : List Piece) (acc : List Int), (basesAcc ss zs o acc ps).2 = 0 → (∀ x ∈ acc, 0 ≤ x ∧ x ≤ 1000000) →
    (basesAcc ss zs o acc ps).1.length = acc.length + ps.length ∧ ∀ x ∈ (basesAcc ss zs o acc ps).1, 0 ≤ x ∧ x ≤ 1000000
  | [], acc, _, ha => ⟨rfl, ha⟩
  | p :: t, acc, he, ha => by
    by_cases hp : (priceOf ss (zoneOf zs o p.code) p.grams).2 ≠ 0
    · rw [basesAcc_no hp] at he
      exact absurd he hp
    · rw [basesAcc_yes hp] at he ⊢
      have := basesAcc_spec h t _ he (fun x hx => by
        rcases List.mem_append.1 hx with hx | hx
        · exact ha x hx
        · rw [List.mem_singleton.1 hx]
          exact priceOf_in h _ _)
      refine ⟨?_, this.2⟩
      rw [this.1]
      simp
      omega
/-- Bases without an error: as many as there are pieces, none beyond the limits; and the class has a rate -/
theorem basesRes_ok {rs : List Rate} {zs : List Zone} {m : Mailing} (h : (basesRes rs zs m).2 = 0) :
    ∃ r, rateOf m.cls rs = some r ∧ 0 ≤ r.bar ∧ r.bar ≤ 1000000 ∧ (basesRes rs zs m).1.length = m.pieces.length ∧ ∀ x ∈ (basesRes rs zs m).1, 0 ≤ x ∧ x ≤ 1000000 := by
  unfold basesRes at h ⊢
  by_cases hb : right rs zs = false ∨ mailing m = false
  · rw [if_pos hb] at h; simp at h
  · rw [if_neg hb] at h ⊢
    have hr : right rs zs = true := by
      cases hq : right rs zs
      · exact absurd (.inl hq) hb
      · rfl
    unfold basesBy at h ⊢
    cases hq : rateOf m.cls rs with
    | none => rw [hq] at h; simp at h
    | some r =>
      rw [hq] at h
      obtain ⟨_, _, _, h4, _⟩ := right_parts hr
      obtain ⟨h5, _, _, h6, h7⟩ := rightRate_all (ratesOk_all h4 r (rateOf_mem hq).1).1
      have := basesAcc_spec h5 m.pieces [] h (fun x hx => by cases hx)
      exact ⟨r, rfl, h6, h7, by simpa using this.1, this.2⟩

def planOk (n : Nat) : List Int → Bool
  | [] => true
  | x :: t => if x < 0 ∨ (n : Int) ≤ x then false else planOk n t
theorem planOk_all {n : Nat} : ∀ {l : List Int}, planOk n l = true → ∀ x ∈ l, 0 ≤ x ∧ x < (n : Int)
  | [], _, x, hx => by cases hx
  | y :: t, h, x, hx => by
    unfold planOk at h
    split at h
    · cases h
    · rcases List.mem_cons.1 hx with rfl | hx
      · omega
      · exact planOk_all h x hx
/-- what a piece pays, of its base and the number of its level -/
def postOne (bar : Int) (ls : List Level) (p : Piece) (b x : Int) : Int := (if p.barred then b - bar else b) - (ls.getD x.toNat Level.zero).cents
/-- the bases turned into postage, one after the other, from the piece k on -/
def postGo (bar : Int) (ls : List Level) : Nat → List Int → List Piece → List Int → List Int
  | k, acc, p :: ps, x :: xs => postGo bar ls (k + 1) (acc.set k (postOne bar ls p (acc.getD k 0) x)) ps xs
  | _, acc, _, _ => acc
def postBy (rs : List Rate) (zs : List Zone) (ls : List Level) (m : Mailing) (plan : List Int) : List Int × Int :=
  if (basesRes rs zs m).2 ≠ 0 then ([], (basesRes rs zs m).2) else (postGo ((rateOf m.cls rs).getD ⟨0, [], 0⟩).bar ls 0 (basesRes rs zs m).1 m.pieces plan, 0)
/-- Postage: the postage, and the error -/
def postRes (rs : List Rate) (zs : List Zone) (ls : List Level) (m : Mailing) (plan : List Int) : List Int × Int :=
  if fits rs zs ls = false ∨ mailing m = false ∨ plan.length ≠ m.pieces.length then ([], 2) else if planOk ls.length plan = false then ([], 2) else postBy rs zs ls m plan
end Go.Proofs.Ythbnbfeolfkkaaa
