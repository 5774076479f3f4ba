/- Plain laws on the tariff: the zone of two codes is one of the tariff's, if its rows are right; what Bases and Postage compute. -/
import Derived.Test.YthbnbfeolfkkaaaPlain
import Derived.Lib.Strings
namespace Go.Proofs.Ythbnbfeolfkkaaa

theorem hasPre_iff (s p : ByteArray) : hasPre s p = true ↔ p.data.toList <+: s.data.toList := by
  unfold hasPre
  rw [Lib.extract_toList, Lib.toList_data]
  simp only [List.drop_zero, Nat.sub_zero, Bool.and_eq_true, decide_eq_true_eq, beq_iff_eq]
  constructor
  · rintro ⟨_, h⟩
    rw [← h]
    exact List.take_prefix _ _
  · intro h
    have hl := h.length_le
    have h2 := List.prefix_iff_eq_take.1 h
    have e : p.size = p.data.toList.length := by simp
    refine ⟨by simpa using hl, ?_⟩
    rw [e]
    exact h2.symm
theorem hasPre_nil (s : ByteArray) : hasPre s ⟨#[]⟩ = true := by
  rw [hasPre_iff]
  exact List.nil_prefix

theorem rowsOk_mem {z : Int} : ∀ {met : List (ByteArray × ByteArray)} {rows : List Zone}, rowsOk z met rows = true → (memB (⟨#[]⟩, ⟨#[]⟩) met = true ∨ ∃ r ∈ rows, r.frm = ⟨#[]⟩ ∧ r.dst = ⟨#[]⟩) ∧ ∀ r ∈ rows, 1 ≤ r.zone ∧ r.zone ≤ z
  | met, [], h => ⟨.inl h, fun r hr => by cases hr⟩
  | met, q :: t, h => by
    by_cases hb : rowBad z met q
    · rw [rowsOk_no hb] at h; cases h
    · rw [rowsOk_yes hb] at h
      obtain ⟨h1, h2⟩ := rowsOk_mem h
      have hq : 1 ≤ q.zone ∧ q.zone ≤ z := by
        constructor
        · exact Int.not_lt.1 fun hlt => hb (.inr (.inr (.inl hlt)))
        · exact Int.not_lt.1 fun hlt => hb (.inr (.inr (.inr (.inl hlt))))
      refine ⟨?_, fun r hr => ?_⟩
      · rcases h1 with h1 | ⟨r, hr, hr2⟩
        · by_cases he : ((⟨#[]⟩, ⟨#[]⟩) : ByteArray × ByteArray) = (q.frm, q.dst)
          · refine .inr ⟨q, by simp, ?_⟩
            injection he with e1 e2
            exact ⟨e1.symm, e2.symm⟩
          · rw [memB_other _ he] at h1
            exact .inl h1
        · exact .inr ⟨r, List.mem_cons_of_mem _ hr, hr2⟩
      · rcases List.mem_cons.1 hr with rfl | hr
        · exact hq
        · exact h2 r hr

/-- what is found is a row, or what there was before -/
theorem zoneFold_mem (f t : ByteArray) : ∀ (rows : List Zone) (best : Zone), zoneFold f t best rows = best ∨ zoneFold f t best rows ∈ rows
  | [], best => .inl rfl
  | r :: rows, best => by
    rw [zoneFold_cons]
    rcases zoneFold_mem f t rows (zoneStep f t best r) with h | h
    · rw [h]
      unfold zoneStep
      split
      · split
        · exact .inr (by simp)
        · exact .inl rfl
      · exact .inl rfl
    · exact .inr (List.mem_cons_of_mem _ h)
theorem zoneFold_pos (f t : ByteArray) : ∀ (rows : List Zone) (best : Zone), (∀ r ∈ rows, 1 ≤ r.zone) → (1 ≤ best.zone ∨ best.zone = 0 ∧ ∃ r ∈ rows, r.frm = ⟨#[]⟩ ∧ r.dst = ⟨#[]⟩) → 1 ≤ (zoneFold f t best rows).zone
  | [], best, _, h => by
    rcases h with h | ⟨_, r, hr, _⟩
    · exact h
    · cases hr
  | r :: rows, best, hall, h => by
    rw [zoneFold_cons]
    refine zoneFold_pos f t rows _ (fun q hq => hall q (List.mem_cons_of_mem _ hq)) ?_
    have hr := hall r (by simp)
    rcases h with h | ⟨h0, q, hq, hq1, hq2⟩
    · left
      unfold zoneStep
      split
      · split
        · exact hr
        · exact h
      · exact h
    · by_cases hp : (hasPre f r.frm && hasPre t r.dst) = true
      · left
        unfold zoneStep
        rw [if_pos hp, if_pos (.inl h0)]
        exact hr
      · right
        have e : zoneStep f t best r = best := by unfold zoneStep; rw [if_neg hp]
        rw [e]
        refine ⟨h0, q, ?_, hq1, hq2⟩
        rcases List.mem_cons.1 hq with rfl | hq
        · rw [hq1, hq2, hasPre_nil, hasPre_nil] at hp
          exact absurd rfl hp
        · exact hq
theorem zoneOf_in {zs : List Zone} {z : Int} (h : rightRows zs z = true) (f t : ByteArray) : 1 ≤ zoneOf zs f t ∧ zoneOf zs f t ≤ z := by
  obtain ⟨h1, h2⟩ := rowsOk_mem h
  have hex : ∃ r ∈ zs, r.frm = ⟨#[]⟩ ∧ r.dst = ⟨#[]⟩ := by
    rcases h1 with h1 | h1
    · rw [memB_nil] at h1; cases h1
    · exact h1
  have hp := zoneFold_pos f t zs ⟨⟨#[]⟩, ⟨#[]⟩, 0⟩ (fun r hr => (h2 r hr).1) (.inr ⟨rfl, hex⟩)
  refine ⟨hp, ?_⟩
  rcases zoneFold_mem f t zs ⟨⟨#[]⟩, ⟨#[]⟩, 0⟩ with e | e
  · rw [e] at hp; simp at hp
  · exact (h2 _ e).2

/-- the bases of pieces, behind those that were found already; and the error -/
def basesAcc (ss : List Step) (zs : List Zone) (o : ByteArray) : List Int → List Piece → List Int × Int
  | acc, [] => (acc, 0)
  | acc, p :: t => if (priceOf ss (zoneOf zs o p.code) p.grams).2 ≠ 0 then ([], (priceOf ss (zoneOf zs o p.code) p.grams).2) else basesAcc ss zs o (acc ++ [(priceOf ss (zoneOf zs o p.code) p.grams).1]) t
theorem basesAcc_no {ss : List Step} {zs : List Zone} {o : ByteArray} {acc : List Int} {p : Piece} {t : List Piece} (h : (priceOf ss (zoneOf zs o p.code) p.grams).2 ≠ 0) :
    basesAcc ss zs o acc (p :: t) = ([], (priceOf ss (zoneOf zs o p.code) p.grams).2) := by rw [basesAcc, if_pos h]
theorem basesAcc_yes {ss : List Step} {zs : List Zone} {o : ByteArray} {acc : List Int} {p : Piece} {t : List Piece} (h : ¬ (priceOf ss (zoneOf zs o p.code) p.grams).2 ≠ 0) :
    basesAcc ss zs o acc (p :: t) = basesAcc ss zs o (acc ++ [(priceOf ss (zoneOf zs o p.code) p.grams).1]) t := by rw [basesAcc, if_neg h]
def basesBy (rs : List Rate) (zs : List Zone) (m : Mailing) : List Int × Int :=
  match rateOf m.cls rs with
  | none => ([], 6)
  | some r => basesAcc r.steps zs m.origin [] m.pieces
/-- Bases: the bases, and the error -/
def basesRes (rs : List Rate) (zs : List Zone) (m : Mailing) : List Int × Int :=
  if right rs zs = false ∨ mailing m = false then ([], 2) else basesBy rs zs m

end Go.Proofs.Ythbnbfeolfkkaaa
