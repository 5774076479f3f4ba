/- TariffWrong in plain Lean: tariffs and mailings with a defect are not right. -/
import Derived.Test.YthbnbfeolfkkaaaOrderP
namespace Go.Proofs.Ythbnbfeolfkkaaa

theorem not_true {b : Bool} (h : b = true → False) : b = false := by
  cases b
  · rfl
  · exact (h rfl).elim
/-- a rate twice -/
theorem wrong_rate (rs : List Rate) (zs : List Zone) (r : Rate) (hr : r ∈ rs) : right (rs ++ [r]) zs = false := not_true fun h => by
  obtain ⟨_, _, _, h4, _⟩ := right_parts h
  rw [ratesOk_iff] at h4
  have hn := h4.2
  rw [List.map_append, List.nodup_append] at hn
  exact hn.2.2 r.cls (List.mem_map.2 ⟨r, hr, rfl⟩) r.cls (by simp) rfl
/-- a row twice -/
theorem wrong_row (rs : List Rate) (zs : List Zone) (z : Zone) (hz : z ∈ zs) : right rs (zs ++ [z]) = false := not_true fun h => by
  obtain ⟨_, _, _, _, h5⟩ := right_parts h
  unfold rightRows at h5
  rw [rowsOk_iff] at h5
  have hn := h5.2.1
  rw [List.map_append, List.nodup_append] at hn
  exact hn.2.2 (pairOf z) (List.mem_map.2 ⟨z, hz, rfl⟩) (pairOf z) (by simp) rfl
/-- a row whose zone is below 1 -/
theorem wrong_zone (rs : List Rate) (zs : List Zone) (z : Zone) (hz : z ∈ zs) (h0 : z.zone < 1) : right rs zs = false := not_true fun h => by
  obtain ⟨_, _, _, _, h5⟩ := right_parts h
  unfold rightRows at h5
  rw [rowsOk_iff] at h5
  have := (h5.1 z hz).2.2.1
  omega
/-- no row for all codes -/
theorem wrong_all (rs : List Rate) (zs : List Zone) (hz : ∀ z ∈ zs, pairOf z ≠ (⟨#[]⟩, ⟨#[]⟩)) : right rs zs = false := not_true fun h => by
  obtain ⟨_, _, _, _, h5⟩ := right_parts h
  unfold rightRows at h5
  rw [rowsOk_iff] at h5
  rcases h5.2.2 with h6 | h6
  · cases h6
  · obtain ⟨z, h7, h8⟩ := List.mem_map.1 h6
    exact hz z h7 h8
/-- a rate that is not right -/
theorem wrong_steps (rs : List Rate) (zs : List Zone) (r : Rate) (hr : r ∈ rs) (h0 : stepsOk (countZones rs) 0 r.steps = false) : right rs zs = false := not_true fun h => by
  obtain ⟨_, _, _, h4, _⟩ := right_parts h
  rw [ratesOk_iff] at h4
  have := (rightRate_all (h4.1 r hr).2.2).1
  rw [h0] at this
  cases this
/-- a step twice -/
theorem steps_twice {z : Int} : ∀ (ss : List Step) (bf : Int) (s : Step), s ∈ ss → stepsOk z bf (ss ++ [s]) = false
  | [], _, _, h => by cases h
  | q :: t, bf, s, h => not_true fun hk => by
    have ha := stepsOk_all hk
    by_cases hb : q.grams ≤ bf ∨ 50000 < q.grams ∨ (q.cents.length : Int) ≠ z
    · have := ha q (by simp)
      omega
    · by_cases hc : centsOk q.cents = true
      · rw [List.cons_append, stepsOk_yes hb hc] at hk
        rcases List.mem_cons.1 h with rfl | h
        · have := (stepsOk_all hk s (by simp)).2.1
          omega
        · rw [steps_twice t q.grams s h] at hk
          cases hk
      · exact hc (ha q (by simp)).2.2.2
/-- a step with another number of cents -/
theorem steps_other {z bf : Int} (ss : List Step) (s : Step) (hs : s ∈ ss) (hl : (s.cents.length : Int) ≠ z) : stepsOk z bf ss = false := not_true fun h => hl (stepsOk_all h s hs).1

theorem piecesOk_all : ∀ (ps : List Piece) (bf : Int), piecesOk bf ps = true → ∀ p ∈ ps, bf < p.id ∧ isCode p.code = true ∧ 1 ≤ p.grams
  | [], _, _, p, hp => by cases hp
  | q :: t, bf, h, p, hp => by
    by_cases hb : pieceBad bf q
    · rw [piecesOk_no hb] at h; cases h
    · rw [piecesOk_yes hb] at h
      unfold pieceBad at hb
      rcases List.mem_cons.1 hp with rfl | hp
      · refine ⟨by omega, ?_, by omega⟩
        cases hq : isCode p.code
        · exact absurd (.inr (.inr (.inr (.inr (.inl hq))))) hb
        · rfl
      · have := piecesOk_all t q.id h p hp
        exact ⟨by omega, this.2⟩
theorem pieces_twice : ∀ (ps : List Piece) (bf : Int) (p : Piece), p ∈ ps → piecesOk bf (ps ++ [p]) = false
  | [], _, _, h => by cases h
  | q :: t, bf, p, h => not_true fun hk => by
    by_cases hb : pieceBad bf q
    · rw [List.cons_append, piecesOk_no hb] at hk; cases hk
    · rw [List.cons_append, piecesOk_yes hb] at hk
      rcases List.mem_cons.1 h with rfl | h
      · have := (piecesOk_all _ _ hk p (by simp)).1
        omega
      · rw [pieces_twice t q.id p h] at hk
        cases hk
theorem mailing_pieces {m : Mailing} (h : piecesOk 0 m.pieces = false) : mailing m = false := by
  unfold mailing
  split
  · rfl
  · split
    · rfl
    · exact h
theorem wrong_class {m : Mailing} (h : m.cls < 1) : mailing m = false := by
  unfold mailing
  rw [if_pos (.inl h)]
theorem wrong_country {m : Mailing} (h : 3 < m.country) : mailing m = false := by
  unfold mailing
  rw [if_pos (.inr (.inr h))]
theorem wrong_origin {m : Mailing} (h : isCode m.origin = false) : mailing m = false := by
  unfold mailing
  split
  · rfl
  · rw [if_pos (.inl h)]
theorem wrong_grams {m : Mailing} {p : Piece} (hp : p ∈ m.pieces) (h : p.grams < 1) : mailing m = false := mailing_pieces (not_true fun hk => by have := (piecesOk_all _ _ hk p hp).2.2; omega)
theorem wrong_code {m : Mailing} {p : Piece} (hp : p ∈ m.pieces) (h : isCode p.code = false) : mailing m = false := mailing_pieces (not_true fun hk => by have := (piecesOk_all _ _ hk p hp).2.1; rw [h] at this; cases this)
theorem no_code1 : isCode ⟨#[]⟩ = false := by decide +kernel
theorem no_code2 : isCode ⟨#[97]⟩ = false := by decide +kernel
/-- what a tariff that is not right gives -/
theorem zone_bad {rs : List Rate} {zs : List Zone} (h : right rs zs = false) (f t : ByteArray) : zoneRes rs zs f t = (0, 2) := by unfold zoneRes; rw [if_pos (.inl h)]
theorem price_bad {rs : List Rate} {zs : List Zone} (h : right rs zs = false) (c z g : Int) : priceRes rs zs c z g = (0, 2) := by unfold priceRes; rw [if_pos (.inl h)]
theorem bases_bad {rs : List Rate} {zs : List Zone} (h : right rs zs = false) (m : Mailing) : basesRes rs zs m = ([], 2) := by unfold basesRes; rw [if_pos (.inl h)]
theorem fits_bad {rs : List Rate} {zs : List Zone} (h : right rs zs = false) (ls : List Level) : fits rs zs ls = false := by unfold fits; rw [h]; simp
theorem post_bad {rs : List Rate} {zs : List Zone} (h : right rs zs = false) (ls : List Level) (m : Mailing) (plan : List Int) : postRes rs zs ls m plan = ([], 2) := by unfold postRes; rw [if_pos (.inl (fits_bad h ls))]
theorem bases_badM {rs : List Rate} {zs : List Zone} {m : Mailing} (h : mailing m = false) : basesRes rs zs m = ([], 2) := by unfold basesRes; rw [if_pos (.inr h)]
theorem post_badM {rs : List Rate} {zs : List Zone} {m : Mailing} (h : mailing m = false) (ls : List Level) (plan : List Int) : postRes rs zs ls m plan = ([], 2) := by unfold postRes; rw [if_pos (.inr (.inl h))]
theorem post_badP {rs : List Rate} {zs : List Zone} {m : Mailing} {plan : List Int} (h : plan.length ≠ m.pieces.length) (ls : List Level) : postRes rs zs ls m plan = ([], 2) := by unfold postRes; rw [if_pos (.inr (.inr h))]
theorem schemeRight_one (c : Int) (h0 : 0 ≤ c) (h1 : c ≤ 1000000) : schemeRight [LD c] = true := by
  have hn : isName ⟨#[97, 108, 108]⟩ = true := by decide +kernel
  have hl : isLevel (LD c) true = true := by
    unfold isLevel
    rw [if_neg (by unfold levelBad LD; simp only [hn]; rintro (h | h | h | h | h) <;> first | cases h | omega), if_pos rfl]
    rfl
  unfold schemeRight
  rw [if_neg (by simp), if_pos (levelsGo_on (by rw [lenD]; omega) rfl hl rfl rfl)]
  rfl
theorem minGo_le : ∀ (xs : List Int) (m b : Int), m ≤ b → minGo m xs ≤ b
  | [], _, _, h => h
  | c :: t, m, b, h => by
    rw [minGo]
    exact minGo_le t _ b (by split <;> omega)
theorem leastGo_le : ∀ (ss : List Step) (m b : Int), m ≤ b → leastGo m ss ≤ b
  | [], _, _, h => h
  | s :: t, m, b, h => by
    rw [leastGo]
    exact leastGo_le t _ b (by split <;> omega)
section
variable {ps : List Int} (hps : ∀ x ∈ ps, 0 ≤ x ∧ x ≤ 255) (m z s : Nat) (bar : Int) (c : Nat) (hz : 1 ≤ z) (hz3 : z ≤ 3) (hs : 1 ≤ s) (hs3 : s ≤ 3) (hc : 1 ≤ c) (hc3 : c ≤ 3) (hb : 0 ≤ bar) (hb2 : bar ≤ 31)
include hps hz hs hc hb
/-- a scheme that saves 556 fits no tariff that is made -/
theorem fits_no : fits (madeRates ps z s bar c) (madeRows m z 9) [LD 556] = false := not_true fun h => by
  unfold fits at h
  split at h
  · cases h
  · obtain ⟨c, rfl⟩ : ∃ d, c = d + 1 := ⟨c - 1, by omega⟩
    obtain ⟨s, rfl⟩ : ∃ d, s = d + 1 := ⟨s - 1, by omega⟩
    obtain ⟨z, rfl⟩ : ∃ d, z = d + 1 := ⟨z - 1, by omega⟩
    have hmx : maxGo 0 [LD 556] = 556 := rfl
    rw [hmx] at h
    unfold madeRates at h
    rw [List.range_succ_eq_map, List.map_cons, ratesFit] at h
    have hle : leastGo 1000000 (madeSteps ps (z + 1) 0 (s + 1)) ≤ 555 := by
      unfold madeSteps
      rw [List.range_succ_eq_map, List.map_cons, leastGo]
      refine leastGo_le _ _ _ ?_
      have h1 : minL (madeCents ps 0 0 (z + 1)) ≤ 555 := by
        unfold madeCents
        rw [List.range_succ_eq_map, List.map_cons, minL]
        exact minGo_le _ _ _ (priceAt_bd hps _).2
      dsimp only
      split <;> omega
    rw [if_pos (by dsimp only; omega)] at h
    cases h
end
theorem madeRows_head (m z : Nat) : ∀ k, ∃ t, madeRows m z k = ⟨⟨#[]⟩, ⟨#[]⟩, 1⟩ :: t
  | 0 => ⟨[], rfl⟩
  | k + 1 => by
    obtain ⟨t, h⟩ := madeRows_head m z k
    rw [madeRows]
    split
    · exact ⟨t ++ [madeRow z k], by rw [h]; rfl⟩
    · exact ⟨t, h⟩
theorem madeRates_head (ps : List Int) (z s : Nat) (bar : Int) (c : Nat) (hc : 1 ≤ c) : ∃ t, madeRates ps z s bar c = ⟨1, madeSteps ps z 0 s, bar⟩ :: t := by
  obtain ⟨c, rfl⟩ : ∃ d, c = d + 1 := ⟨c - 1, by omega⟩
  unfold madeRates
  rw [List.range_succ_eq_map, List.map_cons]
  exact ⟨_, rfl⟩
theorem madeSteps_head (ps : List Int) (z k s : Nat) (hs : 1 ≤ s) : ∃ t, madeSteps ps z k s = ⟨20, madeCents ps k 0 z⟩ :: t := by
  obtain ⟨s, rfl⟩ : ∃ d, s = d + 1 := ⟨s - 1, by omega⟩
  unfold madeSteps
  rw [List.range_succ_eq_map, List.map_cons]
  exact ⟨_, rfl⟩
/-- the row for all codes turned into one for codes with 9 in front -/
theorem bad2 {rs : List Rate} {t : List Zone} (h : right rs (⟨⟨#[]⟩, ⟨#[]⟩, 1⟩ :: t) = true) : right rs (⟨⟨#[57]⟩, ⟨#[]⟩, 1⟩ :: t) = false := by
  obtain ⟨_, _, _, _, h5⟩ := right_parts h
  unfold rightRows at h5
  rw [rowsOk_iff] at h5
  have hn := h5.2.1
  rw [List.map_cons, List.nodup_cons] at hn
  refine wrong_all _ _ fun z hz e => ?_
  rcases List.mem_cons.1 hz with rfl | hz
  · unfold pairOf at e
    injection e with e1
    have := congrArg ByteArray.size e1
    simp [ByteArray.size] at this
  · exact hn.1 (List.mem_map.2 ⟨z, hz, e⟩)
theorem bad3 (rs : List Rate) (t : List Zone) (f d : ByteArray) : right rs (⟨f, d, 0⟩ :: t) = false := wrong_zone _ _ ⟨f, d, 0⟩ (by simp) (by simp)
theorem bad4 (cls : Int) (s : Step) (ss : List Step) (bar : Int) (t : List Rate) (zs : List Zone) : right (⟨cls, s :: ss ++ [s], bar⟩ :: t) zs = false :=
  wrong_steps _ _ ⟨cls, s :: ss ++ [s], bar⟩ (by simp) (steps_twice _ _ _ (by simp))
theorem bad5 (cls g : Int) (cs : List Int) (ss : List Step) (bar : Int) (t : List Rate) (zs : List Zone) (hl : cs.length ≤ 3) : right (⟨cls, ⟨g, cs ++ [300]⟩ :: ss ++ [⟨999, [1, 2, 3, 4, 5]⟩], bar⟩ :: t) zs = false := by
  refine wrong_steps _ _ ⟨cls, ⟨g, cs ++ [300]⟩ :: ss ++ [⟨999, [1, 2, 3, 4, 5]⟩], bar⟩ (by simp) (steps_other _ ⟨999, [1, 2, 3, 4, 5]⟩ (by simp) ?_)
  have : countZones (⟨cls, ⟨g, cs ++ [300]⟩ :: ss ++ [⟨999, [1, 2, 3, 4, 5]⟩], bar⟩ :: t) = cs.length + 1 := by simp [countZones]
  rw [this]
  simp
  omega
/-- what TariffWrong needs of the tariff and of the mailing that are made -/
structure WrongFacts (rs : List Rate) (zs : List Zone) (pcs : List Piece) : Prop where
  rt : right rs zs = true
  ml : mailing ⟨1, 1, ⟨#[49, 48, 48, 50, 51]⟩, pcs⟩ = true
  rl : 1 ≤ rs.length ∧ rs.length ≤ 3
  zl : 1 ≤ zs.length ∧ zs.length ≤ 10
  pl : 1 ≤ pcs.length ∧ pcs.length ≤ 2000
  small : ∀ r ∈ rs, 0 < r.steps.length ∧ r.steps.length ≤ 3 ∧ ∀ s ∈ r.steps, 0 < s.cents.length ∧ s.cents.length ≤ 3
  zhead : ∃ t, zs = ⟨⟨#[]⟩, ⟨#[]⟩, 1⟩ :: t
  post : ∀ plan : List Int, plan.length = pcs.length → (∀ x ∈ plan, x = 0) → ∃ xs, postRes rs zs [LD 269] ⟨1, 1, ⟨#[49, 48, 48, 50, 51]⟩, pcs⟩ plan = (xs, 0)
  no : fits rs zs [LD 556] = false
theorem wrongFacts {ps l : List Int} (hps : ∀ x ∈ ps, 0 ≤ x ∧ x ≤ 255) (hl : ∀ x ∈ l, 0 ≤ x ∧ x ≤ 65535) (m z s : Nat) (bar : Nat) (c : Nat) (hz : 1 ≤ z) (hz3 : z ≤ 3) (hs : 1 ≤ s) (hs3 : s ≤ 3) (hc : 1 ≤ c) (hc3 : c ≤ 3) (hb2 : bar ≤ 31) :
    WrongFacts (madeRates ps z s bar c) (madeRows m z 9) (mailPieces 0 ((7 :: l).take 2000)) := by
  have hx : ∀ x ∈ (7 :: l), 0 ≤ x ∧ x ≤ 65535 := fun x hx => by
    rcases List.mem_cons.1 hx with rfl | hx
    · omega
    · exact hl x hx
  have hml : mailing ⟨1, 1, ⟨#[49, 48, 48, 50, 51]⟩, mailPieces 0 ((7 :: l).take 2000)⟩ = true := mailing_mail 0 (7 :: l) hx
  have hg : ∀ p ∈ mailPieces 0 ((7 :: l).take 2000), p.grams ≤ 20 := fun p hp => (mail_grams _ 0 (fun x h => hx x (List.mem_of_mem_take h)) p hp).2.1
  have hlen : 1 ≤ (mailPieces 0 ((7 :: l).take 2000)).length ∧ (mailPieces 0 ((7 :: l).take 2000)).length ≤ 2000 := by rw [mailPieces_len, List.length_take]; simp; omega
  have hrows := madeRows_len m z 9
  refine ⟨right_made hps m z s bar c hz hz3 hs hs3 hc hc3 (by omega) (by omega), hml, by rw [madeRates_len]; omega, by omega, hlen, fun r hr => ?_, madeRows_head m z 9, fun plan h1 h2 => ?_, fits_no hps m z s bar c hz hs hc (by omega)⟩
  · obtain ⟨k, _, rfl⟩ := List.mem_map.1 hr
    refine ⟨by simp only [madeSteps_len]; omega, by simp only [madeSteps_len]; omega, fun q hq => ?_⟩
    obtain ⟨j, _, rfl⟩ := List.mem_map.1 hq
    simp only [madeCents_len]
    omega
  · exact ⟨_, post_made hps m z s bar c hz hz3 hs hs3 hc3 (by omega) (by omega) 0 (by omega) 1 _ _ hml hg (schemeRight_one 269 (by omega) (by omega)) (fun l hl => by rw [List.mem_singleton.1 hl]; exact Int.le_refl _) h1 fun x hx => by rw [h2 x hx]; simp⟩
section
variable {rs : List Rate} {zs : List Zone} {pcs : List Piece}
theorem WrongFacts.bad0 (_ : WrongFacts rs zs pcs) {r : Rate} (hr : r ∈ rs) : right (rs ++ [r]) zs = false := wrong_rate rs zs r hr
theorem WrongFacts.bad1 (_ : WrongFacts rs zs pcs) {z : Zone} (hz : z ∈ zs) : right rs (zs ++ [z]) = false := wrong_row rs zs z hz
theorem WrongFacts.pieces (h : WrongFacts rs zs pcs) : ∃ p t, pcs = p :: t := by
  have := h.pl
  cases pcs with
  | nil => simp at this
  | cons p t => exact ⟨p, t, rfl⟩
end
end Go.Proofs.Ythbnbfeolfkkaaa
