/- TariffOrder in plain Lean: the order of the rates and of the rows does not matter. -/
import Derived.Test.YthbnbfeolfkkaaaFitsP
import Derived.Test.YthbnbfeolfkkaaaRowsP
namespace Go.Proofs.Ythbnbfeolfkkaaa

theorem nodup_map_inj {α β : Type} {f : α → β} : ∀ {l : List α}, (l.map f).Nodup → ∀ a ∈ l, ∀ b ∈ l, f a = f b → a = b
  | [], _, a, ha, _, _, _ => by cases ha
  | x :: t, h, a, ha, b, hb, e => by
    rw [List.map_cons, List.nodup_cons] at h
    rcases List.mem_cons.1 ha with h1 | h1 <;> rcases List.mem_cons.1 hb with h2 | h2
    · rw [h1, h2]
    · exact absurd (List.mem_map.2 ⟨b, h2, by rw [← e, h1]⟩) h.1
    · exact absurd (List.mem_map.2 ⟨a, h1, by rw [e, h2]⟩) h.1
    · exact nodup_map_inj h.2 a h1 b h2 e
theorem ratesOk_iff {z : Int} : ∀ (rs : List Rate) (met : List Int), ratesOk z met rs = true ↔ (∀ r ∈ rs, 1 ≤ r.cls ∧ r.cls ∉ met ∧ rightRate r z = true) ∧ (rs.map (·.cls)).Nodup
  | [], met => by simp [ratesOk]
  | r :: t, met => by
    by_cases hb : rateBad z met r
    · rw [ratesOk_no hb]
      refine ⟨fun h => by (cases h), fun h => ?_⟩
      have := h.1 r (by simp)
      rcases hb with hb | hb | hb
      · omega
      · exact absurd (memB_true hb) this.2.1
      · rw [this.2.2] at hb; cases hb
    · rw [ratesOk_yes hb, ratesOk_iff t]
      constructor
      · rintro ⟨h1, h2⟩
        refine ⟨fun q hq => ?_, ?_⟩
        · rcases List.mem_cons.1 hq with rfl | hq
          · refine ⟨Int.not_lt.1 fun h => hb (.inl h), fun h => hb (.inr (.inl (memB_of h))), ?_⟩
            cases hx : rightRate q z
            · exact absurd (.inr (.inr hx)) hb
            · rfl
          · exact ⟨(h1 q hq).1, fun h => (h1 q hq).2.1 (List.mem_cons_of_mem _ h), (h1 q hq).2.2⟩
        · rw [List.map_cons, List.nodup_cons]
          refine ⟨fun h => ?_, h2⟩
          obtain ⟨q, hq, e⟩ := List.mem_map.1 h
          exact (h1 q hq).2.1 (by rw [show q.cls = r.cls from e]; simp)
      · rintro ⟨h1, h2⟩
        rw [List.map_cons, List.nodup_cons] at h2
        refine ⟨fun q hq => ?_, h2.2⟩
        have hq1 := h1 q (List.mem_cons_of_mem _ hq)
        refine ⟨hq1.1, fun h => ?_, hq1.2.2⟩
        rcases List.mem_cons.1 h with e | e
        · exact h2.1 (List.mem_map.2 ⟨q, hq, e⟩)
        · exact hq1.2.1 e
def pairOf (r : Zone) : ByteArray × ByteArray := (r.frm, r.dst)
theorem rowsOk_iff {z : Int} : ∀ (rows : List Zone) (met : List (ByteArray × ByteArray)), rowsOk z met rows = true ↔
    (∀ r ∈ rows, isPart r.frm = true ∧ isPart r.dst = true ∧ 1 ≤ r.zone ∧ r.zone ≤ z ∧ pairOf r ∉ met) ∧ (rows.map pairOf).Nodup ∧ ((⟨#[]⟩, ⟨#[]⟩) ∈ met ∨ (⟨#[]⟩, ⟨#[]⟩) ∈ rows.map pairOf)
  | [], met => by
    rw [rowsOk]
    refine ⟨fun h => ⟨fun r hr => by (cases hr), by simp, .inl (memB_true h)⟩, fun h => ?_⟩
    rcases h.2.2 with h | h
    · exact memB_of h
    · cases h
  | r :: t, met => by
    by_cases hb : rowBad z met r
    · rw [rowsOk_no hb]
      refine ⟨fun h => by (cases h), fun h => ?_⟩
      have hr := h.1 r (by simp)
      rcases hb with hb | hb | hb | hb | hb
      · rw [hr.1] at hb; cases hb
      · rw [hr.2.1] at hb; cases hb
      · omega
      · omega
      · exact absurd (memB_true hb) hr.2.2.2.2
    · rw [rowsOk_yes hb, rowsOk_iff t]
      constructor
      · rintro ⟨h1, h2, h3⟩
        refine ⟨fun q hq => ?_, ?_, ?_⟩
        · rcases List.mem_cons.1 hq with rfl | hq
          · refine ⟨?_, ?_, Int.not_lt.1 fun h => hb (.inr (.inr (.inl h))), Int.not_lt.1 fun h => hb (.inr (.inr (.inr (.inl h)))), fun h => hb (.inr (.inr (.inr (.inr (memB_of h)))))⟩
            · cases hx : isPart q.frm
              · exact absurd (.inl hx) hb
              · rfl
            · cases hx : isPart q.dst
              · exact absurd (.inr (.inl hx)) hb
              · rfl
          · have := h1 q hq
            exact ⟨this.1, this.2.1, this.2.2.1, this.2.2.2.1, fun h => this.2.2.2.2 (List.mem_cons_of_mem _ h)⟩
        · rw [List.map_cons, List.nodup_cons]
          refine ⟨fun h => ?_, h2⟩
          obtain ⟨q, hq, e⟩ := List.mem_map.1 h
          exact (h1 q hq).2.2.2.2 (by rw [e]; exact List.mem_cons_self)
        · rcases h3 with h3 | h3
          · rcases List.mem_cons.1 h3 with e | e
            · exact .inr (by rw [List.map_cons, e]; exact List.mem_cons_self)
            · exact .inl e
          · exact .inr (by rw [List.map_cons]; exact List.mem_cons_of_mem _ h3)
      · rintro ⟨h1, h2, h3⟩
        rw [List.map_cons, List.nodup_cons] at h2
        refine ⟨fun q hq => ?_, h2.2, ?_⟩
        · have hq1 := h1 q (List.mem_cons_of_mem _ hq)
          refine ⟨hq1.1, hq1.2.1, hq1.2.2.1, hq1.2.2.2.1, fun h => ?_⟩
          rcases List.mem_cons.1 h with e | e
          · exact h2.1 (List.mem_map.2 ⟨q, hq, e⟩)
          · exact hq1.2.2.2.2 e
        · rcases h3 with h3 | h3
          · exact .inl (List.mem_cons_of_mem _ h3)
          · rw [List.map_cons] at h3
            rcases List.mem_cons.1 h3 with e | e
            · exact .inl (by rw [e]; exact List.mem_cons_self)
            · exact .inr e
theorem ratesOk_perm {z : Int} {rs rs' : List Rate} (hp : rs'.Perm rs) (h : ratesOk z [] rs = true) : ratesOk z [] rs' = true := by
  rw [ratesOk_iff] at h ⊢
  exact ⟨fun r hr => h.1 r (hp.mem_iff.1 hr), (hp.map _).nodup_iff.2 h.2⟩
theorem rightRows_perm {z : Int} {zs zs' : List Zone} (hp : zs'.Perm zs) (h : rightRows zs z = true) : rightRows zs' z = true := by
  unfold rightRows at h ⊢
  rw [rowsOk_iff] at h ⊢
  exact ⟨fun r hr => h.1 r (hp.mem_iff.1 hr), (hp.map _).nodup_iff.2 h.2.1, h.2.2.imp_right (hp.map _).mem_iff.2⟩
theorem right_perm {rs rs' : List Rate} {zs zs' : List Zone} (hr : rs'.Perm rs) (hz : zs'.Perm zs) (hc : countZones rs' = countZones rs) (h : right rs zs = true) : right rs' zs' = true := by
  obtain ⟨h1, h2, h3, h4, h5⟩ := right_parts h
  unfold right
  rw [if_pos (by unfold rightMany at h1 ⊢; rw [hr.length_eq, hz.length_eq]; exact h1), hc, if_neg (by omega), if_pos (ratesOk_perm hr h4)]
  exact rightRows_perm hz h5
theorem rateOf_of_mem {c : Int} {r : Rate} : ∀ {rs : List Rate}, (rs.map (·.cls)).Nodup → r ∈ rs → r.cls = c → rateOf c rs = some r
  | [], _, h, _ => by cases h
  | q :: t, hn, h, e => by
    rw [List.map_cons, List.nodup_cons] at hn
    rw [rateOf_cons]
    rcases List.mem_cons.1 h with rfl | h
    · rw [if_pos e]
    · rw [if_neg (fun e2 => hn.1 (List.mem_map.2 ⟨r, h, by rw [e, e2]⟩))]
      exact rateOf_of_mem hn.2 h e
theorem rateOf_perm {rs rs' : List Rate} (hp : rs'.Perm rs) (hn : (rs.map (·.cls)).Nodup) (c : Int) : rateOf c rs' = rateOf c rs := by
  cases h : rateOf c rs with
  | some r =>
    obtain ⟨h1, h2⟩ := rateOf_mem h
    exact rateOf_of_mem ((hp.map _).nodup_iff.2 hn) (hp.mem_iff.2 h1) h2
  | none =>
    cases h' : rateOf c rs' with
    | none => rfl
    | some r =>
      obtain ⟨h1, h2⟩ := rateOf_mem h'
      rw [rateOf_of_mem hn (hp.mem_iff.1 h1) h2] at h
      cases h

def ltZ (b r : Zone) : Prop := b.frm.size < r.frm.size ∨ (r.frm.size = b.frm.size ∧ b.dst.size < r.dst.size)
theorem zoneFold_max (f t : ByteArray) : ∀ (rows : List Zone) (best : Zone), (∀ r ∈ rows, r.zone ≠ 0) →
    (zoneFold f t best rows = best ∨ (zoneFold f t best rows ∈ rows ∧ (hasPre f (zoneFold f t best rows).frm && hasPre t (zoneFold f t best rows).dst) = true)) ∧
    (best.zone ≠ 0 → (zoneFold f t best rows).zone ≠ 0 ∧ ¬ ltZ (zoneFold f t best rows) best) ∧ ∀ r ∈ rows, (hasPre f r.frm && hasPre t r.dst) = true → (zoneFold f t best rows).zone ≠ 0 ∧ ¬ ltZ (zoneFold f t best rows) r
  | [], best, _ => ⟨.inl rfl, fun h => ⟨h, by show ¬ ltZ best best; unfold ltZ; omega⟩, fun r hr => by cases hr⟩
  | r :: rows, best, hz => by
    have hr0 := hz r (by simp)
    have hz' : ∀ q ∈ rows, q.zone ≠ 0 := fun q hq => hz q (List.mem_cons_of_mem _ hq)
    rw [zoneFold_cons, zoneStep]
    by_cases hf : (hasPre f r.frm && hasPre t r.dst) = true
    · rw [if_pos hf]
      by_cases hbt : better best r
      · rw [if_pos hbt]
        obtain ⟨h1, h2, h3⟩ := zoneFold_max f t rows r hz'
        generalize zoneFold f t r rows = b at *
        have h2' := h2 hr0
        refine ⟨.inr ?_, fun hb => ⟨h2'.1, ?_⟩, fun q hq hqf => ?_⟩
        · rcases h1 with h1 | h1
          · rw [h1]; exact ⟨List.mem_cons_self, hf⟩
          · exact ⟨List.mem_cons_of_mem _ h1.1, h1.2⟩
        · have h2b := h2'.2
          unfold ltZ at h2b ⊢
          unfold better at hbt
          omega
        · rcases List.mem_cons.1 hq with rfl | hq
          · exact h2'
          · exact h3 q hq hqf
      · rw [if_neg hbt]
        obtain ⟨h1, h2, h3⟩ := zoneFold_max f t rows best hz'
        generalize zoneFold f t best rows = b at *
        refine ⟨h1.imp_right fun h => ⟨List.mem_cons_of_mem _ h.1, h.2⟩, h2, fun q hq hqf => ?_⟩
        rcases List.mem_cons.1 hq with rfl | hq
        · have hb0 : best.zone ≠ 0 := fun e => hbt (.inl e)
          have h2' := h2 hb0
          refine ⟨h2'.1, ?_⟩
          have h2b := h2'.2
          unfold ltZ at h2b ⊢
          unfold better at hbt
          omega
        · exact h3 q hq hqf
    · rw [if_neg hf]
      obtain ⟨h1, h2, h3⟩ := zoneFold_max f t rows best hz'
      refine ⟨h1.imp_right fun h => ⟨List.mem_cons_of_mem _ h.1, h.2⟩, h2, fun q hq hqf => ?_⟩
      rcases List.mem_cons.1 hq with rfl | hq
      · exact absurd hqf hf
      · exact h3 q hq hqf
theorem pre_same {s p q : ByteArray} (h1 : hasPre s p = true) (h2 : hasPre s q = true) (hl : p.size = q.size) : p = q := by
  rw [hasPre_iff] at h1 h2
  have h := (List.prefix_of_prefix_length_le h1 h2 (by simpa using Nat.le_of_eq hl)).eq_of_length (by simpa using hl)
  cases p; cases q
  simp at h ⊢
  exact h
/-- the zone does not go by the order of the rows -/
theorem zoneOf_perm {rows rows' : List Zone} (hp : rows'.Perm rows) (hz : ∀ r ∈ rows, r.zone ≠ 0) (hn : (rows.map pairOf).Nodup) (f t : ByteArray) : zoneOf rows' f t = zoneOf rows f t := by
  unfold zoneOf
  obtain ⟨a1, _, a3⟩ := zoneFold_max f t rows ⟨⟨#[]⟩, ⟨#[]⟩, 0⟩ hz
  obtain ⟨b1, _, b3⟩ := zoneFold_max f t rows' ⟨⟨#[]⟩, ⟨#[]⟩, 0⟩ (fun r hr => hz r (hp.mem_iff.1 hr))
  generalize zoneFold f t ⟨⟨#[]⟩, ⟨#[]⟩, 0⟩ rows = a at *
  generalize zoneFold f t ⟨⟨#[]⟩, ⟨#[]⟩, 0⟩ rows' = b at *
  rcases a1 with a1 | ⟨a1, a2⟩ <;> rcases b1 with b1 | ⟨b1, b2⟩
  · rw [a1, b1]
  · exact absurd (by rw [a1]) (a3 b (hp.mem_iff.1 b1) b2).1
  · exact absurd (by rw [b1]) (b3 a (hp.mem_iff.2 a1) a2).1
  · have l1 := (a3 b (hp.mem_iff.1 b1) b2).2
    have l2 := (b3 a (hp.mem_iff.2 a1) a2).2
    unfold ltZ at l1 l2
    simp only [Bool.and_eq_true] at a2 b2
    have e1 := pre_same a2.1 b2.1 (by omega)
    have e2 := pre_same a2.2 b2.2 (by omega)
    rw [nodup_map_inj hn b (hp.mem_iff.1 b1) a a1 (by unfold pairOf; rw [e1, e2])]
theorem basesAcc_zones {ss : List Step} {zs zs' : List Zone} {o : ByteArray} (h : ∀ f t, zoneOf zs' f t = zoneOf zs f t) : ∀ (ps : List Piece) (acc : List Int), basesAcc ss zs' o acc ps = basesAcc ss zs o acc ps
  | [], _ => rfl
  | p :: t, acc => by simp only [basesAcc, h, basesAcc_zones h t]
/-- the bases do not go by the order of the rates, or of the rows -/
theorem bases_perm {rs rs' : List Rate} {zs zs' : List Zone} (hr : rs'.Perm rs) (hz : zs'.Perm zs) (hc : countZones rs' = countZones rs) (h : right rs zs = true) (m : Mailing) : basesRes rs' zs' m = basesRes rs zs m := by
  unfold basesRes
  rw [right_perm hr hz hc h, h]
  obtain ⟨_, _, _, h4, h5⟩ := right_parts h
  rw [ratesOk_iff] at h4
  unfold rightRows at h5
  rw [rowsOk_iff] at h5
  have hzo := zoneOf_perm hz (fun r hr e => by have := (h5.1 r hr).2.2.1; omega) h5.2.1
  unfold basesBy
  rw [rateOf_perm hr h4.2]
  simp only [basesAcc_zones hzo]
theorem countZones_rev (ps : List Int) (z s : Nat) (bar : Int) (c : Nat) (hs : 1 ≤ s) (hc : 1 ≤ c) : countZones (madeRates ps z s bar c).reverse = countZones (madeRates ps z s bar c) := by
  rw [countZones_made ps z s bar c hs hc]
  obtain ⟨c, rfl⟩ : ∃ d, c = d + 1 := ⟨c - 1, by omega⟩
  obtain ⟨s, rfl⟩ : ∃ d, s = d + 1 := ⟨s - 1, by omega⟩
  rw [madeRates_snoc, List.reverse_append]
  simp [List.range_succ_eq_map, countZones, madeSteps, madeCents]
theorem rateOf_none_made (ps : List Int) (z s : Nat) (bar : Int) (c : Nat) {k : Int} (hk : (c : Int) < k) : rateOf k (madeRates ps z s bar c) = none := by
  cases h : rateOf k (madeRates ps z s bar c) with
  | none => rfl
  | some r =>
    obtain ⟨h1, h2⟩ := rateOf_mem h
    obtain ⟨j, hj, rfl⟩ := List.mem_map.1 h1
    simp only [List.mem_range] at hj
    simp only at h2
    omega
/-- the rows, from k on, then those ahead of k; turned around or not -/
def turned (k : Nat) (rev : Bool) (zs : List Zone) : List Zone := if rev then (zs.drop k ++ zs.take k).reverse else zs.drop k ++ zs.take k
theorem turned_perm (k : Nat) (rev : Bool) (zs : List Zone) : (turned k rev zs).Perm zs := by
  have h : (zs.drop k ++ zs.take k).Perm zs := List.perm_append_comm.trans (by rw [List.take_append_drop])
  unfold turned
  split
  · exact (List.reverse_perm _).trans h
  · exact h
end Go.Proofs.Ythbnbfeolfkkaaa
