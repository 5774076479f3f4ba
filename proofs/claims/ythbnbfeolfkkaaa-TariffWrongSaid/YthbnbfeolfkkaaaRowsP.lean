/- TariffRows in plain Lean: a row with both codes in full decides their zone, and no other. -/
import Derived.Test.YthbnbfeolfkkaaaMadeP
import Derived.Test.YthbnbfeolfkkaaaLaws
namespace Go.Proofs.Ythbnbfeolfkkaaa

/-- the code of a number -/
def codeOf (x : Int) : ByteArray := ⟨#[UInt8.ofNat (49 + x % 3).toNat, UInt8.ofNat (48 + x / 3 % 3).toNat, UInt8.ofNat (48 + x / 9 % 3).toNat, UInt8.ofNat (48 + x / 27 % 3).toNat, UInt8.ofNat (48 + x / 81 % 3).toNat]⟩
theorem codeOf_size (x : Int) : (codeOf x).size = 5 := rfl
theorem isCode_all : ∀ n : Nat, n < 256 → isCode (codeOf (n : Int)) = true ∧ isCode (codeOf (n : Int) ++ ⟨#[55]⟩) = true ∧ isCode (codeOf (n : Int) ++ ⟨#[65]⟩) = true := by decide +kernel
theorem isCode_of {x : Int} (h0 : 0 ≤ x) (h1 : x ≤ 255) : isCode (codeOf x) = true ∧ isCode (codeOf x ++ ⟨#[55]⟩) = true ∧ isCode (codeOf x ++ ⟨#[65]⟩) = true := by
  have := isCode_all x.toNat (by omega)
  rwa [show ((x.toNat : Nat) : Int) = x from by omega] at this
theorem hasPre_self (s : ByteArray) : hasPre s s = true := by rw [hasPre_iff]; exact List.prefix_rfl
theorem hasPre_more (s t : ByteArray) : hasPre (s ++ t) s = true := by
  rw [hasPre_iff]
  simp
theorem hasPre_eq {s p : ByteArray} (hl : s.size = p.size) (h : hasPre s p = true) : s = p := by
  rw [hasPre_iff] at h
  have := h.eq_of_length (by simpa using hl.symm)
  cases s; cases p
  simp at this ⊢
  exact this.symm

theorem madeRows_small (m z : Nat) : ∀ k, k ≤ 9 → ∀ r ∈ madeRows m z k, r.frm.size ≤ 3
  | 0, _, r, hr => by rw [madeRows, List.mem_singleton] at hr; subst hr; decide
  | k + 1, hk, r, hr => by
    rw [madeRows] at hr
    split at hr
    · rcases List.mem_append.1 hr with hr | hr
      · exact madeRows_small m z k (by omega) r hr
      · rw [List.mem_singleton.1 hr]
        have : ∀ k, k < 9 → (pairAt k).1.size ≤ 3 := by decide
        exact this k (by omega)
    · exact madeRows_small m z k (by omega) r hr
theorem fold_small {m z : Nat} (f t : ByteArray) : (zoneFold f t ⟨⟨#[]⟩, ⟨#[]⟩, 0⟩ (madeRows m z 9)).frm.size ≤ 3 := by
  rcases zoneFold_mem f t (madeRows m z 9) ⟨⟨#[]⟩, ⟨#[]⟩, 0⟩ with h | h
  · rw [h]; decide
  · exact madeRows_small m z 9 (Nat.le_refl _) _ h
theorem zoneFold_snoc (f t : ByteArray) (best r : Zone) (rows : List Zone) : zoneFold f t best (rows ++ [r]) = zoneStep f t (zoneFold f t best rows) r := by
  simp [zoneFold]
/-- a row whose first code is longer than those of all others decides what it fits -/
theorem zoneOf_hit {m z : Nat} {r : Zone} {f t : ByteArray} (hs : r.frm.size = 5) (h1 : hasPre f r.frm = true) (h2 : hasPre t r.dst = true) : zoneOf (madeRows m z 9 ++ [r]) f t = r.zone := by
  unfold zoneOf
  rw [zoneFold_snoc, zoneStep, if_pos (by rw [h1, h2]; rfl), if_pos (by have := fold_small (m := m) (z := z) f t; unfold better; omega)]
theorem zoneOf_miss {m z : Nat} {r : Zone} {f t : ByteArray} (h : ¬ (hasPre f r.frm && hasPre t r.dst) = true) : zoneOf (madeRows m z 9 ++ [r]) f t = zoneOf (madeRows m z 9) f t := by
  unfold zoneOf
  rw [zoneFold_snoc, zoneStep, if_neg h]

theorem memB_true {α : Type} [DecidableEq α] {a : α} {l : List α} (h : memB a l = true) : a ∈ l := by
  simp only [memB, List.any_eq_true, decide_eq_true_eq] at h
  obtain ⟨x, hx, rfl⟩ := h
  exact hx
theorem memB_of {α : Type} [DecidableEq α] {a : α} {l : List α} (h : a ∈ l) : memB a l = true := by
  simp only [memB, List.any_eq_true, decide_eq_true_eq]
  exact ⟨a, h, rfl⟩
/-- rows stay right with one more that is right and new -/
theorem rowsOk_snoc {z : Int} {r : Zone} (h1 : isPart r.frm = true) (h2 : isPart r.dst = true) (h3 : 1 ≤ r.zone) (h4 : r.zone ≤ z) : ∀ (rows : List Zone) (met : List (ByteArray × ByteArray)), rowsOk z met rows = true →
    (r.frm, r.dst) ∉ met → (∀ q ∈ rows, (q.frm, q.dst) ≠ (r.frm, r.dst)) → rowsOk z met (rows ++ [r]) = true
  | [], met, h, hm, _ => by
    rw [List.nil_append, rowsOk_yes]
    · rw [rowsOk] at h ⊢
      exact memB_of (List.mem_cons_of_mem _ (memB_true h))
    · unfold rowBad
      rw [h1, h2]
      intro hb
      rcases hb with hb | hb | hb | hb | hb
      · cases hb
      · cases hb
      · omega
      · omega
      · exact hm (memB_true hb)
  | q :: t, met, h, hm, hn => by
    by_cases hb : rowBad z met q
    · rw [rowsOk_no hb] at h; cases h
    · rw [rowsOk_yes hb] at h
      rw [List.cons_append, rowsOk_yes hb]
      refine rowsOk_snoc h1 h2 h3 h4 t _ h ?_ fun p hp => hn p (List.mem_cons_of_mem _ hp)
      intro hm2
      rcases List.mem_cons.1 hm2 with e | e
      · exact hn q (by simp) e.symm
      · exact hm e
/-- the tariff with one row more is right -/
theorem right_more {ps : List Int} (hps : ∀ x ∈ ps, 0 ≤ x ∧ x ≤ 255) (m z s : Nat) (bar : Int) (c : Nat) (hz : 1 ≤ z) (hz3 : z ≤ 3) (hs : 1 ≤ s) (hs3 : s ≤ 3) (hc : 1 ≤ c) (hc3 : c ≤ 3) (hb : 0 ≤ bar) (hb2 : bar ≤ 31)
    {r : Zone} (h5 : r.frm.size = 5) (h1 : isCode r.frm = true) (h2 : isCode r.dst = true) (h3 : 1 ≤ r.zone) (h4 : r.zone ≤ z) : right (madeRates ps z s bar c) (madeRows m z 9 ++ [r]) = true := by
  unfold right
  have hl := madeRows_len m z 9
  have hl2 : (madeRows m z 9 ++ [r]).length = (madeRows m z 9).length + 1 := by simp
  rw [if_pos (by unfold rightMany; rw [madeRates_len, hl2]; omega), countZones_made _ _ _ _ _ hs hc, if_neg (by omega), ratesOk_made hps z s bar c hs hs3 hc hc3 hb hb2, if_pos rfl]
  refine rowsOk_snoc (by simp [isPart, h1]) (by simp [isPart, h2]) h3 h4 _ _ (rightRows_made m z hz hz3) (by simp) fun q hq e => ?_
  have := madeRows_small m z 9 (Nat.le_refl _) q hq
  injection e with e1 e2
  rw [e1] at this
  omega
end Go.Proofs.Ythbnbfeolfkkaaa
