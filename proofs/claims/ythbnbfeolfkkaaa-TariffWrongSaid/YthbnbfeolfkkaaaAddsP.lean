/- The scheme that law23.Made makes is right, and fits a tariff that Made makes; in plain Lean. -/
import Derived.Test.YthbnbfeolfkkaaaMadeLP
import Derived.Test.YthbnbfeolfkkaaaMailP
import Derived.Test.YthbnbfeolfkkaaaStepsP
import Derived.Test.YthbnbfeolfkkaaaPost
namespace Go.Proofs.Ythbnbfeolfkkaaa

theorem labelsBy_mod (m : Nat) (ps : List (ByteArray × ByteArray)) (c : Nat) : ∀ k, k ≤ c → labelsBy m ps k = labelsBy (m % 2 ^ c) ps k
  | 0, _ => rfl
  | k + 1, h => by
    have e : m % 2 ^ c / 2 ^ k % 2 = m / 2 ^ k % 2 := by
      have h1 : m % 2 ^ c = m % (2 ^ k * 2 ^ (c - k)) := by rw [← Nat.pow_add]; congr 2; omega
      rw [h1, Nat.mod_mul_right_div_self]
      have h2 : 2 ^ (c - k) = 2 * 2 ^ (c - k - 1) := by rw [← Nat.pow_succ']; congr 1; omega
      rw [h2, Nat.mod_mul_right_mod]
    rw [labelsBy, labelsBy, labelsBy_mod m ps c k (by omega), e]
theorem nestGo_congr {l l' next next' : Level} (h1 : l.pre = l'.pre) (h2 : l.labels = l'.labels) (h3 : next.pre = next'.pre) (h4 : next.labels = next'.labels) : ∀ (t : List Label) (M : List (ByteArray × ByteArray)), nestGo l next M t = nestGo l' next' M t
  | [], _ => rfl
  | x :: t, M => by
    have hg : ∀ c, groupOf next c = groupOf next' c := fun c => by unfold groupOf; rw [h3, h4]
    simp only [nestGo, hg, h1, h2, nestGo_congr h1 h2 h3 h4 t]
theorem isNested_congr {l l' next next' : Level} (h1 : l.pre = l'.pre) (h2 : l.labels = l'.labels) (h3 : next.pre = next'.pre) (h4 : next.labels = next'.labels) : isNested l next = isNested l' next' := by
  unfold isNested
  rw [nestGo_congr h1 h2 h3 h4, h2]
def lvA (m : Nat) : Level := ⟨⟨#[]⟩, 5, labelsBy m lab5 5, 0, 0⟩
def lvB (m : Nat) : Level := ⟨⟨#[]⟩, 3, labelsBy m lab3 6, 0, 0⟩
def lvC (m : Nat) : Level := ⟨⟨#[]⟩, 1, labelsBy m lab1 3, 0, 0⟩
def lvD : Level := ⟨⟨#[]⟩, 0, [], 0, 0⟩
theorem nest_ab : ∀ a, a < 32 → ∀ b, b < 64 → isNested (lvA a) (lvB b) = true := by decide +kernel
theorem nest_ac : ∀ a, a < 32 → ∀ c, c < 8 → isNested (lvA a) (lvC c) = true := by decide +kernel
theorem nest_ad : ∀ a, a < 32 → isNested (lvA a) lvD = true := by decide +kernel
theorem nest_bc : ∀ b, b < 64 → ∀ c, c < 8 → isNested (lvB b) (lvC c) = true := by decide +kernel
theorem nest_bd : ∀ b, b < 64 → isNested (lvB b) lvD = true := by decide +kernel
theorem nest_cd : ∀ c, c < 8 → isNested (lvC c) lvD = true := by decide +kernel
theorem ok_a : ∀ a, a < 32 → labelsOk 5 none (labelsBy a lab5 5) = true := by decide +kernel
theorem ok_b : ∀ b, b < 64 → labelsOk 3 none (labelsBy b lab3 6) = true := by decide +kernel
theorem ok_c : ∀ c, c < 8 → labelsOk 1 none (labelsBy c lab1 3) = true := by decide +kernel

def LA (m : Nat) (c : Int) : Level := ⟨⟨#[102, 105, 118, 101]⟩, 5, labelsBy m lab5 5, 1, c⟩
def LB (m : Nat) (c : Int) : Level := ⟨⟨#[116, 104, 114, 101, 101]⟩, 3, labelsBy m lab3 6, 1, c⟩
def LC (m : Nat) (c : Int) : Level := ⟨⟨#[111, 110, 101]⟩, 1, labelsBy m lab1 3, 1, c⟩
def LD (c : Int) : Level := ⟨⟨#[97, 108, 108]⟩, 0, [], 0, c⟩
theorem isLevel_A (m : Nat) (c : Int) (h0 : 0 ≤ c) (h1 : c ≤ 255) : isLevel (LA m c) false = true := by
  have hn : isName ⟨#[102, 105, 118, 101]⟩ = true := by decide +kernel
  unfold isLevel
  rw [if_neg (by unfold levelBad LA; simp only [hn]; rintro (h | h | h | h | h) <;> first | cases h | omega), if_neg (by decide), if_neg (by unfold LA; simp)]
  show labelsOk 5 none (labelsBy m lab5 5) = true
  rw [labelsBy_mod m lab5 5 5 (Nat.le_refl _)]
  exact ok_a _ (Nat.mod_lt _ (by decide))
theorem isLevel_B (m : Nat) (c : Int) (h0 : 0 ≤ c) (h1 : c ≤ 255) : isLevel (LB m c) false = true := by
  have hn : isName ⟨#[116, 104, 114, 101, 101]⟩ = true := by decide +kernel
  unfold isLevel
  rw [if_neg (by unfold levelBad LB; simp only [hn]; rintro (h | h | h | h | h) <;> first | cases h | omega), if_neg (by decide), if_neg (by unfold LB; simp)]
  show labelsOk 3 none (labelsBy m lab3 6) = true
  rw [labelsBy_mod m lab3 6 6 (Nat.le_refl _)]
  exact ok_b _ (Nat.mod_lt _ (by decide))
theorem isLevel_C (m : Nat) (c : Int) (h0 : 0 ≤ c) (h1 : c ≤ 255) : isLevel (LC m c) false = true := by
  have hn : isName ⟨#[111, 110, 101]⟩ = true := by decide +kernel
  unfold isLevel
  rw [if_neg (by unfold levelBad LC; simp only [hn]; rintro (h | h | h | h | h) <;> first | cases h | omega), if_neg (by decide), if_neg (by unfold LC; simp)]
  show labelsOk 1 none (labelsBy m lab1 3) = true
  rw [labelsBy_mod m lab1 3 3 (Nat.le_refl _)]
  exact ok_c _ (Nat.mod_lt _ (by decide))
theorem isLevel_D (c : Int) (h0 : 0 ≤ c) (h1 : c ≤ 255) : isLevel (LD c) true = true := by
  have hn : isName ⟨#[97, 108, 108]⟩ = true := by decide +kernel
  unfold isLevel
  rw [if_neg (by unfold levelBad LD; simp only [hn]; rintro (h | h | h | h | h) <;> first | cases h | omega), if_pos rfl]
  rfl
theorem nest_AB (m k : Nat) (c d : Int) : isNested (LA m c) (LB k d) = true := by
  exact (isNested_congr (l := LA m c) (next := LB k d) (l' := lvA (m % 2 ^ 5)) (next' := lvB (k % 2 ^ 6)) rfl (labelsBy_mod m lab5 5 5 (Nat.le_refl _)) rfl (labelsBy_mod k lab3 6 6 (Nat.le_refl _))).trans (nest_ab _ (Nat.mod_lt _ (by decide)) _ (Nat.mod_lt _ (by decide)))
theorem nest_AC (m k : Nat) (c d : Int) : isNested (LA m c) (LC k d) = true := by
  exact (isNested_congr (l := LA m c) (next := LC k d) (l' := lvA (m % 2 ^ 5)) (next' := lvC (k % 2 ^ 3)) rfl (labelsBy_mod m lab5 5 5 (Nat.le_refl _)) rfl (labelsBy_mod k lab1 3 3 (Nat.le_refl _))).trans (nest_ac _ (Nat.mod_lt _ (by decide)) _ (Nat.mod_lt _ (by decide)))
theorem nest_AD (m : Nat) (c d : Int) : isNested (LA m c) (LD d) = true := by
  exact (isNested_congr (l := LA m c) (next := LD d) (l' := lvA (m % 2 ^ 5)) (next' := lvD) rfl (labelsBy_mod m lab5 5 5 (Nat.le_refl _)) rfl rfl).trans (nest_ad _ (Nat.mod_lt _ (by decide)))
theorem nest_BC (m k : Nat) (c d : Int) : isNested (LB m c) (LC k d) = true := by
  exact (isNested_congr (l := LB m c) (next := LC k d) (l' := lvB (m % 2 ^ 6)) (next' := lvC (k % 2 ^ 3)) rfl (labelsBy_mod m lab3 6 6 (Nat.le_refl _)) rfl (labelsBy_mod k lab1 3 3 (Nat.le_refl _))).trans (nest_bc _ (Nat.mod_lt _ (by decide)) _ (Nat.mod_lt _ (by decide)))
theorem nest_BD (m : Nat) (c d : Int) : isNested (LB m c) (LD d) = true := by
  exact (isNested_congr (l := LB m c) (next := LD d) (l' := lvB (m % 2 ^ 6)) (next' := lvD) rfl (labelsBy_mod m lab3 6 6 (Nat.le_refl _)) rfl rfl).trans (nest_bd _ (Nat.mod_lt _ (by decide)))
theorem nest_CD (m : Nat) (c d : Int) : isNested (LC m c) (LD d) = true := by
  exact (isNested_congr (l := LC m c) (next := LD d) (l' := lvC (m % 2 ^ 3)) (next' := lvD) rfl (labelsBy_mod m lab1 3 3 (Nat.le_refl _)) rfl rfl).trans (nest_cd _ (Nat.mod_lt _ (by decide)))
theorem nmAB : memB (⟨#[116, 104, 114, 101, 101]⟩ : ByteArray) [⟨#[102, 105, 118, 101]⟩] = false := by decide +kernel
theorem nmAC : memB (⟨#[111, 110, 101]⟩ : ByteArray) [⟨#[102, 105, 118, 101]⟩] = false := by decide +kernel
theorem nmBC : memB (⟨#[111, 110, 101]⟩ : ByteArray) [⟨#[116, 104, 114, 101, 101]⟩] = false := by decide +kernel
theorem nmABC : memB (⟨#[111, 110, 101]⟩ : ByteArray) [⟨#[116, 104, 114, 101, 101]⟩, ⟨#[102, 105, 118, 101]⟩] = false := by decide +kernel
theorem nmAD : memB (⟨#[97, 108, 108]⟩ : ByteArray) [⟨#[102, 105, 118, 101]⟩] = false := by decide +kernel
theorem nmBD : memB (⟨#[97, 108, 108]⟩ : ByteArray) [⟨#[116, 104, 114, 101, 101]⟩] = false := by decide +kernel
theorem nmCD : memB (⟨#[97, 108, 108]⟩ : ByteArray) [⟨#[111, 110, 101]⟩] = false := by decide +kernel
theorem nmABD : memB (⟨#[97, 108, 108]⟩ : ByteArray) [⟨#[116, 104, 114, 101, 101]⟩, ⟨#[102, 105, 118, 101]⟩] = false := by decide +kernel
theorem nmACD : memB (⟨#[97, 108, 108]⟩ : ByteArray) [⟨#[111, 110, 101]⟩, ⟨#[102, 105, 118, 101]⟩] = false := by decide +kernel
theorem nmBCD : memB (⟨#[97, 108, 108]⟩ : ByteArray) [⟨#[111, 110, 101]⟩, ⟨#[116, 104, 114, 101, 101]⟩] = false := by decide +kernel
theorem nmABCD : memB (⟨#[97, 108, 108]⟩ : ByteArray) [⟨#[111, 110, 101]⟩, ⟨#[116, 104, 114, 101, 101]⟩, ⟨#[102, 105, 118, 101]⟩] = false := by decide +kernel
/-- one level more, behind others -/
theorem levelsGo_on {n i lab : Nat} {names : List ByteArray} {prev : Option Int} {l : Level} {t : List Level} (h1 : lab + l.labels.length ≤ 200) (h2 : memB l.name names = false) (h3 : isLevel l ((i : Int) == (n : Int) - 1) = true) (h4 : preNo prev l = false)
    (h5 : levelsGo n (i + 1) (lab + l.labels.length) (l.name :: names) (some l.pre) t = true) : levelsGo n i lab names prev (l :: t) = true := by
  rw [levelsGo_yes _ h4]
  · exact h5
  · unfold levelNo
    rw [h2, h3]
    rintro (h | h | h)
    · omega
    · cases h
    · cases h
theorem lenA (m : Nat) (c : Int) : (LA m c).labels.length ≤ 5 := labelsBy_len m lab5 5
theorem lenB (m : Nat) (c : Int) : (LB m c).labels.length ≤ 6 := labelsBy_len m lab3 6
theorem lenC (m : Nat) (c : Int) : (LC m c).labels.length ≤ 3 := labelsBy_len m lab1 3
theorem lenD (c : Int) : (LD c).labels.length = 0 := rfl
theorem cents_bd {cents : List Int} (hc : ∀ x ∈ cents, 0 ≤ x ∧ x ≤ 255) (k : Nat) : 0 ≤ cents.getD k 0 ∧ cents.getD k 0 ≤ 255 := by
  rcases Nat.lt_or_ge k cents.length with h | h
  · rw [List.getD_eq_getElem?_getD, List.getElem?_eq_getElem h]; exact hc _ (List.getElem_mem h)
  · rw [List.getD_eq_getElem?_getD, List.getElem?_eq_none h]; simp
/-- the levels, written out -/
theorem madeLevels_form (n : Nat) (cents : List Int) (hc : ∀ x ∈ cents, 0 ≤ x ∧ x ≤ 255) : ∃ (m5 m3 m1 : Nat) (c0 c1 c2 c3 : Int), (0 ≤ c0 ∧ c0 ≤ 255) ∧ (0 ≤ c1 ∧ c1 ≤ 255) ∧ (0 ≤ c2 ∧ c2 ≤ 255) ∧ (0 ≤ c3 ∧ c3 ≤ 255) ∧
    (madeLevels n cents = [LD c0] ∨ madeLevels n cents = [LA m5 c0, LD c1] ∨ madeLevels n cents = [LB m3 c0, LD c1] ∨ madeLevels n cents = [LC m1 c0, LD c1] ∨ madeLevels n cents = [LA m5 c0, LB m3 c1, LD c2] ∨ madeLevels n cents = [LA m5 c0, LC m1 c1, LD c2] ∨ madeLevels n cents = [LB m3 c0, LC m1 c1, LD c2] ∨ madeLevels n cents = [LA m5 c0, LB m3 c1, LC m1 c2, LD c3]) := by
  refine ⟨n / 8, n / 256, n / 16384, _, _, _, _, cents_bd hc 0, cents_bd hc 1, cents_bd hc 2, cents_bd hc 3, ?_⟩
  unfold madeLevels made1 made3 made5 addL
  by_cases h5 : n % 2 = 1 <;> by_cases h3 : n / 2 % 2 = 1 <;> by_cases h1 : n / 4 % 2 = 1 <;> simp [h5, h3, h1, LA, LB, LC, LD]
theorem schemeRight_made (n : Nat) (cents : List Int) (hc : ∀ x ∈ cents, 0 ≤ x ∧ x ≤ 255) : schemeRight (madeLevels n cents) = true := by
  obtain ⟨m5, m3, m1, c0, c1, c2, c3, h0, h1, h2, h3, h⟩ := madeLevels_form n cents hc
  have a5 := lenA m5 c0
  have b3 := lenB m3 c0
  have b31 := lenB m3 c1
  have c1x := lenC m1 c0
  have c11 := lenC m1 c1
  have c12 := lenC m1 c2
  have end_ : ∀ n i lab names prev, levelsGo n i lab names prev [] = true := fun _ _ _ _ _ => rfl
  rcases h with h | h | h | h | h | h | h | h <;> rw [h] <;> unfold schemeRight <;> rw [if_neg (by simp)]
  · rw [if_pos (levelsGo_on (by rw [lenD]; omega) rfl (isLevel_D _ h0.1 h0.2) rfl (end_ _ _ _ _ _))]; rfl
  · rw [if_pos (levelsGo_on (by omega) rfl (isLevel_A _ _ h0.1 h0.2) rfl (levelsGo_on (by rw [lenD]; omega) nmAD (isLevel_D _ h1.1 h1.2) rfl (end_ _ _ _ _ _)))]; simp [nestAll, nest_AD]
  · rw [if_pos (levelsGo_on (by omega) rfl (isLevel_B _ _ h0.1 h0.2) rfl (levelsGo_on (by rw [lenD]; omega) nmBD (isLevel_D _ h1.1 h1.2) rfl (end_ _ _ _ _ _)))]; simp [nestAll, nest_BD]
  · rw [if_pos (levelsGo_on (by omega) rfl (isLevel_C _ _ h0.1 h0.2) rfl (levelsGo_on (by rw [lenD]; omega) nmCD (isLevel_D _ h1.1 h1.2) rfl (end_ _ _ _ _ _)))]; simp [nestAll, nest_CD]
  · rw [if_pos (levelsGo_on (by omega) rfl (isLevel_A _ _ h0.1 h0.2) rfl (levelsGo_on (by omega) nmAB (isLevel_B _ _ h1.1 h1.2) rfl (levelsGo_on (by rw [lenD]; omega) nmABD (isLevel_D _ h2.1 h2.2) rfl (end_ _ _ _ _ _))))]; simp [nestAll, nest_AB, nest_BD]
  · rw [if_pos (levelsGo_on (by omega) rfl (isLevel_A _ _ h0.1 h0.2) rfl (levelsGo_on (by omega) nmAC (isLevel_C _ _ h1.1 h1.2) rfl (levelsGo_on (by rw [lenD]; omega) nmACD (isLevel_D _ h2.1 h2.2) rfl (end_ _ _ _ _ _))))]; simp [nestAll, nest_AC, nest_CD]
  · rw [if_pos (levelsGo_on (by omega) rfl (isLevel_B _ _ h0.1 h0.2) rfl (levelsGo_on (by omega) nmBC (isLevel_C _ _ h1.1 h1.2) rfl (levelsGo_on (by rw [lenD]; omega) nmBCD (isLevel_D _ h2.1 h2.2) rfl (end_ _ _ _ _ _))))]; simp [nestAll, nest_BC, nest_CD]
  · rw [if_pos (levelsGo_on (by omega) rfl (isLevel_A _ _ h0.1 h0.2) rfl (levelsGo_on (by omega) nmAB (isLevel_B _ _ h1.1 h1.2) rfl (levelsGo_on (by omega) nmABC (isLevel_C _ _ h2.1 h2.2) rfl (levelsGo_on (by rw [lenD]; omega) nmABCD (isLevel_D _ h3.1 h3.2) rfl (end_ _ _ _ _ _)))))]; simp [nestAll, nest_AB, nest_BC, nest_CD]
end Go.Proofs.Ythbnbfeolfkkaaa
