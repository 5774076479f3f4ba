/- A tariff that came in, as the walks want it: from what the row reads to InRates and IsZones. -/
import Derived.Test.YthbnbfeolfkkaaaL26
import Derived.Deep.Slices
import Derived.OpenShut
import Derived.SizedLaws
namespace Go.Proofs.Ythbnbfeolfkkaaa
open Go.ChangeShapes Go.WideShapes Go.RowKit Go.Deep

theorem kc3 : Try.prog.cellsOf 3 = 1 := by kernel_rfl
theorem kc5 : Try.prog.cellsOf 5 = 1 := by kernel_rfl
theorem kc9 : Try.prog.cellsOf 9 = 1 := by kernel_rfl
theorem kc22 : Try.prog.cellsOf 22 = 1 := by kernel_rfl
theorem kc23 : Try.prog.cellsOf 23 = 1 := by kernel_rfl
theorem kc38 : Try.prog.cellsOf 38 = 1 := by kernel_rfl
theorem kc55 : Try.prog.cellsOf 55 = 1 := by kernel_rfl
theorem kc61 : Try.prog.cellsOf 61 = 2 := by kernel_rfl
theorem kc57 : Try.prog.cellsOf 57 = 3 := by kernel_rfl
theorem kc67 : Try.prog.cellsOf 67 = 3 := by kernel_rfl
theorem kc25 : Try.prog.cellsOf 25 = 2 := by kernel_rfl
theorem kb3 : Try.prog.bytesOf 3 = 8 := by kernel_rfl
theorem weightsAll_mem {H : Type} {P : Program} {e : TypeId} : ∀ {l : List (DataW H)} {d : DataW H}, d ∈ l → ∀ m ∈ d.weights P e, m ∈ DataW.weightsAll P e l
  | x :: l, d, h, m, hm => by
    simp only [DataW.weightsAll, List.mem_append]
    rcases List.mem_cons.1 h with rfl | h
    · exact .inl hm
    · exact .inr (weightsAll_mem h m hm)
theorem nilOk_none : NilOk (.slice none 0 0) := fun _ _ e => (Value.slice.inj e).2.2.symm
theorem nilOk_some {a : Addr} {n c : Nat} : NilOk (.slice (some a) n c) := fun _ _ e => nomatch (Value.slice.inj e).1
theorem len_two {α : Type} : ∀ {l : List α}, l.length = 2 → ∃ a b, l = [a, b]
  | [a, b], _ => ⟨a, b, rfl⟩
theorem len_three {α : Type} : ∀ {l : List α}, l.length = 3 → ∃ a b c, l = [a, b, c]
  | [a, b, c], _ => ⟨a, b, c, rfl⟩
section
variable {H : Type} {enc : TypeId × Value → H} {w : World} {base : Nat} {spare : Nat → Bool} {held : Bool}
theorem trod_two {t : TypeId} {f0 f1 : Field} {fuel : Nat} {cs : List Value} {x : DataW H × List MemPlace} (ht : Try.prog.underlying t = some (.struct #[f0, f1])) (o0 : f0.offset = 0) (o1 : f1.offset = 1)
    (c0 : Try.prog.cellsOf f0.type = 1) (c1 : Try.prog.cellsOf f1.type = 1) (hc : Try.prog.cellsOf t = 2) (h : DataW.trod enc Try.prog w base spare held fuel t cs = some x) :
    ∃ v0 v1 y0 y1 n, cs = [v0, v1] ∧ x.1 = .agg [y0.1, y1.1] ∧ DataW.trod enc Try.prog w base spare held n f0.type [v0] = some y0 ∧ DataW.trod enc Try.prog w base spare held n f1.type [v1] = some y1 := by
  obtain ⟨xs, n, _, hx, hl, hxl, hf⟩ := DataW.trod_struct ht h
  rw [hc] at hl
  obtain ⟨v0, v1, rfl⟩ := len_two hl
  obtain ⟨y0, y1, rfl⟩ := len_two (show xs.length = 2 from hxl)
  have h0 := hf 0 f0 rfl
  have h1 := hf 1 f1 rfl
  rw [o0, c0] at h0
  rw [o1, c1] at h1
  exact ⟨v0, v1, y0, y1, n, rfl, by rw [hx]; rfl, h0, h1⟩
theorem trod_three {t : TypeId} {f0 f1 f2 : Field} {fuel : Nat} {cs : List Value} {x : DataW H × List MemPlace} (ht : Try.prog.underlying t = some (.struct #[f0, f1, f2])) (o0 : f0.offset = 0) (o1 : f1.offset = 1) (o2 : f2.offset = 2)
    (c0 : Try.prog.cellsOf f0.type = 1) (c1 : Try.prog.cellsOf f1.type = 1) (c2 : Try.prog.cellsOf f2.type = 1) (hc : Try.prog.cellsOf t = 3) (h : DataW.trod enc Try.prog w base spare held fuel t cs = some x) :
    ∃ v0 v1 v2 y0 y1 y2 n, cs = [v0, v1, v2] ∧ x.1 = .agg [y0.1, y1.1, y2.1] ∧ DataW.trod enc Try.prog w base spare held n f0.type [v0] = some y0 ∧ DataW.trod enc Try.prog w base spare held n f1.type [v1] = some y1 ∧ DataW.trod enc Try.prog w base spare held n f2.type [v2] = some y2 := by
  obtain ⟨xs, n, _, hx, hl, hxl, hf⟩ := DataW.trod_struct ht h
  rw [hc] at hl
  obtain ⟨v0, v1, v2, rfl⟩ := len_three hl
  obtain ⟨y0, y1, y2, rfl⟩ := len_three (show xs.length = 3 from hxl)
  have h0 := hf 0 f0 rfl
  have h1 := hf 1 f1 rfl
  have h2 := hf 2 f2 rfl
  rw [o0, c0] at h0
  rw [o1, c1] at h1
  rw [o2, c2] at h2
  exact ⟨v0, v1, v2, y0, y1, y2, n, rfl, by rw [hx]; rfl, h0, h1, h2⟩
theorem pick_list {α : Type} (zero : α) (n : Nat) (Q : Nat → α → Prop) (h : ∀ i, i < n → ∃ a, Q i a) : ∃ l : List α, l.length = n ∧ ∀ i, i < n → Q i (l.getD i zero) := by
  refine ⟨(List.range n).map fun i => if hi : i < n then Classical.choose (h i hi) else zero, by simp, fun i hi => ?_⟩
  rw [List.getD_eq_getElem?_getD, List.getElem?_map, List.getElem?_range hi]
  simp only [Option.map_some, Option.getD_some, dif_pos hi]
  exact Classical.choose_spec (h i hi)
/-- a slice that came in: what each of its elements is, and what it weighs -/
theorem read_rows (R : Nat) {α : Type} {t e : TypeId} {k : Nat} (zero : α) (Q : Nat → Nat → α → Prop) (ht : Try.prog.underlying t = some (.slice e)) (hc : Try.prog.cellsOf e = k) (hk : 0 < k)
    (hel : ∀ (b o n : Nat) (cs : List Value) (d : DataW H × List MemPlace), (∀ j, j < k → w.cell? ⟨b, o + j, none⟩ = cs[j]?) → DataW.trod enc Try.prog w base spare held n e cs = some d → (∀ m ∈ d.1.weights Try.prog e, m ≤ R) → ∃ a, Q b o a)
    {fuel : Nat} {v : Value} {x : DataW H × List MemPlace} (h : DataW.trod enc Try.prog w base spare held fuel t [v] = some x) (hw : ∀ m ∈ x.1.weights Try.prog t, m ≤ R) :
    ∃ l : List α, Sl w v l.length (fun b off i => Q b (off + i * k) (l.getD i zero)) ∧ NilOk v ∧ l.length * Try.prog.bytesOf e ≤ R := by
  rcases open_slice ht h with ⟨hv, _⟩ | ⟨a, len, cap, m, n, D, Pl, hv, _, hl, hm, hmm, hx, hi⟩
  · obtain rfl : v = .slice none 0 0 := by simpa using hv
    exact ⟨[], ⟨none, 0, rfl, Nat.le_refl _, Nat.zero_le _, fun h => absurd h (by simp)⟩, nilOk_none, (by rw [List.length_nil, Nat.zero_mul]; exact Nat.zero_le _)⟩
  · obtain rfl : v = .slice (some a) len cap := by simpa using hv
    have hlm : len ≤ m := by rw [hmm]; split <;> omega
    have hwl : len * Try.prog.bytesOf e ≤ R := by
      have := hw ((len + (m - len)) * Try.prog.bytesOf e) (by rw [hx]; simp [DataW.weights, ht])
      refine Nat.le_trans ?_ this
      exact Nat.mul_le_mul_right _ (by omega)
    have hwi : ∀ i, i < len → ∀ q ∈ (D i).weights Try.prog e, q ≤ R := fun i hil q hq => hw q (by
      rw [hx]
      simp only [DataW.weights, ht, List.mem_cons, List.mem_append]
      exact .inr (.inl (weightsAll_mem (List.mem_map.2 ⟨i, List.mem_range.2 hil, rfl⟩) q hq)))
    rcases Nat.eq_zero_or_pos len with h0 | h0
    · subst h0
      exact ⟨[], ⟨some a, cap, rfl, Nat.zero_le _, hm, fun h => absurd h (by simp)⟩, nilOk_some, (by rw [List.length_nil, Nat.zero_mul]; exact Nat.zero_le _)⟩
    · obtain ⟨b, off, rfl, hb⟩ : ∃ b off, a = ⟨b, off, none⟩ ∧ b < w.heap.size := by
        obtain ⟨cs', hcs, _⟩ := hi 0 (by omega)
        obtain ⟨_, hcl, hat⟩ := World.cells?_some hcs
        have h1 := hat 0 (by rw [hc]; exact hk)
        have hl0 : 0 < cs'.length := by rw [hcl, hc]; exact hk
        rw [List.getElem?_eq_getElem hl0] at h1
        have h2 : w.cell? a = some cs'[0] := by simpa [Addr.add] using h1
        obtain ⟨b, off, spot⟩ := a
        have hspot : spot = none := by simpa using World.cell?_spot h2
        subst hspot
        exact ⟨b, off, rfl, World.block_lt_of_cell? w _ h2⟩
      obtain ⟨l, hll, hlq⟩ := pick_list zero len (fun i a => Q b (off + i * k) a) fun i hil => by
        obtain ⟨cs', hcs, ht'⟩ := hi i (by omega)
        obtain ⟨_, hcl, hat⟩ := World.cells?_some hcs
        refine hel b (off + i * k) n cs' (D i, Pl i) (fun j hj => ?_) ht' (hwi i hil)
        have h1 := hat j (by rw [hc]; exact hj)
        rw [hc, Go.WideShapes.add_plain, Go.WideShapes.add_plain] at h1
        exact h1
      refine ⟨l, ⟨some ⟨b, off, none⟩, cap, by rw [hll], by omega, hm, fun _ => ⟨b, off, rfl, hb, fun i hil => hlq i (by omega)⟩⟩, nilOk_some, (by rw [hll]; exact hwl)⟩
theorem read_ints {fuel : Nat} {v : Value} {x : DataW H × List MemPlace} (h : DataW.trod enc Try.prog w base spare held fuel 38 [v] = some x) (hw : ∀ m ∈ x.1.weights Try.prog 38, m ≤ reachBytes) :
    ∃ xs, IsInts w v xs ∧ NilOk v ∧ xs.length * 8 ≤ 140737488351232 := by
  obtain ⟨xs, h1, h2, h3⟩ := read_rows reachBytes (0 : Int) (fun b o x => w.cell? ⟨b, o, none⟩ = some (.int .i64 x)) Try.underlying38 kc3 (by omega) (fun b o n cs d hcell ht _ => by
    obtain ⟨a, rfl, _, _⟩ := DataW.trod_int Try.underlying3 ht
    exact ⟨a, by simpa using hcell 0 (by omega)⟩) h hw
  rw [kb3] at h3
  exact ⟨xs, by simpa [IsInts] using h1, h2, h3⟩
theorem read_steps {fuel : Nat} {v : Value} {x : DataW H × List MemPlace} (h : DataW.trod enc Try.prog w base spare held fuel 55 [v] = some x) (hw : ∀ m ∈ x.1.weights Try.prog 55, m ≤ reachBytes) : ∃ ss, InSteps w v ss := by
  obtain ⟨ss, h1, _, _⟩ := read_rows reachBytes Step.zero (fun b o s => InStep w b o s) Try.underlying55 kc61 (by omega) (fun b o n cs d hcell ht hwd => by
    obtain ⟨v0, v1, y0, y1, n1, rfl, hd, t0, t1⟩ := trod_two Try.underlying61 rfl rfl kc3 kc38 kc61 ht
    obtain ⟨g, e0, _, _⟩ := DataW.trod_int Try.underlying3 t0
    obtain rfl : v0 = .int .i64 g := by simpa using e0
    obtain ⟨xs, hx1, hx2, hx3⟩ := read_ints t1 fun m hm => hwd m (by rw [hd]; simp [DataW.weights, Try.underlying61, DataW.weightsEach]; exact .inr hm)
    exact ⟨⟨g, xs⟩, by simpa using hcell 0 (by omega), v1, by simpa using hcell 1 (by omega), hx1, hx2, hx3⟩) h hw
  exact ⟨ss, h1⟩
theorem read_rates {fuel : Nat} {v : Value} {x : DataW H × List MemPlace} (h : DataW.trod enc Try.prog w base spare held fuel 22 [v] = some x) (hw : ∀ m ∈ x.1.weights Try.prog 22, m ≤ reachBytes) : ∃ rs, InRates w v rs := by
  obtain ⟨rs, h1, _, _⟩ := read_rows reachBytes Rate.zero (fun b o r => InRate w b o r) Try.underlying22 kc57 (by omega) (fun b o n cs d hcell ht hwd => by
    obtain ⟨v0, v1, v2, y0, y1, y2, n1, rfl, hd, t0, t1, t2⟩ := trod_three Try.underlying57 rfl rfl rfl kc5 kc55 kc3 kc57 ht
    obtain ⟨cl, e0, _, hwf⟩ := DataW.trod_int Try.underlying5 t0
    obtain rfl : v0 = .int .u8 cl := by simpa using e0
    obtain ⟨br, e2, _, _⟩ := DataW.trod_int Try.underlying3 t2
    obtain rfl : v2 = .int .i64 br := by simpa using e2
    obtain ⟨ss, hs⟩ := read_steps t1 fun m hm => hwd m (by rw [hd]; simp [DataW.weights, Try.underlying57, DataW.weightsEach]; exact .inr (.inl hm))
    have hb := bounds_u8 hwf
    exact ⟨⟨cl, ss, br⟩, by simpa using hcell 0 (by omega), ⟨v1, by simpa using hcell 1 (by omega), hs⟩, by simpa using hcell 2 (by omega), hb.1, hb.2⟩) h hw
  exact ⟨rs, h1⟩
theorem read_zones {fuel : Nat} {v : Value} {x : DataW H × List MemPlace} (h : DataW.trod enc Try.prog w base spare held fuel 23 [v] = some x) (hw : ∀ m ∈ x.1.weights Try.prog 23, m ≤ reachBytes) : ∃ zs, IsZones w v zs ∧ NilOk v := by
  obtain ⟨zs, h1, h2, _⟩ := read_rows reachBytes Zone.zero (fun b o z => IsZone w b o z) Try.underlying23 kc67 (by omega) (fun b o n cs d hcell ht hwd => by
    obtain ⟨v0, v1, v2, y0, y1, y2, n1, rfl, hd, t0, t1, t2⟩ := trod_three Try.underlying67 rfl rfl rfl kc9 kc9 kc3 kc67 ht
    obtain ⟨s0, e0, _, q0⟩ := DataW.trod_string Try.underlying9 t0
    obtain rfl : v0 = .string s0 := by simpa using e0
    obtain ⟨s1, e1, _, q1⟩ := DataW.trod_string Try.underlying9 t1
    obtain rfl : v1 = .string s1 := by simpa using e1
    obtain ⟨zn, e2, _, _⟩ := DataW.trod_int Try.underlying3 t2
    obtain rfl : v2 = .int .i64 zn := by simpa using e2
    exact ⟨⟨s0, s1, zn⟩, by simpa using hcell 0 (by omega), by simpa using hcell 1 (by omega), by simpa using hcell 2 (by omega), q0, q1⟩) h hw
  exact ⟨zs, h1, h2⟩
/-- a tariff, handed over by value -/
theorem read_tariff {fuel : Nat} {cs : List Value} {x : DataW H × List MemPlace} (h : DataW.trod enc Try.prog w base spare held fuel 25 cs = some x) (hw : ∀ m ∈ x.1.weights Try.prog 25, m ≤ reachBytes) :
    ∃ rv zv rs zs, cs = [rv, zv] ∧ InRates w rv rs ∧ IsZones w zv zs ∧ NilOk zv := by
  obtain ⟨v0, v1, y0, y1, n1, rfl, hd, t0, t1⟩ := trod_two Try.underlying25 rfl rfl kc22 kc23 kc25 h
  obtain ⟨rs, h0⟩ := read_rates t0 fun m hm => hw m (by rw [hd]; simp [DataW.weights, Try.underlying25, DataW.weightsEach]; exact .inl hm)
  obtain ⟨zs, h1, h2⟩ := read_zones t1 fun m hm => hw m (by rw [hd]; simp [DataW.weights, Try.underlying25, DataW.weightsEach]; exact .inr hm)
  exact ⟨v0, v1, rs, zs, rfl, h0, h1, h2⟩
end
end Go.Proofs.Ythbnbfeolfkkaaa
