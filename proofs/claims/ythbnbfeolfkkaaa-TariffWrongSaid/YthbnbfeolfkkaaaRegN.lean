/- A region that draws its order: a condition A on the world that holds throughout, and a condition B that is asked only as long as operation z has not come up (an append that may write what others load, and a store behind it). -/
import Derived.OrdersHeld
import Derived.Deep.RegionHeld3
import Derived.Great.BuildSlice
namespace Go.Proofs.Ythbnbfeolfkkaaa
open Go

section
variable {P : Program} {ops : Array Oper} {Q : Exit → Act → World → Prop} {md : Region.Mode} {A B : World → Prop} {z : Nat}
/-- what has come up has all that it waits for behind it -/
def Closed (md : Region.Mode) (ops : Array Oper) (l : Array Bool) : Prop := ∀ j oj, ops[j]? = some oj → l.getD j false = true → ∀ e ∈ oj.after, Region.binds md e = true → l.getD e.on false = true
/-- z comes up behind i -/
def Behind (md : Region.Mode) (ops : Array Oper) (i z : Nat) : Prop := ∀ l, Closed md ops l → l.getD z false = true → l.getD i false = true
/-- j waits for i, said so that the kernel sees it -/
def waits (md : Region.Mode) (ops : Array Oper) (j i : Nat) : Bool := ((ops[j]?).map fun o => o.after.any fun e => Region.binds md e && e.on == i).getD false
theorem Behind.refl (z : Nat) : Behind md ops z z := fun _ _ h => h
theorem Behind.step {i j : Nat} (h : Behind md ops j z) (hw : waits md ops j i = true) : Behind md ops i z := fun l hc hz => by
  have hj := h l hc hz
  unfold waits at hw
  cases ho : ops[j]? with
  | none => simp [ho] at hw
  | some o =>
    simp only [ho, Option.map_some, Option.getD_some] at hw
    obtain ⟨e, he, h2⟩ := Array.any_eq_true'.1 hw
    simp only [Bool.and_eq_true, beq_iff_eq] at h2
    have := hc j o ho hj e he h2.1
    rwa [h2.2] at this
theorem Closed.start (n : Nat) : Closed md ops (Array.replicate n false) := fun j _ _ h => by
  rcases Nat.lt_or_ge j n with hlt | hge
  · simp [hlt] at h
  · simp [Nat.not_lt.2 hge] at h
theorem getD_false_of {l : Array Bool} {i : Nat} (h : l.getD i true = false) : l.getD i false = false ∧ i < l.size := by
  rcases Nat.lt_or_ge i l.size with hlt | hge
  · simp [hlt] at h
    exact ⟨by simp [hlt, h], hlt⟩
  · simp [Array.getElem?_eq_none hge] at h
theorem Closed.set {l : Array Bool} {i : Nat} (hc : Closed md ops l) (hi : i ∈ Region.ready md ops l) : Closed md ops (l.setIfInBounds i true) := by
  obtain ⟨_, oi, hoi, hall⟩ := mem_ready.1 hi
  intro j oj hj hl e he hb
  by_cases hij : i = j
  · subst hij
    obtain rfl : oj = oi := by rw [hj] at hoi; injection hoi
    exact getD_set_true (hall e he hb)
  · rw [getD_set_ne false hij] at hl
    exact getD_set_true (hc j oj hj hl e he hb)
/-- whatever order is picked from here on; behind each operation A holds, and B unless z has come up -/
def wpAnyN (P : Program) (md : Region.Mode) (ops : Array Oper) (Q : Exit → Act → World → Prop) (A B : World → Prop) (z : Nat) : Nat → Array Bool → Act → World → Prop
  | 0, l, a, w => Region.ready md ops l = [] ∧ Q .normal a w
  | n + 1, l, a, w => (Region.ready md ops l = [] → Q .normal a w) ∧
    ∀ i ∈ Region.ready md ops l, wpOp P ops Q i (fun a' w' => (A w' ∧ ((l.setIfInBounds i true).getD z false = false → B w')) ∧ wpAnyN P md ops Q A B z n (l.setIfInBounds i true) a' w') a w
theorem wpAnyN.any : ∀ (n : Nat) (l : Array Bool) (a : Act) (w : World), wpAnyN P md ops Q A B z n l a w → wpAny P md ops Q n l a w
  | 0, _, _, _, h => h
  | n + 1, _, _, _, h => ⟨h.1, fun i hi => wpOp_mono (fun a' w' h' => wpAnyN.any n _ a' w' h'.2) (h.2 i hi)⟩
/-- what holds of the worlds in which number i may be carried out -/
def While (md : Region.Mode) (ops : Array Oper) (A B : World → Prop) (z i : Nat) (w : World) : Prop := ∃ l, Closed md ops l ∧ l.getD i false = false ∧ A w ∧ (l.getD z false = false → B w)
theorem While.a {i : Nat} {w : World} (h : While md ops A B z i w) : A w := h.choose_spec.2.2.1
theorem While.b {i : Nat} {w : World} (h : While md ops A B z i w) (hb : Behind md ops i z) : A w ∧ B w := by
  obtain ⟨l, hc, hi, ha, hB⟩ := h
  refine ⟨ha, hB ?_⟩
  cases hz : l.getD z false with
  | false => rfl
  | true => rw [hb l hc hz] at hi; cases hi
theorem wpAnyN.first {i : Nat} {oi : Oper} {v : Value} (hi : ops[i]? = some oi) (hs : Region.noSelect ops = true) (hne : i ≠ z)
    (hQ : ∀ c a w, Q (.panic c) (a.put oi.dst v) w → Q (.panic c) a w) :
    ∀ (n : Nat) (l : Array Bool) (a : Act) (w : World), Closed md ops l →
      (∀ j oj, ops[j]? = some oj → j ≠ i → l.getD j true = false → (∀ e ∈ oj.after, Region.binds md e = true → e.on ≠ i) → oi.apart ops oj = true) →
      i ∈ Region.ready md ops l → YieldsIf P ops (While md ops A B z i) oi v a → A w ∧ (l.getD z false = false → B w) → wpAnyN P md ops Q A B z n (l.setIfInBounds i true) (a.put oi.dst v) w → wpAnyN P md ops Q A B z (n + 1) l a w := by
  intro n
  induction n with
  | zero =>
    intro l a w hc _ hr hy hS H
    refine ⟨fun h0 => (by rw [h0] at hr; cases hr), fun j hj => ?_⟩
    rcases Decidable.em (j = i) with rfl | hji
    · exact hy.wpOp hi ⟨l, hc, (getD_false_of (mem_ready.1 hr).1).1, hS.1, hS.2⟩ ⟨⟨hS.1, fun h => hS.2 (by rw [getD_set_ne false hne] at h; exact h)⟩, H⟩
    · have hr2 := ready_mono hj hji
      rw [H.1] at hr2
      cases hr2
  | succ n ih =>
    intro l a w hc hfree hr hy hS H
    refine ⟨fun h0 => (by rw [h0] at hr; cases hr), fun j hj => ?_⟩
    rcases Decidable.em (j = i) with rfl | hji
    · exact hy.wpOp hi ⟨l, hc, (getD_false_of (mem_ready.1 hr).1).1, hS.1, hS.2⟩ ⟨⟨hS.1, fun h => hS.2 (by rw [getD_set_ne false hne] at h; exact h)⟩, H⟩
    · obtain ⟨hun, oj, hoj, hall⟩ := mem_ready.1 hj
      have hlow := getD_false_of (mem_ready.1 hr).1
      have hno : ∀ e ∈ oj.after, Region.binds md e = true → e.on ≠ i := fun e he hbi heq => by
        have h1 := hall e he hbi
        rw [heq, hlow.1] at h1
        cases h1
      have h2 := wpOp_putIf hoj (hfree j oj hoj hji hun hno) (fun cs b => Region.noSelect_spec hs i oi cs b hi) (fun cs b => Region.noSelect_spec hs j oj cs b hoj) hQ hy (H.2 j (ready_mono hj hji))
      have hzz : ((l.setIfInBounds i true).setIfInBounds j true).getD z false = (l.setIfInBounds j true).getD z false := by
        rw [Array.setIfInBounds_comm _ _ (Ne.symm hji), getD_set_ne false hne]
      refine wpOp_mono (fun a' w' h3 => ⟨⟨h3.2.1.1, fun h => h3.2.1.2 (hzz.trans h)⟩, ih (l.setIfInBounds j true) a' w' (hc.set hj) ?_ (ready_mono hr (Ne.symm hji)) h3.1 ⟨h3.2.1.1, fun h => h3.2.1.2 (hzz.trans h)⟩ ?_⟩) h2
      · intro k ok hk hki hku hkn
        refine hfree k ok hk hki ?_ hkn
        rcases Decidable.em (j = k) with rfl | hjk
        · exact hun
        · rw [getD_set_ne true hjk] at hku
          exact hku
      · rw [Array.setIfInBounds_comm _ _ hji]
        exact h3.2.2
/-- number i is taken first: it goes by A alone -/
theorem wpAnyN.takeA {i : Nat} {oi : Oper} {v : Value} {n : Nat} {l : Array Bool} {a : Act} {w : World} (hc : Closed md ops l) (hi : ops[i]? = some oi) (hs : Region.noSelect ops = true) (hf : Region.free md ops l i = true)
    (hr : (Region.ready md ops l).contains i = true) (hne : i ≠ z) (hQ : ∀ c a w, Q (.panic c) (a.put oi.dst v) w → Q (.panic c) a w) (hw : Region.wanted oi (yielded ops a.tmps) = true)
    (hy : ∀ w, A w → (execOp a.eval oi).run P w = .ok (.value v) w) (hS : A w ∧ B w) (h : Closed md ops (l.setIfInBounds i true) → wpAnyN P md ops Q A B z n (l.setIfInBounds i true) (a.put oi.dst v) w) : wpAnyN P md ops Q A B z (n + 1) l a w := by
  have hr' : i ∈ Region.ready md ops l := by simpa using hr
  exact wpAnyN.first hi hs hne hQ n l a w hc (Region.free_spec hi hf) hr' (.inl ⟨hw, fun w h => hy w h.a⟩) ⟨hS.1, fun _ => hS.2⟩ (h (hc.set hr'))
/-- number i is taken first: it goes by A and B; z comes up behind it -/
theorem wpAnyN.takeB {i : Nat} {oi : Oper} {v : Value} {n : Nat} {l : Array Bool} {a : Act} {w : World} (hc : Closed md ops l) (hi : ops[i]? = some oi) (hs : Region.noSelect ops = true) (hf : Region.free md ops l i = true)
    (hr : (Region.ready md ops l).contains i = true) (hb : Behind md ops i z) (hne : i ≠ z) (hQ : ∀ c a w, Q (.panic c) (a.put oi.dst v) w → Q (.panic c) a w) (hw : Region.wanted oi (yielded ops a.tmps) = true)
    (hy : ∀ w, A w ∧ B w → (execOp a.eval oi).run P w = .ok (.value v) w) (hS : A w ∧ B w) (h : Closed md ops (l.setIfInBounds i true) → wpAnyN P md ops Q A B z n (l.setIfInBounds i true) (a.put oi.dst v) w) : wpAnyN P md ops Q A B z (n + 1) l a w := by
  have hr' : i ∈ Region.ready md ops l := by simpa using hr
  exact wpAnyN.first hi hs hne hQ n l a w hc (Region.free_spec hi hf) hr' (.inl ⟨hw, fun w h => hy w (h.b hb)⟩) ⟨hS.1, fun _ => hS.2⟩ (h (hc.set hr'))
/-- the one that may come up is carried out; the conditions anew -/
theorem wpAnyN.go {i : Nat} {oi : Oper} {n : Nat} {l : Array Bool} {a : Act} {w : World} (hr : Region.ready md ops l = [i]) (hi : ops[i]? = some oi) (hw : Region.wanted oi (yielded ops a.tmps) = true)
    (h : ∀ K : Act → World → Prop, Shut (∀ a w, A w → ((l.setIfInBounds i true).getD z false = false → B w) → wpAnyN P md ops Q A B z n (l.setIfInBounds i true) a w → K a w) → Oper.wp P oi a w K Q) :
    wpAnyN P md ops Q A B z (n + 1) l a w := by
  refine ⟨fun h0 => (by rw [h0] at hr; cases hr), fun j hj => ?_⟩
  obtain rfl : j = i := by rw [hr] at hj; simpa using hj
  exact wpOp_step hi fun K hK => (by rw [if_pos hw]; exact h K fun a w h1 h2 h3 => hK a w ⟨⟨h1, h2⟩, h3⟩)
theorem wpAnyN.done {l : Array Bool} {a : Act} {w : World} (hr : Region.ready md ops l = []) (h : Q .normal a w) : ∀ n, wpAnyN P md ops Q A B z n l a w
  | 0 => ⟨hr, h⟩
  | _ + 1 => ⟨fun _ => h, by rw [hr]; simp⟩
theorem wpAnyN.start {id : Nat} {a : Act} {w : World} (z : Nat) (A B : World → Prop) (hm : P.follows .mixedOrders = true) (hS : A w.drew ∧ B w.drew)
    (h : A w.drew ∧ B w.drew → Closed .any ops (Array.replicate ops.size false) → wpAnyN P .any ops Q A B z ops.size (Array.replicate ops.size false) a w.drew) : (Code.region id ops true).wp P Q a w :=
  wp_region_any hm (wpAnyN.any _ _ _ _ (h hS (Closed.start _)))
end
/-- a slice literal of one struct of five fields -/
theorem wp_build5 {P : Program} {Q : Exit → Act → World → Prop} {o : Oper} {a : Act} {w : World} {K : Act → World → Prop} (t e : TypeId) (x : Operand) (ho : o.op = .buildSlice t 1 #[(0, x)]) (ie : TypeInfo) (c0 c1 c2 c3 c4 z0 z1 z2 z3 z4 : Value)
    (hu : P.underlying t = some (.slice e)) (hie : P.info? e = some ie) (hz : ie.zero = some (.agg #[z0, z1, z2, z3, z4])) (hs : ie.size = 5) (hx : a.eval x = .agg #[c0, c1, c2, c3, c4])
    (h : K (a.put o.dst (.slice (some ⟨w.heap.size, 0, none⟩) 1 1)) (w.alloc (.cells #[c0, c1, c2, c3, c4] e))) : o.wp P a w K Q := by
  refine wp_buildSlice t e 1 _ ho #[c0, c1, c2, c3, c4] ie _ hu hie hz (by rw [hs]; decide) (by rw [hs]; decide) ?_ h
  rw [hs]
  have e1 : ((#[(0, x)] : Array (Nat × Operand)).map fun (i, x) => (i, a.eval x)).toList = [(0, .agg #[c0, c1, c2, c3, c4])] := by simp [hx]
  rw [e1]
  have e2 : (Array.range (1 * 5)) = #[0, 1, 2, 3, 4] := by decide
  rw [e2]
  simp [Instr.fill, Value.cells]
/-- a slice literal of five integers -/
theorem wp_buildInts5 {P : Program} {Q : Exit → Act → World → Prop} {o : Oper} {a : Act} {w : World} {K : Act → World → Prop} (t e : TypeId) (x0 x1 x2 x3 x4 : Operand) (ho : o.op = .buildSlice t 5 #[(0, x0), (1, x1), (2, x2), (3, x3), (4, x4)]) (ie : TypeInfo) (k : IntKind) (n0 n1 n2 n3 n4 : Int)
    (hu : P.underlying t = some (.slice e)) (hie : P.info? e = some ie) (hz : ie.zero = some (.int k 0)) (hs : ie.size = 1) (h0 : a.eval x0 = .int k n0) (h1 : a.eval x1 = .int k n1) (h2 : a.eval x2 = .int k n2) (h3 : a.eval x3 = .int k n3) (h4 : a.eval x4 = .int k n4)
    (h : K (a.put o.dst (.slice (some ⟨w.heap.size, 0, none⟩) 5 5)) (w.alloc (.cells #[.int k n0, .int k n1, .int k n2, .int k n3, .int k n4] e))) : o.wp P a w K Q := by
  refine wp_buildSlice t e 5 _ ho #[.int k n0, .int k n1, .int k n2, .int k n3, .int k n4] ie _ hu hie hz (by rw [hs]; decide) (by rw [hs]; decide) ?_ h
  rw [hs]
  have e1 : ((#[(0, x0), (1, x1), (2, x2), (3, x3), (4, x4)] : Array (Nat × Operand)).map fun (i, x) => (i, a.eval x)).toList = [(0, .int k n0), (1, .int k n1), (2, .int k n2), (3, .int k n3), (4, .int k n4)] := by simp [h0, h1, h2, h3, h4]
  rw [e1]
  have e2 : (Array.range (5 * 1)) = #[0, 1, 2, 3, 4] := by decide
  rw [e2]
  simp [Instr.fill, Value.cells]
end Go.Proofs.Ythbnbfeolfkkaaa
