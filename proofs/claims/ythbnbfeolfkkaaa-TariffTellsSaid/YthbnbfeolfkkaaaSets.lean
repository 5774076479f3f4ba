/- A set kept in a map to bools that the call itself makes: made, asked, written; and what the keys of this program read as. -/
import Derived.Test.YthbnbfeolfkkaaaMem
import Derived.Maps.Own
import Derived.Maps.Views
import Derived.DeepKeys4
import Derived.KernelRfl
namespace Go.Proofs.Ythbnbfeolfkkaaa
open Go.RowKit Go.Maps

/-- an element that reads as a bool's datum is that bool -/
theorem plainElem_bool_inv {H : Type} {P : Program} {e : TypeId} (he : P.underlying e = some .bool) {v : Value} {z : DataW H × List MemPlace} (h : plainElem P e v = some z) : ∃ x, v = .bool x ∧ z = (.lit (.bool x), []) := by
  unfold plainElem at h
  rw [he] at h
  cases v <;> simp at h
  exact ⟨_, rfl, h.symm⟩

/-- block b is a map of at most n entries in which just the keys of S are true -/
def SetM {α : Type} [DecidableEq α] (P : Program) (k e : TypeId) (enc : α → Value) (w : World) (b n : Nat) (S : List α) : Prop :=
  ∃ D : DataW Unit, w.ownsMap P k (plainElem P e) b n D ∧ IsMap D ∧ ∀ (a : α) (kl : Lit), keyOf P k (enc a) = some kl → D.atKey kl (.lit (.bool false)) = .lit (.bool (memB a S))

section
variable {α : Type} [DecidableEq α] {P : Program} {k e t : TypeId} {enc : α → Value} {w : World} {b n : Nat} {S : List α}

theorem SetM.made (P : Program) (k e : TypeId) (enc : α → Value) (w : World) : SetM P k e enc (w.alloc (.map #[] 0)) w.heap.size 0 [] :=
  ⟨.map [], World.ownsMap_made w P k _, ⟨_, rfl⟩, fun a kl _ => by simp [DataW.atKey, memB_nil]⟩
theorem SetM.kept {w' : World} {row : Option Nat} (h : SetM P k e enc w b n S) (hg : w.grownBy w' row) (hne : some b ≠ row) : SetM P k e enc w' b n S := by
  obtain ⟨D, h1, h2, h3⟩ := h
  exact ⟨D, h1.kept hg hne, h2, h3⟩
theorem SetM.below {w' : World} (h : SetM P k e enc w b n S) (hb : Below w.heap.size w w') : SetM P k e enc w' b n S :=
  h.kept (row := none) ⟨hb.os, hb.tape, hb.output, hb.size, fun i hi _ => hb.block i hi⟩ (by simp)
theorem SetM.alloc (h : SetM P k e enc w b n S) (o : Obj) : SetM P k e enc (w.alloc o) b n S := by
  obtain ⟨D, h1, h2, h3⟩ := h
  exact ⟨D, h1.alloc o, h2, h3⟩
theorem SetM.lt (h : SetM P k e enc w b n S) : b < w.heap.size := by
  obtain ⟨D, h1, _⟩ := h
  exact h1.lt
theorem SetM.look (h : SetM P k e enc w b n S) (K : Keyed P k) (ht : P.underlying t = some (.map k e)) (he : P.underlying e = some .bool) (hz : (zeroValue e).run P w = .ok (.bool false) w)
    (a : α) {kl : Lit} (hk : keyOf P k (enc a) = some kl) : (Instr.lookup t (.map (some b)) (enc a) false).run P w = .ok (.bool (memB a S)) w := by
  obtain ⟨D, h1, h2, h3⟩ := h
  obtain ⟨v, ps, hrun, hv⟩ := h1.lookup K ht hz (plainElem_bool he false) hk
  obtain ⟨x, rfl, hx⟩ := plainElem_bool_inv he hv
  rw [h3 a kl hk] at hx
  simp only [Prod.mk.injEq, DataW.lit.injEq, Lit.bool.injEq] at hx
  rw [hrun, hx.1]
theorem SetM.put (h : SetM P k e enc w b n S) (K : Keyed P k) (ht : P.underlying t = some (.map k e)) (he : P.underlying e = some .bool) (hn : n < maxLen) (hinj : ∀ x y, enc x = enc y → x = y)
    (a : α) {kl : Lit} (hk : keyOf P k (enc a) = some kl) : ∃ w', (Instr.mapUpdate t (.map (some b)) (enc a) (.bool true)).run P w = .ok () w' ∧ SetM P k e enc w' b (n + 1) (a :: S) ∧ w.grownBy w' (some b) := by
  obtain ⟨D, h1, h2, h3⟩ := h
  obtain ⟨w', hrun, h4, h5⟩ := h1.update K ht hn hk (plainElem_bool he true)
  refine ⟨w', hrun, ⟨_, h4, ?_, fun a' kl' hk' => ?_⟩, h5⟩
  · obtain ⟨es, rfl⟩ := h2
    exact ⟨_, rfl⟩
  · by_cases hne : a' = a
    · subst hne
      rw [hk] at hk'
      cases hk'
      rw [atKey_put_same h2 (K.key hk), memB_self]
    · have hkl : kl' ≠ kl := fun e' => by
        subst e'
        exact hne (hinj _ _ (K.inj hk' hk))
      rw [atKey_put_other hkl, h3 a' kl' hk', memB_other _ hne]
end

/-! the keys of this program -/
def encPair (p : ByteArray × ByteArray) : Value := .agg #[.string p.1, .string p.2]
theorem encPair_inj (x y : ByteArray × ByteArray) (h : encPair x = encPair y) : x = y := by
  simp [encPair] at h
  exact Prod.ext h.1 h.2
theorem laidOut : laidOutB Try.prog = true := by kernel_rfl
theorem row86 : (86 : TypeId) < Try.prog.types.size := of_decide_eq_true (by kernel_rfl)
theorem wide86 : (match Try.prog.underlying 86 with | some (.array _ _) | some (.struct _) => true | _ => false) = true := by kernel_rfl
theorem key86 : Try.prog.keyTypeAt 2 86 = true := by kernel_rfl
theorem small2 : 2 + 1 ≤ 10000 := by omega
set_option maxRecDepth 100000 in
theorem keyed86 : Keyed Try.prog 86 := Keyed.of_law (deep_law_laid laidOut (m := 2) small2 row86 key86 wide86)
theorem cells86 : Try.prog.cellsOf 86 = 2 := by kernel_rfl
theorem cells9 : Try.prog.cellsOf 9 = 1 := by kernel_rfl
theorem keyType86 : Try.prog.keyType 86 = true := by kernel_rfl
theorem zero4 (w : World) : (zeroValue 4).run Try.prog w = .ok (.bool false) w := by kernel_rfl
theorem keyOf_pair (p : ByteArray × ByteArray) (h1 : p.1.size ≤ maxLen) (h2 : p.2.size ≤ maxLen) : ∃ kl, keyOf Try.prog 86 (encPair p) = some kl := by
  have hf : (encPair p).formed Try.prog 86 = true := by simp [encPair, Value.formed, Try.underlying86, cells86]
  have hl : ∀ d, Try.prog.keyLits (d + 2) 86 [.string p.1, .string p.2] = some [.string p.1.data.toList, .string p.2.data.toList] := fun d => by
    simp [Program.keyLits, Try.underlying86, Try.underlying9, cells86, cells9, h1, h2, List.range, List.range.loop]
  obtain ⟨m, hm⟩ : ∃ m, Try.prog.types.size = m + 1 := ⟨Try.prog.types.size - 1, by have h : 86 < Try.prog.types.size := row86; omega⟩
  refine ⟨.string (keyBytes [.string p.1.data.toList, .string p.2.data.toList]), ?_⟩
  unfold keyOf
  rw [Try.underlying86]
  simp only [keyType86, hf, Bool.and_self, if_true]
  rw [hm, show (encPair p).cells.toList = [.string p.1, .string p.2] from rfl, hl m]
  rfl
def encU8 (n : Int) : Value := .int .u8 n
def encStr (s : ByteArray) : Value := .string s
theorem keyed5 : Keyed Try.prog 5 := int_keyed Try.underlying5
theorem keyed9 : Keyed Try.prog 9 := string_keyed Try.underlying9
theorem encU8_inj (x y : Int) (h : encU8 x = encU8 y) : x = y := by simpa [encU8] using h
theorem encStr_inj (x y : ByteArray) (h : encStr x = encStr y) : x = y := by simpa [encStr] using h
theorem keyOf_u8 (n : Int) (h0 : 0 ≤ n) (h1 : n ≤ 255) : ∃ kl, keyOf Try.prog 5 (encU8 n) = some kl := ⟨_, keyOf_int_mk Try.underlying5 (WalkArith.wf_u8 (by omega))⟩
theorem keyOf_str (s : ByteArray) (h : s.size ≤ maxLen) : ∃ kl, keyOf Try.prog 9 (encStr s) = some kl := ⟨_, WideMaps.keyOf_string_mk Try.underlying9 h⟩
end Go.Proofs.Ythbnbfeolfkkaaa
