/- Arguments of a law that are slices of integers, as the walks want them. -/
import Derived.Test.YthbnbfeolfkkaaaL4
import Derived.OpenShut
namespace Go.Proofs.Ythbnbfeolfkkaaa
open Go.RowKit

/-- WHAT THE WALK IS TOLD OF A SLICE OF INTEGERS THAT CAME IN: it is nil; or it leads to a row of 'cap' cells, the numbers 'zs' (the first 'len' are its elements, the rest its spare room), each fitting its kind. -/
def IsRow (k : IntKind) (w : World) (a : Option Addr) (len cap : Nat) (zs : List Int) : Prop :=
  (a = none ∧ len = 0 ∧ cap = 0 ∧ zs = []) ∨
  ∃ x, a = some x ∧ len ≤ cap ∧ cap ≤ maxLen ∧ zs.length = cap ∧ (∀ i, i < zs.length → w.cell? (x.add i) = some (.int k (zs.getD i 0))) ∧ ∀ n ∈ zs, (Lit.int k n).wf = true

theorem nat_u32 {a : Int} (h : (Lit.int .u32 a).wf = true) : ∃ n : Nat, a = (n : Int) ∧ n < 4294967296 := by
  have := bounds_u32 h
  exact ⟨a.toNat, by omega, by omega⟩
theorem u8_bd {a : Int} (h : (Lit.int .u8 a).wf = true) : 0 ≤ a ∧ a ≤ 255 := bounds_u8 h
theorem isKs_row {k : IntKind} {w : World} {a : Option Addr} {len cap : Nat} {zs : List Int} (h : IsRow k w a len cap zs) : ∃ ps, IsKs k w (.slice a len cap) ps ∧ ps.length = len ∧ ∀ x ∈ ps, (Lit.int k x).wf = true := by
  rcases h with ⟨rfl, rfl, rfl, rfl⟩ | ⟨x, rfl, hl, hc, hz, hcell, hwf⟩
  · exact ⟨[], ⟨_, _, rfl, Nat.le_refl _, Nat.zero_le _, fun h => absurd h (by simp)⟩, rfl, fun _ hx => by cases hx⟩
  · have hlen : (zs.take len).length = len := by simp; omega
    refine ⟨zs.take len, ⟨some x, cap, by rw [hlen], by omega, hc, fun h0 => ?_⟩, hlen, fun y hy => hwf y (List.mem_of_mem_take hy)⟩
    obtain ⟨b, off, rfl, hcc⟩ := ints_at hcell (by omega)
    refine ⟨b, off, rfl, ?_, fun i hi => ?_⟩
    · exact World.block_lt_of_cell? w _ (hcc 0 (by omega))
    · have := hcc i (by omega)
      show w.cell? ⟨b, off + i, none⟩ = some (.int k ((zs.take len).getD i 0))
      rw [this, List.getD_eq_getElem?_getD, List.getD_eq_getElem?_getD, List.getElem?_take, if_pos (by omega)]
theorem isKs_of_row {w : World} {a : Option Addr} {len cap : Nat} {zs : List Int} (h : IsRow .u8 w a len cap zs) : ∃ ps, IsKs .u8 w (.slice a len cap) ps ∧ ∀ x ∈ ps, 0 ≤ x ∧ x ≤ 255 := by
  obtain ⟨ps, h1, _, h2⟩ := isKs_row h
  exact ⟨ps, h1, fun x hx => bounds_u8 (h2 x hx)⟩
end Go.Proofs.Ythbnbfeolfkkaaa
