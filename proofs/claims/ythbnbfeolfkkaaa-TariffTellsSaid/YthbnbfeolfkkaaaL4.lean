/- The walk of the closure of Made: the price with a number. -/
import Derived.Test.YthbnbfeolfkkaaaL2
import Derived.Test.YthbnbfeolfkkaaaMadeP
namespace Go.Proofs.Ythbnbfeolfkkaaa
open Go.RowKit Go.Maps

/-- a slice of small integers of another kind -/
def IsKs (k : IntKind) (w : World) (v : Value) (xs : List Int) : Prop :=
  Sl w v xs.length fun b off i => w.cell? ⟨b, off + i, none⟩ = some (.int k (xs.getD i 0))
theorem IsKs.stays {k : IntKind} {w w' : World} {v : Value} {xs : List Int} (h : IsKs k w v xs) (hs : Stays w w') : IsKs k w' v xs :=
  Sl.stays h hs fun _ _ _ hb _ hc => (hs.2 _ hb).trans hc

set_option maxHeartbeats 2000000 in
theorem madePrice_any (i : Nat) (ps : List Int) (pv : Value) (B : Nat) (w : World) (hi : i ≤ 1000) (hp : IsKs .u8 w pv ps) (hps : ∀ x ∈ ps, 0 ≤ x ∧ x ≤ 255) (hB : w.cell? ⟨B, 0, none⟩ = some pv) :
    Calls Try.prog 39 #[.int .i64 (i : Int), .pointer (some ⟨B, 0, none⟩)] w fun e w' => e = .returned (.int .i64 (priceAt ps i)) ∧ ∃ n, w' = w.drewN n := by
  obtain ⟨A, c, rfl, hn, hc, hA⟩ := hp
  have hc' : c ≤ 9223372036854775807 := hc
  rcases Nat.eq_zero_or_pos ps.length with h0 | h0
  · have he : ps = [] := List.eq_nil_of_length_eq_zero h0
    subst he
    have hl : (((([] : List Int).length : Nat) : Int) == 0) = true := rfl
    clear hA
    go_enter Try.func39, Try.ntmps39
    go_wp2
    go_ret
    exact ⟨rfl, 0, rfl⟩
  · obtain ⟨b, off, rfl, hb, hR⟩ := hA h0
    have hml : i % ps.length < ps.length := Nat.mod_lt _ h0
    have hce : w.cell? ⟨b, off + i % ps.length, none⟩ = some (.int .u8 (ps.getD (i % ps.length) 0)) := hR (i % ps.length) hml
    have hx := hps (ps.getD (i % ps.length) 0) (by rw [List.getD_eq_getElem?_getD, List.getElem?_eq_getElem hml]; exact List.getElem_mem hml)
    have hfin := Lib.hid (show priceAt ps i = 300 + ps.getD (i % ps.length) 0 from by rw [priceAt, if_neg (by intro e; rw [e] at h0; simp at h0)])
    generalize ps.getD (i % ps.length) 0 = x at hce hx hfin
    obtain ⟨hx0, hx1⟩ := hx
    have hl : ((ps.length : Int) == 0) = false := by rw [beq_eq_false_iff_ne]; omega
    have i1 : (0 : Int) ≤ (i : Int) := by omega
    have i2 : (1 : Int) ≤ (ps.length : Int) := by omega
    have i3 : ((i : Int) % (ps.length : Int)).toNat = i % ps.length := by rw [← Int.natCast_emod]; rfl
    have j1 : IntKind.i64.wrap x = x := IntWalk.i64_in _ (by omega)
    have j2 : IntKind.i64.wrap (300 + x) = 300 + x := IntWalk.i64_in _ (by omega)
    clear hA hR hps
    go_enter Try.func39, Try.ntmps39
    go_wp2
    go_quiet (fail)
    go_wp2
    go_ret
    exact ⟨ret_int hfin.out.symm, _, rfl⟩
end Go.Proofs.Ythbnbfeolfkkaaa
