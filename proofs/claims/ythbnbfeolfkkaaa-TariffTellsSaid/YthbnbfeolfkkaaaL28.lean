/- The walks of KeptInts, KeptZones. -/
import Derived.Test.YthbnbfeolfkkaaaL25
import Derived.Test.YthbnbfeolfkkaaaL2
import Derived.Test.YthbnbfeolfkkaaaUps
namespace Go.Proofs.Ythbnbfeolfkkaaa
open Go.RowKit Go.Maps
attribute [local go_sem ↓] Go.wp_at_zero Go.wp_at_succ

def SaysTrue (w : World) (e : Ending) (w' : World) : Prop := e = .returned (.bool true) ∧ Below w.heap.size w w'
set_option maxHeartbeats 1000000 in
theorem keptInts_any (P : Nat → Prop) (v1 v2 : Value) (xs : List Int) (w : World) (h1 : LtInts P w v1 xs) (h2 : IsInts w v2 xs) : Calls Try.prog 106 #[v1, v2] w (SaysTrue w) := by
  obtain ⟨b, c, rfl, hc12, hcm, hb, _, hx, hm⟩ := h1
  obtain ⟨A, c2, rfl, _, hc2, hA⟩ := h2
  have hcm' : (c : Int) ≤ 9223372036854775807 := by unfold maxLen at hcm; omega
  have i1 : (0 : Int) ≤ (xs.length : Int) + 12 := by omega
  have i2 : (xs.length : Int) + 12 ≤ (c : Int) := by omega
  have hx' := Lib.hid hx
  have hm' := Lib.hid hm
  have hA' := Lib.hid hA
  clear hx hm hA
  have hne : ((xs.length : Int) != (xs.length : Int)) = false := by simp
  go_enter Try.func106, Try.ntmps106
  go_wp2
  go_loopw [6] (fun iv wr => ∃ (k : Nat), k ≤ xs.length + 12 ∧ iv = .int .i64 k ∧ Below w.heap.size w wr)
    (fun iv _ => xs.length + 12 - (intOf iv).toNat)
  case atStart => exact ⟨0, by omega, rfl, Below.refl _ _⟩
  case round =>
    obtain ⟨k, hk, rfl, hbw⟩ := hrel
    rename World => wr
    have n0 : (0 : Int) ≤ (k : Int) := by omega
    by_cases hlt : k < xs.length
    · have g0 : wr.cell? ⟨b, k, none⟩ = some (.int .i64 (xs.getD k 0)) := (hbw.cell hb).trans (hx'.out k hlt)
      obtain ⟨b2, off2, rfl, hb2, hi2⟩ := hA'.out (by omega)
      have g1 : wr.cell? ⟨b2, off2 + k, none⟩ = some (.int .i64 (xs.getD k 0)) := (hbw.cell hb2).trans (hi2 k hlt)
      clear hi2
      generalize xs.getD k 0 = x at g0 g1
      have n1 : (k : Int) < (xs.length : Int) := by omega
      have n2 : (k : Int) < (xs.length : Int) + 12 := by omega
      have n3 : decide (xs.length ≤ k) = false := by simp; omega
      have hne2 : (x == x) = true := by simp
      clear hx' hm' hA'
      go_wp2
      go_quiet (fail)
      go_wp2
      go_roundw
      case rel => exact ⟨k + 1, by omega, by go_num, below_n hbw _⟩
      case measure => simp [intOf]; omega
    · by_cases hlt2 : k < xs.length + 12
      · obtain ⟨j, hj, hkj⟩ : ∃ j, j < 12 ∧ k = xs.length + j := ⟨k - xs.length, by omega, by omega⟩
        have g0 : wr.cell? ⟨b, k, none⟩ = some (.int .i64 (mk j)) := by rw [hkj]; exact (hbw.cell hb).trans (hm'.out j hj)
        have n1 : decide (k < xs.length) = false := by simp; omega
        have n2 : (k : Int) < (xs.length : Int) + 12 := by omega
        have n3 : xs.length ≤ k := by omega
        have n4 : (k : Int) - (xs.length : Int) = (j : Int) := by omega
        have hne2 : (mk j == mk j) = true := by simp
        have hmk := Lib.hid (mark_any j)
        generalize mk j = x at *
        clear hx' hm' hA' hlt hkj
        go_wp2
        go_quiet (first | (go_at_call 89; refine Calls.quiet_of_same (hmk.out _ hj)))
        go_wp2
        go_roundw
        case rel => exact ⟨k + 1, by omega, by go_num, below_n hbw _⟩
        case measure => simp [intOf]; omega
      · have n2 : decide ((k : Int) < (xs.length : Int) + 12) = false := by simp; omega
        go_wp2
        go_ret
        exact ⟨rfl, hbw⟩
set_option maxHeartbeats 1000000 in
theorem keptZones_any (P : Nat → Prop) (v1 v2 : Value) (zs : List Zone) (w : World) (h1 : LtZones P w v1 zs) (h2 : IsZones w v2 zs) : Calls Try.prog 64 #[v1, v2] w (SaysTrue w) := by
  obtain ⟨b, c, rfl, hc12, hcm, hb, _, hx, hm⟩ := h1
  obtain ⟨A, c2, rfl, _, hc2, hA⟩ := h2
  have hcm' : (c : Int) ≤ 9223372036854775807 := by unfold maxLen at hcm; omega
  have i1 : (0 : Int) ≤ (zs.length : Int) + 12 := by omega
  have i2 : (zs.length : Int) + 12 ≤ (c : Int) := by omega
  have hx' := Lib.hid hx
  have hm' := Lib.hid hm
  have hA' := Lib.hid hA
  clear hx hm hA
  have hne : ((zs.length : Int) != (zs.length : Int)) = false := by simp
  go_enter Try.func64, Try.ntmps64
  go_wp2
  go_loopw [6] (fun iv wr => ∃ (k : Nat), k ≤ zs.length + 12 ∧ iv = .int .i64 k ∧ Below w.heap.size w wr)
    (fun iv _ => zs.length + 12 - (intOf iv).toNat)
  case atStart => exact ⟨0, by omega, rfl, Below.refl _ _⟩
  case round =>
    obtain ⟨k, hk, rfl, hbw⟩ := hrel
    rename World => wr
    have n0 : (0 : Int) ≤ (k : Int) := by omega
    by_cases hlt : k < zs.length
    · have g := (hx'.out k hlt).stays (Stays.of hbw) hb
      obtain ⟨b2, off2, rfl, hb2, hi2⟩ := hA'.out (by omega)
      have g' := (hi2 k hlt).stays (Stays.of hbw) hb2
      clear hi2
      generalize zs.getD k Zone.zero = z at g g'
      obtain ⟨f, t, zn⟩ := z
      obtain ⟨g0, g1, g2, -, -⟩ := g
      obtain ⟨g3, g4, g5, -, -⟩ := g'
      simp only at g0 g1 g2 g3 g4 g5
      have n1 : (k : Int) < (zs.length : Int) := by omega
      have n2 : (k : Int) < (zs.length : Int) + 12 := by omega
      have n3 : decide (zs.length ≤ k) = false := by simp; omega
      clear hx' hm' hA'
      go_wp2
      go_quiet (fail)
      go_wp2
      go_roundw
      case rel => exact ⟨k + 1, by omega, by go_num, below_n hbw _⟩
      case measure => simp [intOf]; omega
    · by_cases hlt2 : k < zs.length + 12
      · obtain ⟨j, hj, hkj⟩ : ∃ j, j < 12 ∧ k = zs.length + j := ⟨k - zs.length, by omega, by omega⟩
        have g : IsZone wr b (k * 3) (markZ j) := by rw [hkj]; exact (hm'.out j hj).stays (Stays.of hbw) hb
        obtain ⟨g0, g1, g2, -, -⟩ := g
        have n1 : decide (k < zs.length) = false := by simp; omega
        have n2 : (k : Int) < (zs.length : Int) + 12 := by omega
        have n3 : zs.length ≤ k := by omega
        have n4 : (k : Int) - (zs.length : Int) = (j : Int) := by omega
        have hmk := Lib.hid (markZone_any j)
        simp only [markZ] at g0 g1 g2
        generalize mk j = x at *
        clear hx' hm' hA' hlt hkj
        have hbr : b < wr.heap.size := Nat.lt_of_lt_of_le hb hbw.size
        have y0 := Ups.cellAt g0 hbr
        have y1 := Ups.cellAt g1 hbr
        have y2 := Ups.cellAt g2 hbr
        go_wp2
        refine wp_region_ups (by kernel_rfl) (by kernel_rfl) ?_
        repeat (go_big_quiet_step (first | (go_at_call 75; refine calls_ups (hmk.out _ hj))))
        refine wpQuiet_nil ?_
        rintro _ ⟨u, rfl⟩
        go_wp2
        go_roundw
        case rel => exact ⟨k + 1, by omega, by go_num, hbw.trans (u.up.mono hbw.size)⟩
        case measure => simp [intOf]; omega
      · have n2 : decide ((k : Int) < (zs.length : Int) + 12) = false := by simp; omega
        go_wp2
        go_ret
        exact ⟨rfl, hbw⟩
end Go.Proofs.Ythbnbfeolfkkaaa
