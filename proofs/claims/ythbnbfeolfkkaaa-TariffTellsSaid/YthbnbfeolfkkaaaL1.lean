/- The walk of the tariff of the examples. -/
import Derived.Test.YthbnbfeolfkkaaaPost
import Derived.Laws.Rows
namespace Go.Proofs.Ythbnbfeolfkkaaa
open Go.RowKit Go.Maps

/-- a slice over a block that is known: what each element is, from the block's beginning on -/
theorem Sl.mk_ {w : World} {g n cap : Nat} {R : Nat → Nat → Nat → Prop} (hg : g < w.heap.size) (hn : n ≤ cap) (hc : cap ≤ maxLen) (hR : ∀ i, i < n → R g 0 i) : Sl w (.slice (some ⟨g, 0, none⟩) n cap) n R :=
  ⟨_, _, rfl, hn, hc, fun _ => ⟨g, 0, rfl, hg, hR⟩⟩
theorem Sl.nil_ {w : World} {R : Nat → Nat → Nat → Prop} : Sl w (.slice none 0 0) 0 R := ⟨_, _, rfl, Nat.le_refl _, Nat.zero_le _, fun h => absurd h (by omega)⟩
theorem lt_two {P : Nat → Prop} (h0 : P 0) (h1 : P 1) : ∀ i, i < 2 → P i
  | 0, _ => h0
  | 1, _ => h1
theorem lt_one {P : Nat → Prop} (h0 : P 0) : ∀ i, i < 1 → P i
  | 0, _ => h0
theorem lt_three {P : Nat → Prop} (h0 : P 0) (h1 : P 1) (h2 : P 2) : ∀ i, i < 3 → P i
  | 0, _ => h0
  | 1, _ => h1
  | 2, _ => h2
theorem small_max {n : Nat} (h : n ≤ 1000000) : n ≤ maxLen := by unfold maxLen; omega

/-- a tariff that is handed back, in memory of the call's own -/
def TariffRes (w : World) (rs : List Rate) (zs : List Zone) (e : Ending) (w' : World) : Prop :=
  ∃ rv zv, e = .returned (.agg #[rv, zv]) ∧ IsRates w' rv rs ∧ IsZones w' zv zs ∧ Below w.heap.size w w'
def exRates : List Rate := [⟨1, [⟨20, [100, 150]⟩, ⟨50, [120, 200]⟩], 10⟩]
def exZones : List Zone := [⟨⟨#[]⟩, ⟨#[]⟩, 2⟩, ⟨⟨#[49]⟩, ⟨#[49]⟩, 1⟩]
theorem size25 : (Try.prog.info? 25).map (·.size) = some 2 := by kernel_rfl
theorem size36 : (Try.prog.info? 36).map (·.size) = some 4 := by kernel_rfl

theorem exRates_of {W : World} {b1 b2 b3 b4 : Nat} (h1 : Blk W b1 3 #[.int .i64 100, .int .i64 150]) (h2 : Blk W b2 3 #[.int .i64 120, .int .i64 200])
    (h3 : Blk W b3 61 #[.int .i64 20, .slice (some ⟨b1, 0, none⟩) 2 2, .int .i64 50, .slice (some ⟨b2, 0, none⟩) 2 2]) (h4 : Blk W b4 57 #[.int .u8 1, .slice (some ⟨b3, 0, none⟩) 2 2, .int .i64 10]) :
    IsRates W (.slice (some ⟨b4, 0, none⟩) 1 1) exRates := by
  refine Sl.mk_ h4.lt (Nat.le_refl _) (small_max (by omega)) (lt_one ⟨h4.cell 0, ⟨_, h4.cell 1, ?_⟩, h4.cell 2, by decide, by decide⟩)
  refine Sl.mk_ h3.lt (Nat.le_refl _) (small_max (by omega)) (lt_two ⟨h3.cell 0, _, h3.cell 1, ?_⟩ ⟨h3.cell 2, _, h3.cell 3, ?_⟩)
  · exact Sl.mk_ h1.lt (Nat.le_refl _) (small_max (by omega)) (lt_two (h1.cell 0) (h1.cell 1))
  · exact Sl.mk_ h2.lt (Nat.le_refl _) (small_max (by omega)) (lt_two (h2.cell 0) (h2.cell 1))
theorem exZones_of {W : World} {b : Nat} (h : Blk W b 67 #[.string ⟨#[]⟩, .string ⟨#[]⟩, .int .i64 2, .string ⟨#[49]⟩, .string ⟨#[49]⟩, .int .i64 1]) :
    IsZones W (.slice (some ⟨b, 0, none⟩) 2 2) exZones := by
  have e0 : (ByteArray.mk #[]).size ≤ maxLen := Nat.zero_le _
  have e1 : (ByteArray.mk #[49]).size ≤ maxLen := small_max (by decide)
  exact Sl.mk_ h.lt (Nat.le_refl _) (small_max (by omega)) (lt_two ⟨h.cell 0, h.cell 1, h.cell 2, e0, e0⟩ ⟨h.cell 3, h.cell 4, h.cell 5, e1, e1⟩)

set_option maxHeartbeats 2000000 in
theorem example_any (w : World) : Calls Try.prog 30 #[] w (TariffRes w exRates exZones) := by
  go_enter Try.func30, Try.ntmps30
  go_wp2
  have k0 := (((((Blk.new w 25 #[.slice (some ⟨w.heap.size + 1 + 1 + 1 + 1, 0, none⟩) 1 1, .slice (some ⟨w.heap.size + 1 + 1 + 1 + 1 + 1, 0, none⟩) 2 2]).alloc (.cells #[.int .i64 100, .int .i64 150] 3)).alloc (.cells #[.int .i64 120, .int .i64 200] 3)).alloc
    (.cells #[.int .i64 20, .slice (some ⟨w.heap.size + 1, 0, none⟩) 2 2, .int .i64 50, .slice (some ⟨w.heap.size + 1 + 1, 0, none⟩) 2 2] 61)).alloc (.cells #[.int .u8 1, .slice (some ⟨w.heap.size + 1 + 1 + 1, 0, none⟩) 2 2, .int .i64 10] 57)).alloc (.cells #[.string ⟨#[]⟩, .string ⟨#[]⟩, .int .i64 2, .string ⟨#[49]⟩, .string ⟨#[49]⟩, .int .i64 1] 67)
  refine bodyPost_ret (results_cell_row Try.results30 _ _ _ _ _ (0, 0) _ rfl k0 Try.underlying25 rfl size25) rfl ⟨_, _, rfl, ?_, ?_, ?_⟩
  · exact exRates_of (((((Blk.new_at _ _ _ _ (by simp)).alloc _).alloc _).alloc _).alloc _) ((((Blk.new_at _ _ _ _ (by simp)).alloc _).alloc _).alloc _) (((Blk.new_at _ _ _ _ (by simp)).alloc _).alloc _) ((Blk.new_at _ _ _ _ (by simp)).alloc _)
  · exact exZones_of (Blk.new_at _ _ _ _ (by simp))
  · exact ((((((Below.refl _ _).alloc (Nat.le_refl _) _).alloc (by simp) _).alloc (by simp; omega) _).alloc (by simp; omega) _).alloc (by simp; omega) _).alloc (by simp; omega) _
end Go.Proofs.Ythbnbfeolfkkaaa
