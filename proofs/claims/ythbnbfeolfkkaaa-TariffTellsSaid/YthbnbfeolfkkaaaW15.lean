/- The walk of the closure of scheme.isNested. -/
import Derived.Test.YthbnbfeolfkkaaaStrMap
import Derived.Test.YthbnbfeolfkkaaaW14
import Derived.Deep.RegionHeld3
import Derived.Deep.DrawnRows
namespace Go.Proofs.Ythbnbfeolfkkaaa
open Go.RowKit Go.Maps
attribute [local go_sem ↓] Go.wp_at_zero Go.wp_at_succ

def fitsB (M : List (ByteArray × ByteArray)) (name g : ByteArray) : Bool := !(getB name M).isSome || ((orNo (getB name M)).toList == g.toList)
theorem IsLabels.sizes {w : World} {v : Value} {ls : List Label} (h : IsLabels w v ls) (i : Nat) (hi : i < ls.length) : (ls.getD i Label.zero).group.size ≤ maxLen ∧ (ls.getD i Label.zero).pre.size ≤ maxLen := by
  obtain ⟨A, c, _, _, _, hA⟩ := h
  obtain ⟨b, off, _, _, hR⟩ := hA (by omega)
  have := hR i hi
  exact ⟨this.2.2.2, this.2.2.1⟩
theorem groupOf_size {w : World} {v : Value} {l : Level} {code : ByteArray} (h : IsLabels w v l.labels) (hc : code.size ≤ maxLen) : (groupOf l code).size ≤ maxLen := by
  have hx : (code.extract 0 l.pre.toNat).size ≤ maxLen := by
    rw [ByteArray.size_extract]
    omega
  unfold groupOf labelled
  by_cases hh : bsHit l.labels (code.extract 0 l.pre.toNat) = true
  · rw [if_pos hh]
    exact (h.sizes _ (bsHit_lt hh)).1
  · rw [if_neg hh]
    exact hx

def FitsRes (w : World) (mb n : Nat) (M : List (ByteArray × ByteArray)) (name g : ByteArray) (e : Ending) (w' : World) : Prop :=
  e = .returned (.bool (fitsB M name g)) ∧ MapS w' mb (n + 1) ((name, g) :: M) ∧ w.grownBy w' (some mb)

theorem grown_of_below {w w' : World} (hb : Below w.heap.size w w') (row : Option Nat) : w.grownBy w' row := ⟨hb.os, hb.tape, hb.output, hb.size, fun i hi _ => hb.block i hi⟩

theorem gcell {w1 w2 : World} {mb b o : Nat} (h : w1.grownBy w2 (some mb)) (hb : b < w1.heap.size) (hne : b ≠ mb) : w2.cell? ⟨b, o, none⟩ = w1.cell? ⟨b, o, none⟩ :=
  World.cell?_of_block (h.block b hb (fun e => hne (by injection e)))

set_option maxHeartbeats 2000000 in
theorem fits_any (name p : ByteArray) (BA BN mb n : Nat) (M : List (ByteArray × ByteArray)) (ln : ByteArray) (pre least cents : Int) (lv : Value) (ls : List Label) (w : World)
    (hm : MapS w mb n M) (hn : n < 10000) (hba : w.cell? ⟨BA, 0, none⟩ = some (.map (some mb))) (hbn : Blk w BN 54 #[.string ln, .int .i64 pre, lv, .int .i64 least, .int .i64 cents]) (hBA : BA < w.heap.size) (hAm : BA ≠ mb) (hNm : BN ≠ mb)
    (hl : IsLabels w lv ls) (hsm : ls.length ≤ 1000) (h0 : 0 ≤ pre) (h1 : pre ≤ p.size) (hns : name.size ≤ maxLen) (hps : p.size ≤ maxLen) :
    Calls Try.prog 84 #[.string name, .string p, .pointer (some ⟨BA, 0, none⟩), .pointer (some ⟨BN, 0, none⟩)] w (FitsRes w mb n M name (groupOf ⟨ln, pre, ls, least, cents⟩ p)) := by
  have hgs := Lib.hid (groupOf_size (l := ⟨ln, pre, ls, least, cents⟩) (code := p) hl hps)
  have hll := Lib.hid hl
  obtain ⟨A, c, rfl, _, _, hA⟩ := hl
  clear hA
  have hlook := hm.look_ok name hns
  have hm' := Lib.hid hm
  have b0 := hbn.cell 0
  have b1 := hbn.cell 1
  have b2 := hbn.cell 2
  have b3 := hbn.cell 3
  have b4 := hbn.cell 4
  simp at b0 b1 b2 b3 b4
  have hBN := hbn.lt
  have hdw : Below w.heap.size w w.drew := (Below.refl _ _).drew
  have h0' := Lib.hid h0
  have h1' := Lib.hid h1
  clear hm h0 h1 hbn
  go_enter Try.func84, Try.ntmps84
  go_wp2
  go_region_held3 (fun w' => w'.cell? ⟨BA, 0, none⟩ = some (.map (some mb)) ∧ w'.cell? ⟨BN, 0, none⟩ = some (.string ln) ∧ w'.cell? ⟨BN, 1, none⟩ = some (.int .i64 pre) ∧ w'.cell? ⟨BN, 2, none⟩ = some (.slice A ls.length c) ∧ w'.cell? ⟨BN, 3, none⟩ = some (.int .i64 least) ∧ w'.cell? ⟨BN, 4, none⟩ = some (.int .i64 cents))
    (first | go_keep | (refine ⟨?_, ?_, ?_, ?_, ?_, ?_⟩ <;> first | (rw [gcell hgr2 (by omega) hAm, hb1.cell (by simp <;> omega)]; go_keep) | (rw [gcell hgr2 (by omega) hNm, hb1.cell (by simp <;> omega)]; go_keep) | (rw [hb1.cell (by simp <;> omega)]; go_keep)))
    (first | (go_at_call 85; refine (group_any _ _ _ _ _ ls _ _ (hll.out.stays (Stays.of hdw)) hsm h0'.out h1'.out hps).mono ?_; rintro e w1 ⟨rfl, hb1⟩; have hs1 := hb1.size; simp at hs1; obtain ⟨w2, hput, hm2, hgr2⟩ := (hm'.out.drew.below hb1).put name (groupOf ⟨ln, pre, ls, least, cents⟩ p) hns hgs.out (by unfold maxLen; omega)))
  rename_i hHeld
  have c0 := hHeld.1
  have hlook2 := hm2.look name hns
  have hgr := (grown_of_below hdw (some mb)).trans ((grown_of_below hb1 (some mb)).trans hgr2)
  rw [show orNo (getB name ((name, groupOf ⟨ln, pre, ls, least, cents⟩ p) :: M)) = groupOf ⟨ln, pre, ls, least, cents⟩ p from by simp [getB, orNo]] at hlook2
  have hm2' := Lib.hid hm2
  clear hHeld hput hm2 hgr2 hb1 hlook b0 b1 b2 b3 b4 hgs
  cases ho : (getB name M).isSome with
  | true =>
    have hfin := Lib.hid (show fitsB M name (groupOf ⟨ln, pre, ls, least, cents⟩ p) = ((orNo (getB name M)).toList == (groupOf ⟨ln, pre, ls, least, cents⟩ p).toList) from by simp [fitsB, ho])
    go_wp2
    go_ret
    exact ⟨ret_bool hfin.out.symm, hm2'.out, hgr⟩
  | false =>
    have hfin := Lib.hid (show fitsB M name (groupOf ⟨ln, pre, ls, least, cents⟩ p) = true from by simp [fitsB, ho])
    go_wp2
    go_ret
    exact ⟨ret_bool hfin.out.symm, hm2'.out, hgr⟩
end Go.Proofs.Ythbnbfeolfkkaaa
