/- The walk of tariff.Fits. -/
import Derived.Test.YthbnbfeolfkkaaaW8
import Derived.Test.YthbnbfeolfkkaaaW17
import Derived.Test.YthbnbfeolfkkaaaW18
namespace Go.Proofs.Ythbnbfeolfkkaaa
open Go.RowKit Go.Maps

def maxGo : Int → List Level → Int
  | m, [] => m
  | m, l :: t => maxGo (if m < l.cents then l.cents else m) t
def leastGo : Int → List Step → Int
  | m, [] => m
  | m, s :: t => leastGo (if minL s.cents < m then minL s.cents else m) t
def ratesFit (g : Int) : List Rate → Bool
  | [] => true
  | r :: t => if leastGo 1000000 r.steps - r.bar - g < 0 then false else ratesFit g t
def fits (rs : List Rate) (zs : List Zone) (ls : List Level) : Bool :=
  if right rs zs = false ∨ schemeRight ls = false then false else ratesFit (maxGo 0 ls) rs

theorem minGo_in : ∀ (m : Int) (xs : List Int), 0 ≤ m → m ≤ 1000000 → centsOk xs = true → 0 ≤ minGo m xs ∧ minGo m xs ≤ 1000000
  | _, [], h0, h1, _ => ⟨h0, h1⟩
  | m, c :: t, h0, h1, h => by
    by_cases hb : c < 0 ∨ 1000000 < c
    · rw [centsOk_no hb] at h; cases h
    · rw [centsOk_yes (by omega) (by omega)] at h
      exact minGo_in _ t (by split <;> omega) (by split <;> omega) h
theorem minL_in (xs : List Int) (h : centsOk xs = true) : 0 ≤ minL xs ∧ minL xs ≤ 1000000 := by
  cases xs with
  | nil => exact ⟨by decide, by decide⟩
  | cons c t =>
    by_cases hb : c < 0 ∨ 1000000 < c
    · rw [centsOk_no hb] at h; cases h
    · rw [centsOk_yes (by omega) (by omega)] at h
      exact minGo_in c t (by omega) (by omega) h
theorem levelsGo_cents {n : Nat} : ∀ {i lab : Nat} {names : List ByteArray} {prev : Option Int} {ls : List Level}, levelsGo n i lab names prev ls = true → ∀ l ∈ ls, 0 ≤ l.cents ∧ l.cents ≤ 1000000
  | _, _, _, _, [], _, l, hl => by cases hl
  | i, lab, names, prev, q :: t, h, l, hl => by
    by_cases hb : levelNo n i lab names q
    · rw [levelsGo_no hb] at h; cases h
    · by_cases hp : preNo prev q = true
      · rw [levelsGo_no2 hp] at h; cases h
      · rw [levelsGo_yes hb (by simpa using hp)] at h
        rcases List.mem_cons.1 hl with rfl | hl
        · have hlv : isLevel l ((i : Int) == (n : Int) - 1) = true := by
            cases hq : isLevel l ((i : Int) == (n : Int) - 1)
            · exact absurd (.inr (.inr hq)) hb
            · rfl
          unfold isLevel at hlv
          split at hlv
          · cases hlv
          · rename_i hlb
            exact ⟨Int.not_lt.1 fun hneg => hlb (.inr (.inr (.inr (.inl hneg)))), Int.not_lt.1 fun hneg => hlb (.inr (.inr (.inr (.inr hneg))))⟩
        · exact levelsGo_cents h l hl
theorem schemeRight_cents {ls : List Level} (h : schemeRight ls = true) : (∀ l ∈ ls, 0 ≤ l.cents ∧ l.cents ≤ 1000000) ∧ 1 ≤ ls.length ∧ ls.length ≤ 6 := by
  unfold schemeRight at h
  split at h
  · cases h
  · split at h
    · rename_i h1 h2
      exact ⟨levelsGo_cents h2, by omega, by omega⟩
    · cases h

set_option maxHeartbeats 4000000 in
theorem fits_tariff_any (rv zv lv : Value) (rs : List Rate) (zs : List Zone) (ls : List Level) (w : World) (h : IsRates w rv rs) (hz : IsZones w zv zs) (hl : IsLevels w lv ls) (hlen : ∀ l ∈ ls, l.labels.length ≤ 1000000000) :
    Calls Try.prog 20 #[.agg #[rv, zv], lv] w fun e w' => e = .returned (.bool (fits rs zs ls)) ∧ Below w.heap.size w w' := by
  have hh := Lib.hid h
  have hzz := Lib.hid hz
  have hll := Lib.hid hl
  obtain ⟨A, c, rfl, hn, hc, hA⟩ := h
  obtain ⟨A2, c2, rfl, hn2, hc2, hA2⟩ := hz
  obtain ⟨A3, c3, rfl, hn3, hc3, hA3⟩ := hl
  have hc' : c ≤ 9223372036854775807 := hc
  have hc3' : c3 ≤ 9223372036854775807 := hc3
  have hA' := Lib.hid hA
  have hA3' := Lib.hid hA3
  have hlen' := Lib.hid hlen
  clear hA hA2 hA3 hlen
  have hW := (Below.refl w.heap.size w).alloc (Nat.le_refl _) (.cells #[.slice A rs.length c, .slice A2 zs.length c2] 25)
  go_enter Try.func20, Try.ntmps20
  go_wp2_with fail
  refine (right_any _ _ rs zs _ (hh.out.stays (Stays.of hW)) (hzz.out.stays (Stays.of hW))).mono ?_
  rintro e w1 ⟨rfl, hb1⟩
  have hbw1 := hW.trans (hb1.mono (by simp))
  have x0 : w1.cell? ⟨w.heap.size, 0, none⟩ = some (.slice A rs.length c) := by rw [hb1.cell (by simp)]; simp
  have hsz1 : w.heap.size < w1.heap.size := by have := hb1.size; simp at this; omega
  clear hb1 hW
  cases h1 : right rs zs with
  | false =>
    have hfin := Lib.hid (show fits rs zs ls = false from by rw [fits, if_pos (.inl h1)])
    go_wp2
    go_ret
    exact ⟨ret_bool hfin.out.symm, hbw1⟩
  | true =>
    go_wp2_with fail
    refine (schemeRight_any _ ls _ (hll.out.stays (Stays.of hbw1)) hlen'.out).mono ?_
    rintro e w2 ⟨rfl, hb2⟩
    have hbw2 := hbw1.trans (hb2.mono hbw1.size)
    have x0' : w2.cell? ⟨w.heap.size, 0, none⟩ = some (.slice A rs.length c) := by rw [hb2.cell hsz1]; exact x0
    have hsz2 : w.heap.size < w2.heap.size := Nat.lt_of_lt_of_le hsz1 hb2.size
    clear hb2 x0
    cases h2 : schemeRight ls with
    | false =>
      have hfin := Lib.hid (show fits rs zs ls = false from by rw [fits, if_pos (.inr h2)])
      go_wp2
      go_ret
      exact ⟨ret_bool hfin.out.symm, hbw2⟩
    | true =>
      have hfin := Lib.hid (show fits rs zs ls = ratesFit (maxGo 0 ls) rs from by rw [fits, if_neg (by simp [h1, h2])])
      obtain ⟨hcts, _, _⟩ := schemeRight_cents h2
      have hcts' := Lib.hid hcts
      obtain ⟨hrm, hcz1, hcz2, hro, _⟩ := right_parts h1
      have hro' := Lib.hid (ratesOk_all hro)
      clear hcts hro hrm
      go_wp2
      go_loopw [5, 23] (fun gv iv wr => ∃ (k : Nat) (g : Int), k ≤ ls.length ∧ iv = .int .i64 k ∧ gv = .int .i64 g ∧ 0 ≤ g ∧ g ≤ 1000000 ∧ Below w.heap.size w wr ∧ wr.cell? ⟨w.heap.size, 0, none⟩ = some (.slice A rs.length c) ∧ Hid (maxGo 0 ls = maxGo g (ls.drop k)))
        (fun _ iv _ => ls.length - (intOf iv).toNat)
      case atStart => exact ⟨0, 0, by omega, rfl, rfl, by omega, by omega, hbw2, x0', rfl⟩
      case round =>
        obtain ⟨k, g, hk, rfl, rfl, hg0, hg1, hbw, hx, hrl⟩ := hrel
        clear x0'
        have hws : w.heap.size ≤ wr.heap.size := hbw.size
        by_cases hlt : k < ls.length
        · obtain ⟨b, off, rfl, hb, hi⟩ := hA3'.out (by omega)
          have hst := (hi k hlt).stays (Stays.of hbw) hb
          have hdr := Lib.hid (drop_getD ls Level.zero k hlt)
          have hbr : b < wr.heap.size := Nat.lt_of_lt_of_le hb hbw.size
          have hcl := hcts'.out (ls.getD k Level.zero) (by rw [List.getD_eq_getElem?_getD, List.getElem?_eq_getElem hlt]; exact List.getElem_mem hlt)
          have hi' := Lib.hid hi
          clear hi hA3'
          generalize ls.getD k Level.zero = q at hst hdr hcl
          obtain ⟨ln, lp, lls, lm, lc⟩ := q
          obtain ⟨g0, g1, ⟨lv, g2, g5⟩, g3, g4, hns⟩ := hst
          simp only at g0 g1 g2 g3 g4 g5 hcl
          obtain ⟨A4, c4, rfl, _, _, hA4⟩ := g5
          clear hA4
          have hfin2 := Lib.hid (show maxGo 0 ls = maxGo (if g < lc then lc else g) (ls.drop (k + 1)) from by rw [hrl.out, hdr.out]; rfl)
          have hW : Below w.heap.size w (wr.alloc (.cells #[.string ln, .int .i64 lp, .slice A4 lls.length c4, .int .i64 lm, .int .i64 lc] 54)) := hbw.alloc hbw.size _
          have hx2 : (wr.alloc (.cells #[.string ln, .int .i64 lp, .slice A4 lls.length c4, .int .i64 lm, .int .i64 lc] 54)).cell? ⟨w.heap.size, 0, none⟩ = some (.slice A rs.length c) := by
            rw [World.cell?_alloc_lt _ _ _ (World.block_lt_of_cell? _ _ hx)]; exact hx
          go_wp2
          go_roundw
          case rel => exact ⟨k + 1, if g < lc then lc else g, by omega, by go_num, rfl, by split <;> omega, by split <;> omega, hW, hx2, hfin2⟩
          case measure => simp [intOf]; omega
        · have hmg := Lib.hid (show maxGo 0 ls = g from by rw [hrl.out, List.drop_of_length_le (by omega)]; rfl)
          have hfin2 := Lib.hid (show fits rs zs ls = ratesFit g rs from by rw [hfin.out, hmg.out])
          clear hfin hrl hmg
          have hwlt : w.heap.size < wr.heap.size := World.block_lt_of_cell? _ _ hx
          obtain ⟨wo, rfl⟩ : ∃ wo : World, wo = wr := ⟨_, rfl⟩
          go_wp2
          go_loopw [35] (fun iv wr => ∃ (k : Nat), k ≤ rs.length ∧ iv = .int .i64 k ∧ Below w.heap.size w wr ∧ Hid (ratesFit g rs = ratesFit g (rs.drop k)))
            (fun iv _ => rs.length - (intOf iv).toNat)
          case atStart => exact ⟨0, by omega, rfl, hbw, rfl⟩
          case round =>
            obtain ⟨q, hq, rfl, hbq, hrq⟩ := hrel
            have hwq : w.heap.size ≤ wr.heap.size := hbq.size
            clear hx
            by_cases hlq : q < rs.length
            · obtain ⟨b, off, rfl, hb, hi⟩ := hA'.out (by omega)
              have hst := (hi q hlq).stays (Stays.of hbq) hb
              have hdr := Lib.hid (drop_getD rs Rate.zero q hlq)
              have hbr : b < wr.heap.size := by omega
              have hrr := (hro'.out (rs.getD q Rate.zero) (by rw [List.getD_eq_getElem?_getD, List.getElem?_eq_getElem hlq]; exact List.getElem_mem hlq)).1
              have hi' := Lib.hid hi
              clear hi hA'
              generalize rs.getD q Rate.zero = r at hst hdr hrr
              obtain ⟨rc, rss, rb⟩ := r
              obtain ⟨g0, ⟨sv, g1, g2⟩, g3, _, _⟩ := hst
              obtain ⟨hso, hsl1, hsl2, hrb0, hrb1⟩ := rightRate_all hrr
              simp only at g0 g1 g2 g3 hso hsl1 hsl2 hrb0 hrb1
              have hso' := Lib.hid (stepsOk_all hso)
              have g2' := Lib.hid g2
              obtain ⟨A4, c4, rfl, hn4, hc4, hA4⟩ := g2
              have hA4' := Lib.hid hA4
              clear hA4 hso hrr
              have hW : Below w.heap.size w (wr.alloc (.cells #[.int .u8 rc, .slice A4 rss.length c4, .int .i64 rb] 57)) := hbq.alloc hbq.size _
              have hBk := Lib.hid (Blk.new wr 57 #[.int .u8 rc, .slice A4 rss.length c4, .int .i64 rb])
              have hWr : Below (wr.heap.size + 1) (wr.alloc (.cells #[.int .u8 rc, .slice A4 rss.length c4, .int .i64 rb] 57)) (wr.alloc (.cells #[.int .u8 rc, .slice A4 rss.length c4, .int .i64 rb] 57)) := Below.refl _ _
              obtain ⟨wq, rfl⟩ : ∃ wq : World, wq = wr := ⟨_, rfl⟩
              go_wp2
              go_loopw [10, 42] (fun mv iv wr => ∃ (k : Nat) (m : Int), k ≤ rss.length ∧ iv = .int .i64 k ∧ mv = .int .i64 m ∧ 0 ≤ m ∧ m ≤ 1000000 ∧ Below (wq.heap.size + 1) (wq.alloc (.cells #[.int .u8 rc, .slice A4 rss.length c4, .int .i64 rb] 57)) wr ∧ Hid (leastGo 1000000 rss = leastGo m (rss.drop k)))
                (fun _ iv _ => rss.length - (intOf iv).toNat)
              case atStart => exact ⟨0, 1000000, by omega, rfl, rfl, by omega, by omega, hWr, rfl⟩
              case round =>
                obtain ⟨j, m, hj, rfl, rfl, hm0, hm1, hbj, hrj⟩ := hrel
                have hszj : wq.heap.size + 1 ≤ wr.heap.size := by have := hbj.size; simpa using this
                have hbwj : Below w.heap.size w wr := hW.trans (hbj.mono (by omega))
                by_cases hlj : j < rss.length
                · obtain ⟨b2, off2, rfl, hb2, hi2⟩ := hA4'.out (by omega)
                  have hst2 := (hi2 j hlj).stays (Stays.of (((Below.refl wq.heap.size wq).alloc (Nat.le_refl _) _).trans (hbj.mono (by omega)))) hb2
                  have hdr2 := Lib.hid (drop_getD rss Step.zero j hlj)
                  have hbr2 : b2 < wr.heap.size := by omega
                  obtain ⟨hs1, _, _, hs4⟩ := hso'.out (rss.getD j Step.zero) (by rw [List.getD_eq_getElem?_getD, List.getElem?_eq_getElem hlj]; exact List.getElem_mem hlj)
                  have hi2' := Lib.hid hi2
                  clear hi2 hA4'
                  generalize rss.getD j Step.zero = s at hst2 hdr2 hs1 hs4
                  obtain ⟨sg, scs⟩ := s
                  obtain ⟨k0, cv, k1, k2⟩ := hst2
                  simp only at k0 k1 k2 hs1 hs4
                  obtain ⟨mi0, mi1⟩ := minL_in scs hs4
                  have hfin3 := Lib.hid (show leastGo 1000000 rss = leastGo (if minL scs < m then minL scs else m) (rss.drop (j + 1)) from by rw [hrj.out, hdr2.out]; rfl)
                  cases scs with
                  | nil => simp at hs1; omega
                  | cons y ys =>
                    have hs1' := Lib.hid hs1
                    have k2' := Lib.hid k2
                    obtain ⟨A5, c5, rfl, hn5, hc5, hA5⟩ := k2
                    generalize hlen5 : (y :: ys).length = n5 at *
                    have hlen5' := Lib.hid hlen5
                    have hWj : Below wr.heap.size wr (wr.alloc (.cells #[.int .i64 sg, .slice A5 n5 c5] 61)) := (Below.refl _ _).alloc (Nat.le_refl _) _
                    have hbj2 := hbj.alloc hszj (.cells #[.int .i64 sg, .slice A5 n5 c5] 61)
                    have hmi : minL (y :: ys) ≤ 1000000 := mi1
                    generalize hmy : minL (y :: ys) = my at mi0 mi1 hmi hfin3
                    have hmy' := Lib.hid hmy
                    clear hA5 hs1 hs4 hlen5 hmy
                    go_wp2_with fail
                    refine (min_any _ y ys _ ((show IsInts wr (.slice A5 n5 c5) (y :: ys) from k2'.out).stays (Stays.of hWj))).mono ?_
                    rintro e w5 ⟨rfl, rfl⟩
                    rw [hmy'.out]
                    go_wp2
                    go_roundw
                    case rel => exact ⟨j + 1, if my < m then my else m, by omega, by go_num, rfl, by split <;> omega, by split <;> omega, hbj2, hfin3⟩
                    case measure => simp [intOf]; omega
                · have hle := Lib.hid (show leastGo 1000000 rss = m from by rw [hrj.out, List.drop_of_length_le (by omega)]; rfl)
                  have x2 : wr.cell? ⟨wq.heap.size, 2, none⟩ = some (.int .i64 rb) := by rw [hbj.cell (by simp)]; simp
                  have hsz5 : wq.heap.size < wr.heap.size := by omega
                  by_cases hneg : m - rb - g < 0
                  · have hfin3 := Lib.hid (show fits rs zs ls = false from by rw [hfin2.out, hrq.out, hdr.out, ratesFit, if_pos (by simp only; rw [hle.out]; exact hneg)])
                    go_wp2
                    go_ret
                    exact ⟨ret_bool hfin3.out.symm, hbwj⟩
                  · have hfin3 := Lib.hid (show ratesFit g rs = ratesFit g (rs.drop (q + 1)) from by rw [hrq.out, hdr.out, ratesFit, if_neg (by simp only; rw [hle.out]; exact hneg)])
                    go_wp2
                    go_roundw
                    case rel => exact ⟨q + 1, by omega, by go_num, hbwj, hfin3⟩
                    case measure => simp [intOf]; omega
            · have hfin3 := Lib.hid (show fits rs zs ls = true from by rw [hfin2.out, hrq.out, List.drop_of_length_le (by omega)]; rfl)
              go_wp2
              go_ret
              exact ⟨ret_bool hfin3.out.symm, hbq⟩
end Go.Proofs.Ythbnbfeolfkkaaa
