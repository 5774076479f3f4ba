/- The walk of scheme.isNested. -/
import Derived.Test.YthbnbfeolfkkaaaW15
import Derived.Test.YthbnbfeolfkkaaaW2
namespace Go.Proofs.Ythbnbfeolfkkaaa
open Go.RowKit Go.Maps

/-- prefixes with one group have one group at the next level: through the labels, with what was met before -/
def nestGo (l next : Level) : List (ByteArray × ByteArray) → List Label → Bool
  | _, [] => true
  | M, x :: t =>
    if fitsB M x.group (groupOf next x.pre) = false then false
    else if (x.group.size : Int) ≠ l.pre ∨ isPlain x.group = false ∨ bsHit l.labels x.group = true then nestGo l next ((x.group, groupOf next x.pre) :: M) t
    else if fitsB ((x.group, groupOf next x.pre) :: M) x.group (groupOf next x.group) = false then false
    else nestGo l next ((x.group, groupOf next x.group) :: (x.group, groupOf next x.pre) :: M) t
def isNested (l next : Level) : Bool := nestGo l next [] l.labels
section
variable {l next : Level} {M : List (ByteArray × ByteArray)} {x : Label} {t : List Label}
theorem nestGo_no (h : fitsB M x.group (groupOf next x.pre) = false) : nestGo l next M (x :: t) = false := by rw [nestGo, if_pos h]
theorem nestGo_on (h : fitsB M x.group (groupOf next x.pre) = true) (h2 : (x.group.size : Int) ≠ l.pre ∨ isPlain x.group = false ∨ bsHit l.labels x.group = true) :
    nestGo l next M (x :: t) = nestGo l next ((x.group, groupOf next x.pre) :: M) t := by rw [nestGo, if_neg (by simp [h]), if_pos h2]
theorem nestGo_no2 (h : fitsB M x.group (groupOf next x.pre) = true) (h2 : ¬ ((x.group.size : Int) ≠ l.pre ∨ isPlain x.group = false ∨ bsHit l.labels x.group = true)) (h3 : fitsB ((x.group, groupOf next x.pre) :: M) x.group (groupOf next x.group) = false) :
    nestGo l next M (x :: t) = false := by rw [nestGo, if_neg (by simp [h]), if_neg h2, if_pos h3]
theorem nestGo_on2 (h : fitsB M x.group (groupOf next x.pre) = true) (h2 : ¬ ((x.group.size : Int) ≠ l.pre ∨ isPlain x.group = false ∨ bsHit l.labels x.group = true)) (h3 : fitsB ((x.group, groupOf next x.pre) :: M) x.group (groupOf next x.group) = true) :
    nestGo l next M (x :: t) = nestGo l next ((x.group, groupOf next x.group) :: (x.group, groupOf next x.pre) :: M) t := by rw [nestGo, if_neg (by simp [h]), if_neg h2, if_neg (by simp [h3])]
end

/-- what lies in memory all the while: both levels, the variable of the map, the map -/
def NI (w wr : World) (C1 C2 : Array Value) (n : Nat) (M : List (ByteArray × ByteArray)) : Prop :=
  Below w.heap.size w wr ∧ Blk wr w.heap.size 54 C1 ∧ Blk wr (w.heap.size + 1) 54 C2 ∧ Blk wr (w.heap.size + 1 + 1 + 1) 122 #[.map (some (w.heap.size + 1 + 1))] ∧ MapS wr (w.heap.size + 1 + 1) n M
section
variable {w wr w' : World} {C1 C2 : Array Value} {n n' : Nat} {M M' : List (ByteArray × ByteArray)}
theorem NI.alloc (h : NI w wr C1 C2 n M) (o : Obj) : NI w (wr.alloc o) C1 C2 n M :=
  ⟨h.1.alloc h.1.size o, h.2.1.alloc o, h.2.2.1.alloc o, h.2.2.2.1.alloc o, h.2.2.2.2.alloc o⟩
theorem NI.below (h : NI w wr C1 C2 n M) (hb : Below wr.heap.size wr w') : NI w w' C1 C2 n M :=
  ⟨h.1.trans (hb.mono h.1.size), h.2.1.below hb h.2.1.lt, h.2.2.1.below hb h.2.2.1.lt, h.2.2.2.1.below hb h.2.2.2.1.lt, h.2.2.2.2.below hb⟩
theorem NI.grown (h : NI w wr C1 C2 n M) (hg : wr.grownBy w' (some (w.heap.size + 1 + 1))) (hm : MapS w' (w.heap.size + 1 + 1) n' M') : NI w w' C1 C2 n' M' :=
  ⟨h.1.grown hg h.1.size (by simp; omega), h.2.1.grown hg (by simp; omega), h.2.2.1.grown hg (by simp), h.2.2.2.1.grown hg (by simp), hm⟩
theorem NI.start (w : World) (C1 C2 : Array Value) :
    NI w ((((w.alloc (.cells C1 54)).alloc (.cells C2 54)).alloc (.map #[] 0)).alloc (.cells #[.map (some (w.heap.size + 1 + 1))] 122)) C1 C2 0 [] := by
  refine ⟨((((Below.refl _ _).alloc (Nat.le_refl _) _).alloc (by simp) _).alloc (by simp; omega) _).alloc (by simp; omega) _, ((((Blk.new _ _ _).alloc _).alloc _).alloc _), ?_, ?_, ?_⟩
  · exact ((Blk.new_at _ _ _ _ (by simp)).alloc _).alloc _
  · exact Blk.new_at _ _ _ _ (by simp)
  · have := (MapS.made ((w.alloc (.cells C1 54)).alloc (.cells C2 54))).alloc (.cells #[.map (some (w.heap.size + 1 + 1))] 122)
    simpa using this
end

set_option maxHeartbeats 4000000 in
theorem isNested_any (n1 n2 : ByteArray) (p1 m1 c1 p2 m2 c2 : Int) (v1 v2 : Value) (ls ls2 : List Label) (w : World) (h1 : IsLabels w v1 ls) (h2 : IsLabels w v2 ls2) (hs1 : ls.length ≤ 1000) (hs2 : ls2.length ≤ 1000)
    (hp0 : 0 ≤ p2) (hpp : p2 ≤ p1) (hlp : ∀ x ∈ ls, p2 ≤ (x.pre.size : Int)) :
    Calls Try.prog 71 #[.agg #[.string n1, .int .i64 p1, v1, .int .i64 m1, .int .i64 c1], .agg #[.string n2, .int .i64 p2, v2, .int .i64 m2, .int .i64 c2]] w fun e w' =>
      e = .returned (.bool (isNested ⟨n1, p1, ls, m1, c1⟩ ⟨n2, p2, ls2, m2, c2⟩)) ∧ Below w.heap.size w w' := by
  have hh1 := Lib.hid h1
  have hh2 := Lib.hid h2
  obtain ⟨A, c, rfl, hn, hc, hA⟩ := h1
  obtain ⟨A2, cc2, rfl, hn2, hc2, hA2⟩ := h2
  have hc' : c ≤ 9223372036854775807 := hc
  have hA' := Lib.hid hA
  have hlp' := Lib.hid hlp
  have hp0' := Lib.hid hp0
  have hpp' := Lib.hid hpp
  have hmm := @run_makeMap Try.prog
  clear hA hA2 hlp hp0 hpp
  go_enter Try.func71, Try.ntmps71
  go_wp2
  go_loopw [16] (fun iv wr => ∃ (k n : Nat) (M : List (ByteArray × ByteArray)), k ≤ ls.length ∧ n ≤ 2 * k ∧ iv = .int .i64 k ∧ NI w wr #[.string n1, .int .i64 p1, .slice A ls.length c, .int .i64 m1, .int .i64 c1] #[.string n2, .int .i64 p2, .slice A2 ls2.length cc2, .int .i64 m2, .int .i64 c2] n M ∧ Hid (isNested ⟨n1, p1, ls, m1, c1⟩ ⟨n2, p2, ls2, m2, c2⟩ = nestGo ⟨n1, p1, ls, m1, c1⟩ ⟨n2, p2, ls2, m2, c2⟩ M (ls.drop k)))
    (fun iv _ => ls.length - (intOf iv).toNat)
  case atStart => exact ⟨0, 0, [], by omega, by omega, rfl, NI.start _ _ _, rfl⟩
  case round =>
    obtain ⟨k, n, M, hk, hnk, rfl, hni, hrl⟩ := hrel
    clear hmm
    have hni0 := Lib.hid hni
    have hbw := hni.1
    have hsz := hni.2.2.2.1.lt
    clear hni
    by_cases hlt : k < ls.length
    · obtain ⟨b, off, rfl, hb, hi⟩ := hA'.out (by omega)
      have hst := (hi k hlt).stays (Stays.of hbw) hb
      have hdr := Lib.hid (drop_getD ls Label.zero k hlt)
      have hbr : b < wr.heap.size := Nat.lt_of_lt_of_le hb hbw.size
      have hlpk := hlp'.out (ls.getD k Label.zero) (by rw [List.getD_eq_getElem?_getD, List.getElem?_eq_getElem hlt]; exact List.getElem_mem hlt)
      have hi' := Lib.hid hi
      clear hi hA'
      generalize ls.getD k Label.zero = q at hst hdr hlpk
      obtain ⟨lp, lg⟩ := q
      obtain ⟨g0, g1, hps, hgs⟩ := hst
      simp only at g0 g1 hps hgs hlpk
      have hlpk' := Lib.hid hlpk
      have hgs' : lg.size ≤ 9223372036854775807 := hgs
      clear hlpk
      have hni1 := Lib.hid (hni0.out.alloc (.cells #[.string lp, .string lg] 90))
      have hlb := Lib.hid (Blk.new wr 90 #[.string lp, .string lg])
      go_wp2_with fail
      refine (fits_any lg lp (w.heap.size + 1 + 1 + 1) (w.heap.size + 1) (w.heap.size + 1 + 1) n M n2 p2 m2 c2 _ ls2 _ hni1.out.2.2.2.2 (by omega) (hni1.out.2.2.2.1.cell 0) hni1.out.2.2.1 hni1.out.2.2.2.1.lt (by omega) (by omega) (hh2.out.stays (Stays.of hni1.out.1)) hs2 hp0'.out hlpk'.out hgs hps).mono ?_
      rintro e w1 ⟨rfl, hm1, hg1⟩
      have hni2 := Lib.hid (hni1.out.grown hg1 hm1)
      have hlb2 := Lib.hid (hlb.out.grown hg1 (by simp; omega))
      have x0 := hlb2.out.cell 0
      have x1 := hlb2.out.cell 1
      have y0 := hni2.out.2.1.cell 0
      have y1 := hni2.out.2.1.cell 1
      have y2 := hni2.out.2.1.cell 2
      have y3 := hni2.out.2.1.cell 3
      have y4 := hni2.out.2.1.cell 4
      simp at x0 x1 y0 y1 y2 y3 y4
      have hsz1 : wr.heap.size < w1.heap.size := hlb2.out.lt
      have hsz2 : w.heap.size < w1.heap.size := by omega
      clear hm1 hg1
      cases hf : fitsB M lg (groupOf ⟨n2, p2, ls2, m2, c2⟩ lp) with
      | false =>
        have hfin := Lib.hid (show isNested ⟨n1, p1, ls, m1, c1⟩ ⟨n2, p2, ls2, m2, c2⟩ = false from by rw [hrl.out, hdr.out, nestGo_no hf])
        go_wp2
        go_ret
        exact ⟨ret_bool hfin.out.symm, hni2.out.1⟩
      | true =>
        by_cases hsame : (lg.size : Int) = p1
        · have hd : ((lg.size : Int) != p1) = false := by simpa using hsame
          have hsame' := Lib.hid hsame
          clear hsame
          go_wp2_with fail
          refine (isPlain_any _ _ hgs).mono ?_
          rintro e w2 ⟨rfl, hb2⟩
          have hni3 := Lib.hid (hni2.out.below hb2)
          have hlb3 := Lib.hid (hlb2.out.below hb2 hsz1)
          have hsz3 : wr.heap.size < w2.heap.size := hlb3.out.lt
          clear hb2 x0 x1 y0 y1 y2 y3 y4
          have x0 := hlb3.out.cell 0
          have x1 := hlb3.out.cell 1
          have y0 := hni3.out.2.1.cell 0
          have y1 := hni3.out.2.1.cell 1
          have y2 := hni3.out.2.1.cell 2
          have y3 := hni3.out.2.1.cell 3
          have y4 := hni3.out.2.1.cell 4
          simp at x0 x1 y0 y1 y2 y3 y4
          have hsz4 : w.heap.size < w2.heap.size := by omega
          by_cases hpl : isPlain lg = true
          · go_wp2_with fail
            refine (labelled_any _ _ _ _ _ ls _ _ (hh1.out.stays (Stays.of hni3.out.1)) hs1).mono ?_
            rintro e w3 ⟨rfl, hb3⟩
            have hni4 := Lib.hid (hni3.out.below hb3)
            have hlb4 := Lib.hid (hlb3.out.below hb3 hsz3)
            have hsz5 : wr.heap.size < w3.heap.size := hlb4.out.lt
            clear hb3 x0 x1 y0 y1 y2 y3 y4
            have x0 := hlb4.out.cell 0
            have x1 := hlb4.out.cell 1
            simp at x0 x1
            cases hh : bsHit ls lg with
            | true =>
              have hfin := Lib.hid (show isNested ⟨n1, p1, ls, m1, c1⟩ ⟨n2, p2, ls2, m2, c2⟩ = nestGo ⟨n1, p1, ls, m1, c1⟩ ⟨n2, p2, ls2, m2, c2⟩ ((lg, groupOf ⟨n2, p2, ls2, m2, c2⟩ lp) :: M) (ls.drop (k + 1)) from by rw [hrl.out, hdr.out, nestGo_on hf (.inr (.inr hh))])
              go_wp2
              go_roundw
              case rel => exact ⟨k + 1, n + 1, _, by omega, by omega, by go_num, hni4.out, hfin⟩
              case measure => simp [intOf]; omega
            | false =>
              have hnot : ¬ (((lg.size : Int) ≠ p1) ∨ isPlain lg = false ∨ bsHit ls lg = true) := by simp [hpl, hh, hsame'.out]
              have hnot' := Lib.hid hnot
              clear hnot
              go_wp2_with fail
              refine (fits_any lg lg (w.heap.size + 1 + 1 + 1) (w.heap.size + 1) (w.heap.size + 1 + 1) (n + 1) ((lg, groupOf ⟨n2, p2, ls2, m2, c2⟩ lp) :: M) n2 p2 m2 c2 _ ls2 _ hni4.out.2.2.2.2 (by omega) (hni4.out.2.2.2.1.cell 0) hni4.out.2.2.1 hni4.out.2.2.2.1.lt (by omega) (by omega) (hh2.out.stays (Stays.of hni4.out.1)) hs2 hp0'.out (by have := hsame'.out; have := hpp'.out; omega) hgs hgs).mono ?_
              rintro e w4 ⟨rfl, hm4, hg4⟩
              have hni5 := Lib.hid (hni4.out.grown hg4 hm4)
              clear hm4 hg4
              cases hf2 : fitsB ((lg, groupOf ⟨n2, p2, ls2, m2, c2⟩ lp) :: M) lg (groupOf ⟨n2, p2, ls2, m2, c2⟩ lg) with
              | false =>
                have hfin := Lib.hid (show isNested ⟨n1, p1, ls, m1, c1⟩ ⟨n2, p2, ls2, m2, c2⟩ = false from by rw [hrl.out, hdr.out, nestGo_no2 hf hnot'.out hf2])
                go_wp2
                go_ret
                exact ⟨ret_bool hfin.out.symm, hni5.out.1⟩
              | true =>
                have hfin := Lib.hid (show isNested ⟨n1, p1, ls, m1, c1⟩ ⟨n2, p2, ls2, m2, c2⟩ = nestGo ⟨n1, p1, ls, m1, c1⟩ ⟨n2, p2, ls2, m2, c2⟩ ((lg, groupOf ⟨n2, p2, ls2, m2, c2⟩ lg) :: (lg, groupOf ⟨n2, p2, ls2, m2, c2⟩ lp) :: M) (ls.drop (k + 1)) from by rw [hrl.out, hdr.out, nestGo_on2 hf hnot'.out hf2])
                go_wp2
                go_roundw
                case rel => exact ⟨k + 1, n + 1 + 1, _, by omega, by omega, by go_num, hni5.out, hfin⟩
                case measure => simp [intOf]; omega
          · have hpl' : isPlain lg = false := by simpa using hpl
            have hfin := Lib.hid (show isNested ⟨n1, p1, ls, m1, c1⟩ ⟨n2, p2, ls2, m2, c2⟩ = nestGo ⟨n1, p1, ls, m1, c1⟩ ⟨n2, p2, ls2, m2, c2⟩ ((lg, groupOf ⟨n2, p2, ls2, m2, c2⟩ lp) :: M) (ls.drop (k + 1)) from by rw [hrl.out, hdr.out, nestGo_on hf (.inr (.inl hpl'))])
            go_wp2
            go_roundw
            case rel => exact ⟨k + 1, n + 1, _, by omega, by omega, by go_num, hni3.out, hfin⟩
            case measure => simp [intOf]; omega
        · have hd : ((lg.size : Int) != p1) = true := by simpa using hsame
          have hfin := Lib.hid (show isNested ⟨n1, p1, ls, m1, c1⟩ ⟨n2, p2, ls2, m2, c2⟩ = nestGo ⟨n1, p1, ls, m1, c1⟩ ⟨n2, p2, ls2, m2, c2⟩ ((lg, groupOf ⟨n2, p2, ls2, m2, c2⟩ lp) :: M) (ls.drop (k + 1)) from by rw [hrl.out, hdr.out, nestGo_on hf (.inl hsame)])
          clear hsame
          go_wp2
          go_roundw
          case rel => exact ⟨k + 1, n + 1, _, by omega, by omega, by go_num, hni2.out, hfin⟩
          case measure => simp [intOf]; omega
    · have hfin := Lib.hid (show isNested ⟨n1, p1, ls, m1, c1⟩ ⟨n2, p2, ls2, m2, c2⟩ = true from by rw [hrl.out, List.drop_of_length_le (by omega)]; rfl)
      go_wp2
      go_ret
      exact ⟨ret_bool hfin.out.symm, hbw⟩
end Go.Proofs.Ythbnbfeolfkkaaa
