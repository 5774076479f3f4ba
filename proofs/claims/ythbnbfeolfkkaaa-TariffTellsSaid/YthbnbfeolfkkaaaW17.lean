/- The walk of scheme.Right. -/
import Derived.Test.YthbnbfeolfkkaaaW16
import Derived.Test.YthbnbfeolfkkaaaW13
import Derived.Deep.QuietTactic
import Derived.BigQuiet
import Derived.Deep.RegionHeld3
import Derived.Deep.DrawnRows
namespace Go.Proofs.Ythbnbfeolfkkaaa
open Go.RowKit Go.Maps
attribute [local go_sem ↓] Go.wp_at_zero Go.wp_at_succ

def levelNo (n i lab : Nat) (names : List ByteArray) (l : Level) : Prop := 200 < lab + l.labels.length ∨ memB l.name names = true ∨ isLevel l ((i : Int) == (n : Int) - 1) = false
instance (n i lab : Nat) (names : List ByteArray) (l : Level) : Decidable (levelNo n i lab names l) := by unfold levelNo; infer_instance
def preNo (prev : Option Int) (l : Level) : Bool :=
  match prev with
  | none => false
  | some p => decide (p < l.pre)
def levelsGo (n : Nat) : Nat → Nat → List ByteArray → Option Int → List Level → Bool
  | _, _, _, _, [] => true
  | i, lab, names, prev, l :: t =>
    if levelNo n i lab names l then false else if preNo prev l then false else levelsGo n (i + 1) (lab + l.labels.length) (l.name :: names) (some l.pre) t
def nestAll : List Level → Bool
  | [] => true
  | [_] => true
  | a :: b :: t => if isNested a b then nestAll (b :: t) else false
/-- Right of package scheme -/
def schemeRight (ls : List Level) : Bool :=
  if ls.length < 1 ∨ 6 < ls.length then false else if levelsGo ls.length 0 0 [] none ls then nestAll ls else false

theorem levelsGo_no {n i lab : Nat} {names : List ByteArray} {prev : Option Int} {l : Level} {t : List Level} (h : levelNo n i lab names l) : levelsGo n i lab names prev (l :: t) = false := by rw [levelsGo, if_pos h]
theorem levelsGo_no2 {n i lab : Nat} {names : List ByteArray} {prev : Option Int} {l : Level} {t : List Level} (h2 : preNo prev l = true) : levelsGo n i lab names prev (l :: t) = false := by
  rw [levelsGo, if_pos h2]; simp
theorem levelsGo_yes {n i lab : Nat} {names : List ByteArray} {prev : Option Int} {l : Level} {t : List Level} (h : ¬ levelNo n i lab names l) (h2 : preNo prev l = false) :
    levelsGo n i lab names prev (l :: t) = levelsGo n (i + 1) (lab + l.labels.length) (l.name :: names) (some l.pre) t := by rw [levelsGo, if_neg h, if_neg (by simp [h2])]

/-- what a right run through the levels says of two that follow one another -/
theorem levelsGo_pair {n : Nat} : ∀ {i lab : Nat} {names : List ByteArray} {prev : Option Int} {ls : List Level}, levelsGo n i lab names prev ls = true → i + ls.length = n →
    ∀ k, k + 1 < ls.length → isLevel (ls.getD k Level.zero) false = true ∧ (ls.getD (k + 1) Level.zero).pre ≤ (ls.getD k Level.zero).pre ∧ 0 ≤ (ls.getD (k + 1) Level.zero).pre ∧ (ls.getD k Level.zero).labels.length ≤ 200 ∧ (ls.getD (k + 1) Level.zero).labels.length ≤ 200
  | _, _, _, _, [], _, _, k, hk => by simp at hk
  | i, lab, names, prev, l :: t, h, hn, k, hk => by
    by_cases hb : levelNo n i lab names l
    · rw [levelsGo_no hb] at h; cases h
    · by_cases hp : preNo prev l = true
      · rw [levelsGo_no2 hp] at h; cases h
      · rw [levelsGo_yes hb (by simpa using hp)] at h
        have hih := levelsGo_pair h (by simp at hn; omega)
        cases k with
        | succ k =>
          have := hih k (by simp at hk ⊢; omega)
          simpa using this
        | zero =>
          cases t with
          | nil => simp at hk
          | cons l2 t2 =>
            have hb2 : ¬ levelNo n (i + 1) (lab + l.labels.length) (l.name :: names) l2 := fun hb2 => by rw [levelsGo_no hb2] at h; cases h
            have hp2 : preNo (some l.pre) l2 = false := by
              cases hq : preNo (some l.pre) l2
              · rfl
              · rw [levelsGo_no2 hq] at h; cases h
            have e1 : ((i : Int) == (n : Int) - 1) = false := by simp at hn ⊢; omega
            have hl : isLevel l false = true := by
              rw [← e1]
              cases hq : isLevel l ((i : Int) == (n : Int) - 1)
              · exact absurd (.inr (.inr hq)) hb
              · rfl
            have hl2 : isLevel l2 (((i + 1 : Nat) : Int) == (n : Int) - 1) = true := by
              cases hq : isLevel l2 (((i + 1 : Nat) : Int) == (n : Int) - 1)
              · exact absurd (.inr (.inr hq)) hb2
              · rfl
            have hpre : 0 ≤ l2.pre := by
              unfold isLevel at hl2
              split at hl2
              · cases hl2
              · rename_i hlb
                exact Int.not_lt.1 fun hneg => hlb (.inr (.inl hneg))
            refine ⟨hl, ?_, hpre, ?_, ?_⟩
            · unfold preNo at hp2; simp at hp2; simpa using hp2
            · have : ¬ 200 < lab + l.labels.length := fun hx => hb (.inl hx)
              simp; omega
            · have : ¬ 200 < lab + l.labels.length + l2.labels.length := fun hx => hb2 (.inl hx)
              simp; omega
theorem labelsOk_size {pre : Int} : ∀ {prev : Option ByteArray} {ls : List Label}, labelsOk pre prev ls = true → ∀ x ∈ ls, (x.pre.size : Int) = pre
  | _, [], _, x, hx => by cases hx
  | prev, l :: t, h, x, hx => by
    cases hb : labelBad pre prev l
    · rw [labelsOk_yes hb] at h
      rcases List.mem_cons.1 hx with rfl | hx
      · unfold labelBad at hb
        simp at hb
        exact hb.1.1.1
      · exact labelsOk_size h x hx
    · rw [labelsOk_no hb] at h; cases h
theorem isLevel_size {l : Level} (h : isLevel l false = true) : ∀ x ∈ l.labels, (x.pre.size : Int) = l.pre := by
  unfold isLevel at h
  split at h
  · cases h
  · rw [if_neg (by simp)] at h
    split at h
    · cases h
    · exact labelsOk_size h

set_option maxHeartbeats 4000000 in
theorem schemeRight_any (v : Value) (ls : List Level) (w : World) (h : IsLevels w v ls) (hlen : ∀ l ∈ ls, l.labels.length ≤ 1000000000) :
    Calls Try.prog 48 #[v] w fun e w' => e = .returned (.bool (schemeRight ls)) ∧ Below w.heap.size w w' := by
  have hh := Lib.hid h
  obtain ⟨A, c, rfl, hn, hc, hA⟩ := h
  have hc' : c ≤ 9223372036854775807 := hc
  have hA' := Lib.hid hA
  have hlen' := Lib.hid hlen
  clear hA hlen
  by_cases hbad : ls.length < 1 ∨ 6 < ls.length
  · have hfin := Lib.hid (show schemeRight ls = false from by rw [schemeRight, if_pos hbad])
    by_cases h1 : ls.length < 1
    · have h1' : decide ((ls.length : Int) < 1) = true := by simp; omega
      go_enter Try.func48, Try.ntmps48
      go_wp2
      go_ret
      exact ⟨ret_bool hfin.out.symm, Below.refl _ _⟩
    · have h1' : decide ((ls.length : Int) < 1) = false := by simp; omega
      have h2' : decide (6 < (ls.length : Int)) = true := by simp; omega
      go_enter Try.func48, Try.ntmps48
      go_wp2
      go_ret
      exact ⟨ret_bool hfin.out.symm, Below.refl _ _⟩
  · have hfin := Lib.hid (show schemeRight ls = if levelsGo ls.length 0 0 [] none ls then nestAll ls else false from by rw [schemeRight, if_neg hbad])
    have h1' : decide ((ls.length : Int) < 1) = false := by simp; omega
    have h2' : decide (6 < (ls.length : Int)) = false := by simp; omega
    have h6 : ls.length ≤ 6 := by omega
    have h6' : 1 ≤ ls.length := by omega
    have hmm := @run_makeMap Try.prog
    clear hbad
    go_enter Try.func48, Try.ntmps48
    go_wp2
    go_loopw [3, 19] (fun lv iv wr => ∃ (k lab : Nat) (names : List ByteArray) (prev : Option Int), k ≤ ls.length ∧ lab ≤ 200 ∧ iv = .int .i64 k ∧ lv = .int .i64 lab ∧ Below w.heap.size w wr ∧ SetM Try.prog 9 4 encStr wr w.heap.size k names ∧ Hid (prev = if k = 0 then none else some (ls.getD (k - 1) Level.zero).pre) ∧ Hid (levelsGo ls.length 0 0 [] none ls = levelsGo ls.length k lab names prev (ls.drop k)))
      (fun _ iv _ => ls.length - (intOf iv).toNat)
    case atStart => exact ⟨0, 0, [], none, by omega, by omega, rfl, rfl, (Below.refl _ _).alloc (Nat.le_refl _) _, SetM.made _ _ _ _ _, rfl, rfl⟩
    case round =>
      obtain ⟨k, lab, names, prev, hk, hlab, rfl, rfl, hbw, hset, hpv, hrl⟩ := hrel
      clear hmm
      have hmb : w.heap.size < wr.heap.size := hset.lt
      by_cases hlt : k < ls.length
      · obtain ⟨b, off, rfl, hb, hi⟩ := hA'.out (by omega)
        have hst := (hi k hlt).stays (Stays.of hbw) hb
        have hdr := Lib.hid (drop_getD ls Level.zero k hlt)
        have hbr : b < wr.heap.size := Nat.lt_of_lt_of_le hb hbw.size
        have hll := hlen'.out (ls.getD k Level.zero) (by rw [List.getD_eq_getElem?_getD, List.getElem?_eq_getElem hlt]; exact List.getElem_mem hlt)
        have hi' := Lib.hid hi
        clear hi hA'
        generalize hq : ls.getD k Level.zero = q at hst hdr hll
        have hq' := Lib.hid hq
        clear hq
        obtain ⟨ln, lp, lls, lm, lc⟩ := q
        obtain ⟨g0, g1, ⟨lv, g2, g5⟩, g3, g4, hns⟩ := hst
        simp only at g0 g1 g2 g3 g4 g5 hns hll
        have g5' := Lib.hid g5
        obtain ⟨A2, c2, rfl, hn2, hc2, hA2⟩ := g5
        clear hA2
        have hset1 := hset.alloc (.cells #[.string ln, .int .i64 lp, .slice A2 lls.length c2, .int .i64 lm, .int .i64 lc] 54)
        have hW : Below w.heap.size w (wr.alloc (.cells #[.string ln, .int .i64 lp, .slice A2 lls.length c2, .int .i64 lm, .int .i64 lc] 54)) := hbw.alloc hbw.size _
        have hW2 : Below wr.heap.size wr (wr.alloc (.cells #[.string ln, .int .i64 lp, .slice A2 lls.length c2, .int .i64 lm, .int .i64 lc] 54)) := (Below.refl _ _).alloc (Nat.le_refl _) _
        have hBk := Lib.hid (Blk.new wr 54 #[.string ln, .int .i64 lp, .slice A2 lls.length c2, .int .i64 lm, .int .i64 lc])
        obtain ⟨kl, hkl⟩ := keyOf_str ln hns
        have hlook := hset1.look keyed9 Try.underlying115 Try.underlying4 (zero4 _) ln hkl
        unfold encStr at hlook
        have hset1' := Lib.hid hset1
        have hkl' := Lib.hid hkl
        clear hset hset1 hkl
        by_cases c1 : 200 < lab + lls.length
        · have hfin2 := Lib.hid (show schemeRight ls = false from by rw [hfin.out, hrl.out, hdr.out, levelsGo_no (.inl c1)]; rfl)
          have c1' : decide (200 < (lab : Int) + (lls.length : Int)) = true := by simp; omega
          go_wp2
          go_ret
          exact ⟨ret_bool hfin2.out.symm, hW⟩
        have c1' : decide (200 < (lab : Int) + (lls.length : Int)) = false := by simp; omega
        cases c2' : memB ln names with
        | true =>
          have hfin2 := Lib.hid (show schemeRight ls = false from by rw [hfin.out, hrl.out, hdr.out, levelsGo_no (.inr (.inl c2'))]; rfl)
          go_wp2
          go_ret
          exact ⟨ret_bool hfin2.out.symm, hW⟩
        | false =>
          go_wp2_with fail
          refine (isLevel_any _ _ _ _ _ lls _ _ hns (g5'.out.stays (Stays.of hW2))).mono ?_
          rintro e w1 ⟨rfl, hb1⟩
          have hbw1 := hW.trans (hb1.mono (by simp; omega))
          have hset2 := Lib.hid (hset1'.out.below hb1)
          have hBk2 := Lib.hid (hBk.out.below hb1 (by simp))
          have hsz1 : wr.heap.size < w1.heap.size := hBk2.out.lt
          have x0 := hBk2.out.cell 0
          have x1 := hBk2.out.cell 1
          simp at x0 x1
          clear hb1 hlook
          cases c3 : isLevel ⟨ln, lp, lls, lm, lc⟩ ((k : Int) == (ls.length : Int) - 1) with
          | false =>
            have hfin2 := Lib.hid (show schemeRight ls = false from by rw [hfin.out, hrl.out, hdr.out, levelsGo_no (.inr (.inr c3))]; rfl)
            go_wp2
            go_ret
            exact ⟨ret_bool hfin2.out.symm, hbw1⟩
          | true =>
            have hno : ¬ levelNo ls.length k lab names ⟨ln, lp, lls, lm, lc⟩ := by unfold levelNo; simp [c2', c3]; omega
            have hno' := Lib.hid hno
            clear hno
            rcases Nat.eq_zero_or_pos k with hk0 | hk0
            · subst hk0
              have hpv0 : prev = none := hpv.out
              subst hpv0
              have hfin3 := Lib.hid (show levelsGo ls.length 0 0 [] none ls = levelsGo ls.length (0 + 1) (lab + lls.length) (ln :: names) (some lp) (ls.drop (0 + 1)) from by rw [hrl.out, hdr.out, levelsGo_yes hno'.out rfl])
              have hd0 : decide ((0 : Int) < 0) = false := by decide
              go_wp2
              go_quiet (fail)
              have hset3 : SetM Try.prog 9 4 encStr (w1.drewN nq) w.heap.size 0 names := hset2.out
              obtain ⟨w3, hput, hset4, hgr⟩ := hset3.put keyed9 Try.underlying115 Try.underlying4 (by unfold maxLen; omega) encStr_inj ln hkl'.out
              unfold encStr at hput
              have hbw3 : Below w.heap.size w w3 := (below_n hbw1 nq).grown hgr (below_n hbw1 nq).size (by simp)
              have hset4' := Lib.hid hset4
              clear hset3 hset4 hgr
              go_wp2
              go_roundw
              case rel => exact ⟨0 + 1, lab + lls.length, ln :: names, some lp, by omega, by omega, by go_num, by go_num, hbw3, hset4'.out, (by show some lp = some (ls.getD 0 Level.zero).pre; rw [hq'.out]), hfin3⟩
              case measure => simp [intOf]; omega
            · obtain ⟨j, rfl⟩ : ∃ j, k = j + 1 := ⟨k - 1, by omega⟩
              have hpr := (hi'.out j (by omega)).stays (Stays.of hbw1) hb
              have hpv2 : Hid (prev = some (ls.getD j Level.zero).pre) := hpv.out
              generalize ls.getD j Level.zero = r at hpr hpv2
              obtain ⟨rn, rp, rl, rm, rc⟩ := r
              obtain ⟨_, p1, _⟩ := hpr
              simp only at p1 hpv2
              have hb3 : b < w1.heap.size := by omega
              have i1 : IntKind.i64.wrap ((j : Int) + 1 - 1) = j := by rw [IntWalk.i64_in _ (by omega)]; exact Int.add_sub_cancel _ _
              have i2 : (0 : Int) ≤ (j : Int) + 1 - 1 := by omega
              have i3 : ((j : Int) + 1 - 1).toNat = j := by omega
              have i4 : decide ((0 : Int) < (j : Int) + 1) = true := by simp <;> omega
              by_cases hlp : rp < lp
              · have hfin2 := Lib.hid (show schemeRight ls = false from by rw [hfin.out, hrl.out, hdr.out, levelsGo_no2 (by rw [hpv2.out]; simpa [preNo] using hlp)]; rfl)
                go_wp2
                go_quiet (fail)
                go_wp2
                go_ret
                exact ⟨ret_bool hfin2.out.symm, below_n hbw1 _⟩
              have hlp' : decide (rp < lp) = false := by simpa using hlp
              have hfin3 := Lib.hid (show levelsGo ls.length 0 0 [] none ls = levelsGo ls.length (j + 1 + 1) (lab + lls.length) (ln :: names) (some lp) (ls.drop (j + 1 + 1)) from by rw [hrl.out, hdr.out, levelsGo_yes hno'.out (by rw [hpv2.out]; simpa [preNo] using hlp)])
              go_wp2
              go_quiet (fail)
              have hset3 : SetM Try.prog 9 4 encStr (w1.drewN nq) w.heap.size (j + 1) names := hset2.out
              obtain ⟨w3, hput, hset4, hgr⟩ := hset3.put keyed9 Try.underlying115 Try.underlying4 (by unfold maxLen; omega) encStr_inj ln hkl'.out
              unfold encStr at hput
              have hbw3 : Below w.heap.size w w3 := (below_n hbw1 nq).grown hgr (below_n hbw1 nq).size (by simp)
              have hset4' := Lib.hid hset4
              clear hset3 hset4 hgr
              go_wp2
              go_roundw
              case rel => exact ⟨(j + 1) + 1, lab + lls.length, ln :: names, some lp, by omega, by omega, by go_num, by go_num, hbw3, hset4'.out, (by show some lp = some (ls.getD (j + 1) Level.zero).pre; rw [hq'.out]), hfin3⟩
              case measure => simp [intOf]; omega
      · have hgo := Lib.hid (show levelsGo ls.length 0 0 [] none ls = true from by rw [hrl.out, List.drop_of_length_le (by omega)]; cases prev <;> rfl)
        have hfin2 := Lib.hid (show schemeRight ls = nestAll ls from by rw [hfin.out, hgo.out]; rfl)
        clear hset hpv hrl
        obtain ⟨wo, rfl⟩ : ∃ wo : World, wo = wr := ⟨_, rfl⟩
        go_wp2
        go_loopw [67] (fun iv wr => ∃ (k : Nat), k + 1 ≤ ls.length ∧ iv = .int .i64 k ∧ Below w.heap.size w wr ∧ Hid (nestAll ls = nestAll (ls.drop k)))
          (fun iv _ => ls.length - (intOf iv).toNat)
        case atStart => exact ⟨0, by omega, rfl, hbw, rfl⟩
        case round =>
          obtain ⟨q, hq, rfl, hbq, hrq⟩ := hrel
          have hsq : w.heap.size ≤ wr.heap.size := hbq.size
          by_cases hlq : q + 1 < ls.length
          · obtain ⟨b, off, rfl, hb, hi⟩ := hA'.out (by omega)
            have hst := (hi q (by omega)).stays (Stays.of hbq) hb
            have hst2 := (hi (q + 1) hlq).stays (Stays.of hbq) hb
            obtain ⟨f1, f2, f3, f4, f5⟩ := levelsGo_pair hgo.out (by simp) q hlq
            have f1' := isLevel_size f1
            have hdr := Lib.hid ((drop_getD ls Level.zero q (by omega)).trans (congrArg (List.cons _) (drop_getD ls Level.zero (q + 1) hlq)))
            have hdr2 := Lib.hid (drop_getD ls Level.zero (q + 1) hlq)
            have hbr : b < wr.heap.size := by omega
            have hi' := Lib.hid hi
            clear hi hA' f1
            generalize ls.getD q Level.zero = r1 at hst hdr f1' f2 f4
            generalize ls.getD (q + 1) Level.zero = r2 at hst2 hdr hdr2 f2 f3 f5
            obtain ⟨an, ap, al, am, ac⟩ := r1
            obtain ⟨bn, bp, bl, bm, bc⟩ := r2
            obtain ⟨g0, g1, ⟨lv, g2, g5⟩, g3, g4, hns⟩ := hst
            obtain ⟨k0, k1, ⟨lv2, k2, k5⟩, k3, k4, hns2⟩ := hst2
            simp only at g0 g1 g2 g3 g4 g5 k0 k1 k2 k3 k4 k5 f1' f2 f3 f4 f5
            have g5' := Lib.hid g5
            have k5' := Lib.hid k5
            obtain ⟨A2, c2, rfl, hn2, hc2, hA2⟩ := g5
            obtain ⟨A3, c3, rfl, hn3, hc3, hA3⟩ := k5
            clear hA2 hA3
            have f1'' := Lib.hid f1'
            have f2' := Lib.hid f2
            have f3' := Lib.hid f3
            clear f1' f2 f3
            have hdw : Below wr.heap.size wr wr.drew := (Below.refl _ _).drew
            have i1 : IntKind.i64.wrap ((q : Int) + 1) = (q : Int) + 1 := IntWalk.i64_in _ (by omega)
            have i2 : (0 : Int) ≤ (q : Int) + 1 := by omega
            have i3 : ((q : Int) + 1).toNat = q + 1 := by omega
            have i4 : (q : Int) + 1 < (ls.length : Int) := by omega
            have i5 : (0 : Int) ≤ (q : Int) := by omega
            have i6 : (q : Int) < (ls.length : Int) := by omega
            go_wp2
            go_region_held3 (fun w' => w'.cell? ⟨b, off + q * 5, none⟩ = some (.string an) ∧ w'.cell? ⟨b, off + q * 5 + 1, none⟩ = some (.int .i64 ap) ∧ w'.cell? ⟨b, off + q * 5 + 2, none⟩ = some (.slice A2 al.length c2) ∧ w'.cell? ⟨b, off + q * 5 + 3, none⟩ = some (.int .i64 am) ∧ w'.cell? ⟨b, off + q * 5 + 4, none⟩ = some (.int .i64 ac) ∧
                w'.cell? ⟨b, off + (q + 1) * 5, none⟩ = some (.string bn) ∧ w'.cell? ⟨b, off + (q + 1) * 5 + 1, none⟩ = some (.int .i64 bp) ∧ w'.cell? ⟨b, off + (q + 1) * 5 + 2, none⟩ = some (.slice A3 bl.length c3) ∧ w'.cell? ⟨b, off + (q + 1) * 5 + 3, none⟩ = some (.int .i64 bm) ∧ w'.cell? ⟨b, off + (q + 1) * 5 + 4, none⟩ = some (.int .i64 bc))
              (first | go_keep | (refine ⟨?_, ?_, ?_, ?_, ?_, ?_, ?_, ?_, ?_, ?_⟩ <;> (rw [hb1.cell (by simp <;> omega)]; go_keep)))
              (first | (go_at_call 71; refine (isNested_any _ _ _ _ _ _ _ _ _ _ al bl _ (g5'.out.stays (Stays.of hdw)) (k5'.out.stays (Stays.of hdw)) (by omega) (by omega) f3'.out f2'.out (fun x hx => by rw [f1''.out x hx]; exact f2'.out)).mono ?_; rintro e w1 ⟨rfl, hb1⟩))
            have hbw1 : Below w.heap.size w w1 := hbq.drew.trans (hb1.mono (by simp; omega))
            clear hb1
            cases hne : isNested ⟨an, ap, al, am, ac⟩ ⟨bn, bp, bl, bm, bc⟩ with
            | false =>
              have hfin3 := Lib.hid (show schemeRight ls = false from by rw [hfin2.out, hrq.out, hdr.out, nestAll, hne]; rfl)
              go_wp2
              go_ret
              exact ⟨ret_bool hfin3.out.symm, hbw1⟩
            | true =>
              have hfin3 := Lib.hid (show nestAll ls = nestAll (ls.drop (q + 1)) from by rw [hrq.out, hdr.out, nestAll, hne, hdr2.out]; rfl)
              clear i1 i2 i3 i4 i5 i6
              go_wp2
              go_roundw
              case rel => exact ⟨q + 1, by omega, by go_num, hbw1, hfin3⟩
              case measure => simp [intOf]; omega
          · have hfin3 := Lib.hid (show schemeRight ls = true from by
              rw [hfin2.out, hrq.out, drop_getD ls Level.zero q (by omega), List.drop_of_length_le (by omega)]; rfl)
            go_wp2
            go_ret
            exact ⟨ret_bool hfin3.out.symm, hbq⟩
end Go.Proofs.Ythbnbfeolfkkaaa
