import Derived.Test.YteclineblddpbaaGreatDoorRC01
import Derived.Test.YteclineblddpbaaGreatDoorRC23
set_option linter.all false
set_option maxRecDepth 100000
set_option maxHeartbeats 0
namespace Go.Proofs.YteclineblddpbaaGreatDoorR
section
open Go Go.RowKit Go.Maps
abbrev csT (d : ChartD) (s a b p1 p2 p3 p4 : Nat) : List (Nat × Value):=[(p1,.pointer (some ⟨d.C,0,none⟩)),(p2,.int .i64 (s : Int)),(p3,.int .i64 (a : Int)),(p4,.int .i64 (b : Int))]
theorem LT.invT {d : ChartD} {l YB s a b p1 p2 p3 p4 : Nat} {W A : World} {O O2 : Nat -> Prop} {J : List PTree -> (Nat -> Prop) -> World -> Prop} {v : Value} {L : List Nat} {ys : List PTree} {Ds : List Nat} {cs : List (Nat × Value)} (h : LT d l YB (csT d s a b p1 p2 p3 p4 ++ cs) W O J v L ys Ds O2 A) (hc : ChartInv d O2 A) : InvT d s a b p1 p2 p3 p4 O2 A:=
 ⟨hc,(h.bx (p1,_) (by simp)).on,(h.bx (p2,_) (by simp)).on,(h.bx (p3,_) (by simp)).on,(h.bx (p4,_) (by simp)).on⟩
attribute [local go_sem] Oper.semAt_some
theorem fin_marks {d : ChartD} {l YB s a b p1 p2 p3 p4 : Nat} {W A : World} {O O2 : Nat -> Prop} {J : List PTree -> (Nat -> Prop) -> World -> Prop} {v : Value} {L : List Nat} {ys : List PTree} {Ds : List Nat} {cs : List (Nat × Value)} {F : (Nat -> Prop) -> World -> Prop} {tmps : Array Value} (h : LT d l YB (csT d s a b p1 p2 p3 p4 ++ cs) W O J v L ys Ds O2 A)
  (hJ : ∀ pre O A B,J pre O A -> (∀ b,O b -> b < A.heap.size) -> KeepB (MM d) W.heap.size A B -> J pre O B) (hc : ChartInv d O2 A) (hF : ∀ O3 W',J ys O3 W' -> F O3 W') :
  LeavesInM Fence.wide 0 Tryz.prog Tryz.f176 tmps (fun e W'=>(∃ v,e = Ending.returned v) /\ ∃ O',(∀ b,O' b -> O b \/ W.heap.size <= b) /\ (∀ b,O' b -> b < W'.heap.size) /\ KeepC (fun b=>O b \/ MM d b) W W' /\ InvT d s a b p1 p2 p3 p4 O' W' /\ F O' W') (marks Ds) .returning A:=
 leaves_marks Ds A h.nd (fun D hD=>(h.mks D hD).1) fun W' h1 h2 h3=>
  have ⟨m1,m2,m3,m4⟩:=h.marked hJ h1 h2 h3
  ⟨results_none rfl _ _ _,⟨_,rfl⟩,O2,m2,m3,m4,(InvT.still ..).keep O2 A W' (h.invT hc) h.lt (keepB_marks h1 h2 h3 (fun D hD=>(h.mks D hD).1) (fun _ _=>Nat.zero_le _) _),hF O2 W' m1⟩
theorem restN_pos {sy : Nat -> Nat -> Nat -> Nat} {tk : List Nat} : ∀ {its : List PItem} {a b : Nat},a <= b -> restN sy tk its a b ≠ 0 -> a + its.length <= b
 | [],a,b,h,_=>by simpa using h
 | i :: t,a,b,h,h0=>by
  rw [restN] at h0
  by_cases hl : b - a < t.length + 1
  ·rw [if_pos hl] at h0; exact absurd rfl h0
  ·simp only [List.length_cons]; omega
theorem trees_step {d : ChartD} {rk : Nat -> Nat} (ok : ChartOK d rk) {D : Nat} {tr : Nat -> Nat -> Nat -> List PTree} (hparts : PartsC d rk D tr) : TreesC d rk (D + 1) (treesStep d.g d.tk d.sy tr):=by
  intro s a b p1 p2 p3 p4 hs hrs hab hbt
  intro l J Jx O W hMl hl hinv _ hO hJ hJx hY h0
  replace hJ:=Hd hJ
  replace hJx:=Hd hJx
  replace hY:=Hd hY
  replace hparts:=Hd hparts
  have htl:=ok.tlen
  refine callsIn_wide.1 (callsIn_of_wp_marks (n:=0) Tryz.func176 rfl trivial (wpIn_wide.2 ?_))
  simp only [ptr4,Tryz.ntmps176,List.size_toArray,List.length_cons,List.length_nil,Nat.reduceAdd,Nat.reduceSub,Array.replicate_succ,Array.replicate_zero,List.push_toArray,List.append_toArray,List.nil_append,List.cons_append]
  obtain ⟨rv,hrc,hrn⟩:=hinv.1.1.crul s hs
  obtain ⟨A,c,rfl,hn,hcm,hA⟩:=hrn
  have hLen : Hid ((symRules d.g s).length <= 200):=Hd (Nat.le_trans (symTo_len _ _ _) ok.glen)
  have hLm : Hid (∀ r ∈ symRules d.g s,r < d.g.length /\ (d.g.getD r PRule.zero).left = s):=Hd fun r h=>symTo_mem h
  have hA:=Hd hA
  unfold maxLen at hcm
  have hxs : Hid (treesStep d.g d.tk d.sy tr s a b = (symRules d.g s).flatMap fun r=>if restN d.sy d.tk (ruleOf d.g r) a b = 0 then [] else (partsF d.sy d.tk tr (ruleOf d.g r) a b).map (PTree.node (r : Int) (a : Int) (b : Int))):=Hd rfl
  generalize treesStep d.g d.tk d.sy tr s a b = xs at *
  generalize symRules d.g s = L at *
  obtain ⟨W1,hW1⟩ : ∃ W1,W1 = W.alloc (.cells #[.func (.yield l) #[] #[]] 250):=⟨_,rfl⟩
  have hB1 : Hid (Below W.heap.size W W1):=Hd (by rw [hW1]; exact (Below.refl _ _).alloc (lQ _) _)
  have kY : Hid (Blk W1 W.heap.size 250 #[.func (.yield l) #[] #[]]):=Hd (by rw [hW1]; exact Blk.new _ _ _)
  have hp1:=hinv.2.1.2
  have hp2:=hinv.2.2.1.2
  have y1:=fun (u : Ups W1)=>((hB1.out.trans (u.up.mono hB1.out.size)).cell (p:=⟨p1,0,none⟩) (cell_lt hp1)).trans hp1
  have y2:=fun (u : Ups W1)=>((hB1.out.trans (u.up.mono hB1.out.size)).cell (p:=⟨p2,0,none⟩) (cell_lt hp2)).trans hp2
  have y3:=fun (u : Ups W1)=>((hB1.out.trans (u.up.mono hB1.out.size)).cell (p:=⟨d.C,1 + s,none⟩) (cell_lt hrc)).trans hrc
  have n0 : (0 : Int) <= (s : Int):=by omega
  have n1 : (s : Int) < 64:=by omega
  replace hinv:=Hd hinv
  clear hrc hp1 hp2
  go_upto_region 1 with fail
  rw [<- hW1]
  clear hW1
  refine wp_region_ups rfl (by kernel_rfl) ?_
  repeat (go_big_quiet_step (fail))
  refine wpQuiet_nil ?_
  rintro w' ⟨u,rfl⟩
  have hB2:=Hd (hB1.out.trans (u.up.mono hB1.out.size))
  have kY2:=Hd (kY.out.below u.up kY.out.lt)
  clear y1 y2 y3 kY hB1
  generalize u.wld = W2 at *
  clear u
  obtain ⟨YB,hYB⟩ : ∃ YB,YB = W.heap.size:=⟨_,rfl⟩
  rw [<- hYB] at kY2 ⊢
  have hYW : Hid (YB = W.heap.size):=Hd hYB
  clear hYB
  have hckB:=Hd (CKp.of_below hB2.out O)
  have hnc0:=hinv.out.1.noCells
  have hnc2 : NoCells (MM d) W2:=(hinv.out.1.below hB2.out).noCells
  have hstart : Hid (LT d l YB (csT d s a b p1 p2 p3 p4) W O J (.slice A L.length c) L [] [] O W2):=Hd {
    j:=hJ.out [] O W W2 h0 hO ((KeepM.of_below hB2.out).keepB _)
    bx:=fun p hp=>by
      simp only [csT,List.mem_cons,List.not_mem_nil,or_false] at hp
      rcases hp with rfl | rfl | rfl | rfl
      · exact (hinv.out.2.1.keep hckB.out (fun b h=>.inl h)).offM hnc2
      · exact (hinv.out.2.2.1.keep hckB.out (fun b h=>.inl h)).offM hnc2
      · exact (hinv.out.2.2.2.1.keep hckB.out (fun b h=>.inl h)).offM hnc2
      · exact (hinv.out.2.2.2.2.keep hckB.out (fun b h=>.inl h)).offM hnc2
    sub:=fun b h=>.inl h
    lt:=fun b h=>Nat.lt_of_lt_of_le (hO b h) hB2.out.size
    kc:=(KeepM.of_below hB2.out).keepC
    row:=(NatsO.keep ⟨A,c,rfl,hn,hcm,hA.out⟩ hckB.out (fun b h=>.inl h)).offM hnc2
    yb:=OneC.offM ⟨fun h=>by have:=hO _ h; have:=hYW.out; omega,kY2.out.cell 0⟩ hnc2
    nd:=List.nodup_nil
    mks:=fun D h=>by cases h }
  have hst2 : Hid (ChartInv d O W2):=Hd (hinv.out.1.below hB2.out)
  clear hnc0 hnc2
  clear kY2 hckB hB2 hA
  generalize hf : (fun r=>if restN d.sy d.tk (ruleOf d.g r) a b = 0 then [] else (partsF d.sy d.tk tr (ruleOf d.g r) a b).map (PTree.node (r : Int) (a : Int) (b : Int))) = f at *
  replace hf:=Hd hf
  go_wp2_with fail
  refine wp_loop (fun a' w'=>∃ (k : Nat) (u7 u9 u10 u11 u12 u13 u17 u18 u19 u20 u21 u22 u23 u24 u25 u26 u27 u28 u29 u30 u31 u32 u33 u34 u35 u36 u37 u38 u39 u40 u41 u42 u43 u53 : Value) (Ds : List Nat) (O2 : Nat -> Prop),a' = ⟨#[.func (.yield l) #[] #[],.pointer (some ⟨p1,0,none⟩),.pointer (some ⟨p2,0,none⟩),.pointer (some ⟨p3,0,none⟩),.pointer (some ⟨p4,0,none⟩),.pointer (some ⟨YB,0,none⟩),undef,u7,undef,u9,u10,u11,u12,u13,.slice A L.length c,.int .i64 (L.length : Int),.int .i64 (k : Int),u17,u18,u19,u20,u21,u22,u23,u24,u25,u26,u27,u28,u29,u30,u31,u32,u33,u34,u35,u36,u37,u38,u39,u40,u41,u42,u43,undef,undef,undef,undef,undef,undef,undef,undef,undef,u53],marks Ds⟩ /\ k <= L.length /\ Hid (LT d l YB (csT d s a b p1 p2 p3 p4) W O J (.slice A L.length c) L ((L.take k).flatMap f) Ds O2 w') /\ Hid (ChartInv d O2 w'))
    (fun a' _=>L.length - (intOf (a'.tmps.getD 16 undef)).toNat) ?start ?round
  case start=>
    refine ⟨0,?_⟩
    repeat (first | refine ⟨[],O,rfl,Nat.zero_le _,hstart,hst2⟩ | apply Exists.intro)
  case round=>
    rintro a' w' ⟨k,u7,u9,u10,u11,u12,u13,u17,u18,u19,u20,u21,u22,u23,u24,u25,u26,u27,u28,u29,u30,u31,u32,u33,u34,u35,u36,u37,u38,u39,u40,u41,u42,u43,u53,Ds,O2,rfl,hk,hlp,hci⟩
    rename World=>wr
    have nk0 : (0 : Int) <= (k : Int):=by omega
    by_cases hlt : k < L.length
    · have nk1 : (k : Int) < (L.length : Int):=by omega
      obtain ⟨bA,oA,hAe,hAb⟩ : ∃ bA oA,A = some ⟨bA,oA,none⟩ /\ wr.cell? ⟨bA,oA + k,none⟩ = some (.int .i64 ((L.getD k 0 : Nat) : Int)):=by
        obtain ⟨A',c',e,_,_,h⟩:=hlp.out.row
        cases e
        obtain ⟨bA,oA,e,_,_,h⟩:=h (by omega)
        exact ⟨bA,oA,e,h k hlt⟩
      subst hAe
      obtain ⟨r,hr⟩ : ∃ r,r = L.getD k 0:=⟨_,rfl⟩
      rw [<- hr] at hAb
      have hrm : Hid (r ∈ L /\ L.take (k + 1) = L.take k ++ [r]):=Hd (by
        rw [hr,getD_at _ _ _ hlt]
        exact ⟨List.getElem_mem _,List.take_succ_eq_append_getElem hlt⟩)
      clear hr
      obtain ⟨hrg,hrl⟩:=hLm.out r hrm.out.1
      go_upto_region 4 with fail
      obtain ⟨w1,hw1⟩ : ∃ w1,w1 = wr.alloc (.cells #[.int .i64 (r : Int)] 3):=⟨_,rfl⟩
      have hb1 : Below wr.heap.size wr w1:=by rw [hw1]; exact (Below.refl _ _).alloc (lQ _) _
      have kR1 : Blk w1 wr.heap.size 3 #[.int .i64 (r : Int)]:=by rw [hw1]; exact Blk.new _ _ _
      rw [<- hw1]
      clear hw1
      have hl1:=Hd (hlp.out.keepM hJ.out (KeepM.of_below hb1))
      have hc1:=Hd (hci.out.below hb1)
      obtain ⟨RB,hRB⟩ : ∃ RB,RB = wr.heap.size:=⟨_,rfl⟩
      rw [<- hRB] at kR1 ⊢
      have hRo : Hid (OneC (OM d O2) w1 RB (.int .i64 (r : Int))):=Hd (OneC.offM (d:=d) (O:=O2) ⟨fun h=>by have:=hlp.out.lt _ h; omega,kR1.cell 0⟩ hc1.out.noCells)
      clear hRB kR1 hb1 hAb hlp hci
      have hchn:=Hd (ok.chain r hrg)
      obtain ⟨vb,hbc,hbn⟩:=hc1.out.1.cbeg
      obtain ⟨Ab,cb,rfl,hbn1,hbn2,hAb⟩:=hbn
      have hbl:=ok.blen
      obtain ⟨bB,oB,rfl,hbB,_,hbi⟩:=hAb (by omega)
      have hbr : w1.cell? ⟨bB,oB + r,none⟩ = some (.int .i64 ((d.bg.getD r 0 : Nat) : Int)):=hbi r (by omega)
      obtain ⟨bg,hbg⟩ : ∃ bg,bg = d.bg.getD r 0:=⟨_,rfl⟩
      rw [<- hbg] at hbr hchn
      have hbgl : d.bg.length = d.g.length:=hbl
      replace hbg:=Hd hbg
      have nr0 : (0 : Int) <= (r : Int):=by omega
      have nr1 : (r : Int) < (d.bg.length : Int):=by omega
      clear hbi hAb hbgl hbl
      have i1:=hl1.out.bx (p1,.pointer (some ⟨d.C,0,none⟩)) (by simp)
      have i3:=hl1.out.bx (p3,.int .i64 (a : Int)) (by simp)
      have i4:=hl1.out.bx (p4,.int .i64 (b : Int)) (by simp)
      have i1c : w1.cell? ⟨p1,0,none⟩ = _:=i1.2
      have i3c : w1.cell? ⟨p3,0,none⟩ = _:=i3.2
      have i4c : w1.cell? ⟨p4,0,none⟩ = _:=i4.2
      have y1:=fun (u : Ups w1)=>(u.up.cell (p:=⟨p1,0,none⟩) (cell_lt i1c)).trans i1c
      have y3:=fun (u : Ups w1)=>(u.up.cell (p:=⟨p3,0,none⟩) (cell_lt i3c)).trans i3c
      have y4:=fun (u : Ups w1)=>(u.up.cell (p:=⟨p4,0,none⟩) (cell_lt i4c)).trans i4c
      have y5:=fun (u : Ups w1)=>(u.up.cell (p:=⟨RB,0,none⟩) (cell_lt hRo.out.2)).trans hRo.out.2
      have y6:=fun (u : Ups w1)=>(u.up.cell (p:=⟨d.C,65,none⟩) (cell_lt hbc)).trans hbc
      have y7:=fun (u : Ups w1)=>(u.up.cell (p:=⟨bB,oB + r,none⟩) (cell_lt hbr)).trans hbr
      clear i1 i3 i4
      refine wp_region_upst 10 rfl (by kernel_rfl) ?_
      simp only [tS,tZ,dS,dZ]
      repeat (go_big_quiet_step (fail))
      refine wpQuiet_nil ?_
      rintro w' ⟨u,rfl⟩
      have hl2:=Hd (hl1.out.keepM hJ.out (KeepM.of_below u.up))
      have hc2:=Hd (hc1.out.below u.up)
      have hR2:=Hd (hRo.out.keep (CKp.of_below u.up _) (fun b h=>.inl h))
      clear y1 y3 y4 y5 y6 y7 i1c i3c i4c hl1 hc1 hRo hbc hbr
      generalize u.wld = w2 at *
      clear u
      have hrest:=Hd (rest_any ok (D + 1) (ruleOf d.g r) bg a b O2 w2 hchn.out ⟨r,hrg,List.suffix_refl _⟩ (fun i hi hc=>by have:=ok.ranked r hrg i hi hc; rw [hrl] at this; omega) hab hbt hc2.out hl2.out.lt)
      go_wp2_with fail
      refine hrest.out.mono ?_
      rintro e w3 ⟨v3,rfl,hv3,hc3,hk3⟩
      have hl3:=Hd (hl2.out.keepM hJ.out hk3)
      have hR3:=Hd (hR2.out.keep (w':=w3) ((CKp.of_keepM hk3 hc2.out.noCells _)) (fun b h=>.inl h))
      replace hc3:=Hd hc3
      clear hrest hl2 hc2 hR2 hk3
      have hfr : Hid (f r = if restN d.sy d.tk (ruleOf d.g r) a b = 0 then [] else (partsF d.sy d.tk tr (ruleOf d.g r) a b).map (PTree.node (r : Int) (a : Int) (b : Int))):=Hd (by rw [<- hf.out])
      have hys : Hid ((L.take (k + 1)).flatMap f = (L.take k).flatMap f ++ f r):=Hd (by rw [hrm.out.2,List.flatMap_append]; simp)
      rcases hv3 with ⟨h0,A3,c3,rfl,_⟩ | ⟨h0,hl0,b3,off3,c3,rfl,_⟩
      · have hf0 : f r = []:=by rw [hfr.out,if_pos h0]
        rw [hf0,List.append_nil] at hys
        go_wp2_with fail
        refine ⟨⟨k + 1,?_⟩,?_⟩
        · have hl3' : Hid (LT d l YB (csT d s a b p1 p2 p3 p4) W O J (.slice (some ⟨bA,oA,none⟩) L.length c) L ((L.take (k + 1)).flatMap f) Ds O2 w3):=Hd (by rw [hys.out]; exact hl3.out)
          repeat (first | refine ⟨Ds,O2,rfl,by omega,hl3',hc3⟩ | apply Exists.intro)
        · simp [intOf]; omega
      · obtain ⟨vb,hbc,hbn⟩:=hc3.out.1.cbeg
        obtain ⟨Ab,cb,rfl,hbn1,hbn2,hAb⟩:=hbn
        have hbl:=ok.blen
        obtain ⟨bB,oB,rfl,hbB,_,hbi⟩:=hAb (by omega)
        have hbr : w3.cell? ⟨bB,oB + r,none⟩ = some (.int .i64 ((d.bg.getD r 0 : Nat) : Int)):=hbi r (by omega)
        rw [<- hbg.out] at hbr
        clear hbi hAb hbl
        have i1c : w3.cell? ⟨p1,0,none⟩ = some (.pointer (some ⟨d.C,0,none⟩)):=(hl3.out.bx (p1,.pointer (some ⟨d.C,0,none⟩)) (by simp)).2
        have i3c : w3.cell? ⟨p3,0,none⟩ = some (.int .i64 (a : Int)):=(hl3.out.bx (p3,.int .i64 (a : Int)) (by simp)).2
        have i4c : w3.cell? ⟨p4,0,none⟩ = some (.int .i64 (b : Int)):=(hl3.out.bx (p4,.int .i64 (b : Int)) (by simp)).2
        have y1:=fun (u : Ups w3)=>(u.up.cell (p:=⟨p1,0,none⟩) (cell_lt i1c)).trans i1c
        have y3:=fun (u : Ups w3)=>(u.up.cell (p:=⟨p3,0,none⟩) (cell_lt i3c)).trans i3c
        have y4:=fun (u : Ups w3)=>(u.up.cell (p:=⟨p4,0,none⟩) (cell_lt i4c)).trans i4c
        have y5:=fun (u : Ups w3)=>(u.up.cell (p:=⟨RB,0,none⟩) (cell_lt hR3.out.2)).trans hR3.out.2
        have y6:=fun (u : Ups w3)=>(u.up.cell (p:=⟨d.C,65,none⟩) (cell_lt hbc)).trans hbc
        have y7:=fun (u : Ups w3)=>(u.up.cell (p:=⟨bB,oB + r,none⟩) (cell_lt hbr)).trans hbr
        have hc1 : ((1 : Int) == 0) = false:=rfl
        go_upto_region 5 with fail
        refine wp_region_upst 10 rfl (by kernel_rfl) ?_
        simp only [tS,tZ,dS,dZ]
        repeat (go_big_quiet_step (fail))
        refine wpQuiet_nil ?_
        rintro w' ⟨u,rfl⟩
        have hl4:=Hd (hl3.out.keepM hJ.out (KeepM.of_below u.up))
        have hc4:=Hd (hc3.out.below u.up)
        have hR4:=Hd (hR3.out.keep (CKp.of_below u.up _) (fun b h=>.inl h))
        clear y1 y3 y4 y5 y6 y7 i1c i3c i4c hl3 hc3 hR3 hbc hbr
        generalize u.wld = w4 at *
        clear u
        obtain ⟨ve,hec,hen⟩:=hc4.out.1.cend
        obtain ⟨Ae,ce,rfl,hen1,hen2,hAe⟩:=hen
        have hbgl:=hchn.out.lt
        obtain ⟨bE,oE,rfl,hbE,_,hei⟩:=hAe (by omega)
        have hee : EndAt w4 bE (oE + bg * 4) (d.E.getD bg PEnd.zero):=hei bg hbgl
        have hmake:=Hd (partsMake d.C bg a b (d.E.getD bg PEnd.zero) w4 _ d.E.length ce hbgl hec ⟨bE,oE,rfl,hee⟩)
        clear hei hAe hec hee
        go_wp2_with fail
        refine hmake.out.mono ?_
        rintro e w5 ⟨q1,q2,q3,q4,rfl,hq,kq1,kq2,kq3,kq4,hb5⟩
        clear hmake
        have hl5:=Hd (hl4.out.keepM hJ.out (KeepM.of_below hb5))
        have hc5:=Hd (hc4.out.below hb5)
        have hR5:=Hd (hR4.out.keep (CKp.of_below hb5 _) (fun b h=>.inl h))
        have hqO : Hid (∀ q,w4.heap.size <= q -> ¬ O2 q):=Hd fun q h1 h2=>by have:=hl4.out.lt q h2; omega
        have hinvP : Hid (InvP d (d.E.getD bg PEnd.zero) a b q1 q2 q3 q4 O2 w5):=Hd ⟨hc5.out,⟨hqO.out _ hq.1,kq1⟩,⟨hqO.out _ hq.2.1,kq2.cell 0⟩,⟨hqO.out _ hq.2.2.1,kq3.cell 0⟩,⟨hqO.out _ hq.2.2.2,kq4.cell 0⟩⟩
        clear hl4 hc4 hR4 hqO kq1 kq2 kq3 kq4 hb5
        have hpfx : Hid (∀ zs,zs <+: f r -> (L.take k).flatMap f ++ zs <+: xs):=Hd (fun zs hz=>by
          obtain ⟨t,ht⟩:=hz
          refine ⟨t ++ (L.drop (k + 1)).flatMap f,?_⟩
          have h1 : xs = L.flatMap f:=hxs.out
          rw [h1]
          conv=>rhs; rw [<- List.take_append_drop (k + 1) L,List.flatMap_append,hys.out,<- ht]
          simp)
        rw [if_neg h0] at hfr
        have hDlt : Hid (∀ D' ∈ Ds,D' < w5.heap.size):=Hd fun D' h=>heap_lt (hl5.out.mks D' h).1
        have hYd:=hY
        have hl5' : Hid (LT d l YB (csT d s a b p1 p2 p3 p4 ++ [(RB,.int .i64 (r : Int))]) W O J (.slice (some ⟨bA,oA,none⟩) L.length c) L ((L.take k).flatMap f ++ ([] : List (List PTree)).map (PTree.node (r : Int) (a : Int) (b : Int))) Ds O2 w5):=Hd (by
          rw [List.map_nil,List.append_nil]
          exact hl5.out.box hR5.out)
        have hWs : Hid (W.heap.size <= w5.heap.size):=Hd hl5.out.kc.size
        go_wp2_with fail
        refine (wpIn_wide (n:=0)).1 (range_M (gf:=197) (lb:=ptr4 q1 q2 q3 q4) rfl (enters_of Tryz.func197 (by kernel_rfl) rfl) (hparts.out (ruleOf d.g r) bg a b q1 q2 q3 q4 hchn.out ⟨r,hrg,List.suffix_refl _⟩ (fun i hi hc=>by have:=ok.ranked r hrg i hi hc; rw [hrl] at this; omega) (by have:=restN_pos (sy:=d.sy) (tk:=d.tk) (its:=ruleOf d.g r) hab h0; omega) hbt) trivial
          (fun _ _ _ _=>trivial) (fun b h=>hc5.out.MM_lt h) (InvP.still ..) VSub.still (fun O x vs W h=>by obtain ⟨v,h,_⟩:=h; rw [h]; rfl)
          (fun pre O3 w'=>LT d l YB (csT d s a b p1 p2 p3 p4 ++ [(RB,.int .i64 (r : Int))]) W O J (.slice (some ⟨bA,oA,none⟩) L.length c) L ((L.take k).flatMap f ++ pre.map (PTree.node (r : Int) (a : Int) (b : Int))) Ds O3 w')
          (fun c' pre O3 w'=>c' = .ret /\ ∃ ys,ys <+: xs /\ LT d l YB (csT d s a b p1 p2 p3 p4 ++ [(RB,.int .i64 (r : Int))]) W O Jx (.slice (some ⟨bA,oA,none⟩) L.length c) L ys Ds O3 w')
          (fun pre=>⟨fun O3 A B h hb hk=>h.calm hJ.out hWs.out hDlt.out hk⟩) (fun c' pre=>⟨fun O3 A B h hb hk=>let ⟨h1,ys,h2,h3⟩:=h; ⟨h1,ys,h2,h3.calm hJx.out hWs.out hDlt.out hk⟩⟩)
          O2 hl5.out.lt hinvP.out hl5'.out
          (fun x vs O3 a' w'=>∃ sv x6 x9 x10 x11 x12 x13 x14 x15 x16 x17 x18 x19 x20 x21 x22 x23 x24 x25 x26 x27 x28 x29 x30 x31 x32 x33 x34 x35 x36 x37 x38 x39 x40 x41 x42 x43 x45 x46 x47 x48 x49 x50 x51 x52 x53,vs = #[sv] /\ a' = ⟨#[.func (.yield l) #[] #[],.pointer (some ⟨p1,0,none⟩),.pointer (some ⟨p2,0,none⟩),.pointer (some ⟨p3,0,none⟩),.pointer (some ⟨p4,0,none⟩),.pointer (some ⟨YB,0,none⟩),x6,.pointer (some ⟨RB,0,none⟩),sv,x9,x10,x11,x12,x13,x14,x15,x16,x17,x18,x19,x20,x21,x22,x23,x24,x25,x26,x27,x28,x29,x30,x31,x32,x33,x34,x35,x36,x37,x38,x39,x40,x41,x42,x43,sv,x45,x46,x47,x48,x49,x50,x51,x52,x53],[]⟩) (fun _ _ _=>⟨fun _ _ _ h _ _=>h⟩) ?assign ?body ?done ?stop)
        case assign=>
          rintro l' pre x vs O4 W4 K hi hv hvx hO4 hK
          obtain ⟨sv,rfl,hsv⟩:=hvx
          gi_wp2_with (fail)
          refine hK _ O4 W4 (fun b h=>.inl h) hO4 (KeepC.refl _ _) hv ⟨sv,rfl,hsv⟩ hi (fun k o _ h _=>h) ?_
          refine ⟨sv,?_⟩
          repeat (first | refine ⟨rfl,rfl⟩ | apply Exists.intro)
        case body=>
          rintro l' pre x vs O4 a' W4 ⟨sv,x6,x9,x10,x11,x12,x13,x14,x15,x16,x17,x18,x19,x20,x21,x22,x23,x24,x25,x26,x27,x28,x29,x30,x31,x32,x33,x34,x35,x36,x37,x38,x39,x40,x41,x42,x43,x45,x46,x47,x48,x49,x50,x51,x52,x53,rfl,rfl⟩ hl' ⟨rr,hr⟩ hpre hi hv hvx hO4
          obtain ⟨sv',e,hsv⟩:=hvx
          cases e
          obtain ⟨Asv,csv,rfl,hsv2⟩:=hsv
          have hsv : SubV O4 W4 x (.slice Asv x.length csv):=⟨_,_,rfl,hsv2⟩
          clear hsv2
          have hlw:=heap_lt hr
          have i0c : W4.cell? ⟨YB,0,none⟩ = some (.func (.yield l) #[] #[]):=hi.yb.2
          have i2c : W4.cell? ⟨RB,0,none⟩ = some (.int .i64 (r : Int)):=(hi.bx (RB,.int .i64 (r : Int)) (by simp)).2
          have i3c : W4.cell? ⟨p3,0,none⟩ = some (.int .i64 (a : Int)):=(hi.bx (p3,.int .i64 (a : Int)) (by simp)).2
          have i4c : W4.cell? ⟨p4,0,none⟩ = some (.int .i64 (b : Int)):=(hi.bx (p4,.int .i64 (b : Int)) (by simp)).2
          have hpre2 : (L.take k).flatMap f ++ (pre ++ [x]).map (PTree.node (r : Int) (a : Int) (b : Int)) <+: xs:=hpfx.out _ (by rw [hfr.out]; exact List.IsPrefix.map _ hpre)
          have hpre3 : ((L.take k).flatMap f ++ pre.map (PTree.node (r : Int) (a : Int) (b : Int))) ++ [PTree.node (r : Int) (a : Int) (b : Int) x] <+: xs:=by simpa using hpre2
          have hy:=hY.out _ (PTree.node (r : Int) (a : Int) (b : Int) x) #[.agg #[.int .i64 (r : Int),.int .i64 (a : Int),.int .i64 (b : Int),.slice Asv x.length csv]] O4 W4 hpre3 hi.j (hi.invT hv.1) ⟨_,rfl,TrAt.of_sub hsv⟩ hO4 hi.kc.size
          obtain ⟨fn,tmps,assign,body,hy,hR⟩:=hy
          have hi':=Hd hi
          have hv':=Hd hv
          clear hi hv hsv hpre2
          gi_wp2_with (fail)
          refine ⟨rfl,(roundIn_in hR).mono ?_⟩
          clear hR hy i0c i2c i3c i4c
          rintro e w6 ⟨O5,g1,g2,g3,g4,g5,hcase⟩
          have hinv6 : Hid (InvP d (d.E.getD bg PEnd.zero) a b q1 q2 q3 q4 O5 w6):=Hd ⟨g4.1,⟨notO g1 (cell_lt hv'.out.2.1.2.c0) hv'.out.2.1.1,hv'.out.2.1.2.ckp hv'.out.2.1.1 (CKp.of_keepC g3)⟩,hv'.out.2.2.1.keep (CKp.of_keepC g3) g1,hv'.out.2.2.2.1.keep (CKp.of_keepC g3) g1,hv'.out.2.2.2.2.keep (CKp.of_keepC g3) g1⟩
          rcases hcase with ⟨rfl,hj6⟩ | ⟨rfl,hj6⟩
          · have hl6:=hi'.out.yielded g1 g2 g3 g5 (J':=J) (ys':=(L.take k).flatMap f ++ (pre ++ [x]).map (PTree.node (r : Int) (a : Int) (b : Int))) (by simpa using hj6)
            gi_wp2_with (fail)
            exact ⟨O5,g1,g2,g3,hinv6.out,fun k' o h1 h2 h3=>g5 k' o (Nat.le_trans hWs.out h1) h2 h3,hl6⟩
          · have hl6:=hi'.out.yielded g1 g2 g3 g5 hj6
            gi_wp2_with (fail)
            exact ⟨O5,g1,g2,g3,hinv6.out,fun k' o h1 h2 h3=>g5 k' o (Nat.le_trans hWs.out h1) h2 h3,rfl,_,hpre3,hl6⟩
        case done=>
          rintro D' O' W4 hD hO1 hO2 hkc hinv' hi hdf
          have hM:=hinv'.1.MM_deferred hdf
          have hl6:=Hd ((hi.push hdf hWs.out hD hDlt.out hM).unbox)
          rw [<- hfr.out,<- hys.out] at hl6
          have hc6:=Hd hinv'.1
          clear hi hinv' hkc
          simp only
          go_wp2_with fail
          refine ⟨⟨k + 1,?_⟩,?_⟩
          · repeat (first | refine ⟨D' :: Ds,O',rfl,by omega,hl6,hc6⟩ | apply Exists.intro)
          · simp [intOf]; omega
        case stop=>
          rintro D' c' pre O' W4 hD hO1 hO2 hkc hinv' hpre ⟨rfl,ys,hys2,hlt2⟩ hdf
          have hM:=hinv'.1.MM_deferred hdf
          have hl6:=Hd ((hlt2.push hdf hWs.out hD hDlt.out hM).unbox)
          have hc6:=Hd hinv'.1
          refine wpIn_wide.2 ?_
          simp only
          go_wp2_with fail
          exact fin_marks hl6.out hJx.out hc6.out fun O3 W' h=>.inr ⟨ys,hys2,h⟩
    · obtain rfl : k = L.length:=by omega
      rw [List.take_length,<- show xs = L.flatMap f from hxs.out] at hlp
      go_wp2_with fail
      exact fin_marks hlp.out hJ.out hci.out fun O3 W' h=>.inl h
end
section
open Go Go.RowKit Go.Maps
attribute [local go_sem] Oper.semAt_some
theorem parts_nil {d : ChartD} {tr : Nat -> Nat -> Nat -> List PTree} {n a b p1 p2 p3 p4 : Nat} (hn : Chain d.E [] n) :
  SeqM Tryz.prog 197 (ptr4 p1 p2 p3 p4) (MM d) (InvP d (d.E.getD n PEnd.zero) a b p1 p2 p3 p4) VSub (fun _=>True) (partsF d.sy d.tk tr [] a b):=by
 intro l J Jx O W hMl hl hinv _ hO hJ hJx hY h0
 rw [partsF] at hY ⊢
 obtain ⟨W1,hW1⟩ : ∃ W1,W1 = W.alloc (.cells #[.func (.yield l) #[] #[]] 272):=⟨_,rfl⟩
 have hB1 : Below W.heap.size W W1:=by rw [hW1]; exact (Below.refl _ _).alloc (lQ _) _
 have kY : Blk W1 W.heap.size 272 #[.func (.yield l) #[] #[]]:=by rw [hW1]; exact Blk.new _ _ _
 have hk1 : KeepM (MM d) W W1:=KeepM.of_below hB1
 have hc1:=CKp.of_below hB1 O
 have hinv1 : InvP d (d.E.getD n PEnd.zero) a b p1 p2 p3 p4 O W1:=⟨hinv.1.below hB1,⟨hinv.2.1.1,hinv.2.1.2.ckp hinv.2.1.1 hc1⟩,hinv.2.2.1.keep hc1 (fun b h=>.inl h),hinv.2.2.2.1.keep hc1 (fun b h=>.inl h),hinv.2.2.2.2.keep hc1 (fun b h=>.inl h)⟩
 have hy:=hY [] [] #[.slice none 0 0] O W1 (by simp) (hJ [] O W W1 h0 hO (hk1.keepB _)) hinv1 ⟨_,rfl,none,0,rfl,Nat.zero_le _,⟨Nat.zero_le _,fun _=>rfl⟩,fun h=>absurd h (by simp)⟩ (fun b h=>Nat.lt_of_lt_of_le (hO b h) hB1.size) hB1.size
 obtain ⟨fn,tmps,assign,body,hy,hR⟩:=hy
 have x3 : W1.cell? ⟨p1,0 + 3,none⟩ = some (.int .i64 ((d.E.getD n PEnd.zero).items : Int)):=hinv1.2.1.2.c3
 rw [hn.2] at x3
 have y0:=kY.cell 0
 simp at y0 x3
 replace hJ:=Hd hJ
 replace hJx:=Hd hJx
 replace hinv1:=Hd hinv1
 replace hinv:=Hd hinv
 replace hB1:=Hd hB1
 replace hR:=Hd hR
 clear hY kY
 refine callsIn_wide.1 (callsIn_of_wp (n:=0) Tryz.func197 rfl trivial ?_)
 simp only [ptr4,Tryz.ntmps197,List.size_toArray,List.length_cons,List.length_nil,Nat.reduceAdd,Nat.reduceSub,Array.replicate_succ,Array.replicate_zero,List.push_toArray,List.append_toArray,List.nil_append,List.cons_append]
 subst hW1
 gi_wp2_with (fail)
 refine ⟨rfl,hR.out.mono ?_⟩
 rintro e w3 ⟨O3,h1,h2,h3,h4,_,hcase⟩
 have hO3 : ∀ b,O3 b -> O b \/ W.heap.size <= b:=fun b h=>(h1 b h).imp id fun h=>Nat.le_trans hB1.out.size h
 have hkc3 : KeepC (fun b=>O b \/ MM d b) W w3:=((KeepM.of_below hB1.out).keepC.wide (fun b h=>.inr h)).trans (fun b h=>.inl (.inl h)) h3
 rcases hcase with ⟨rfl,hj3⟩ | ⟨rfl,hj3⟩
 ·gi_wp2_with (fail)
  refine bodyPost_ret (results_none rfl _ _ _) rfl ?_
  exact ⟨⟨_,rfl⟩,O3,hO3,h2,hkc3,h4,.inl hj3⟩
 ·gi_wp2_with (fail)
  refine bodyPost_ret (results_none rfl _ _ _) rfl ?_
  exact ⟨⟨_,rfl⟩,O3,hO3,h2,hkc3,h4,.inr ⟨_,List.prefix_rfl,hj3⟩⟩
end
section
open Go Go.RowKit Go.Maps
def EP (d : ChartD) (p : Nat) (e : PEnd) (O : Nat -> Prop) (w : World) : Prop:=¬ OM d O p /\ EndAt w p 0 e
theorem EP.keep {d : ChartD} {p : Nat} {e : PEnd} {O O' : Nat -> Prop} {w w' : World} (h : EP d p e O w) (hk : CKp (OM d O) w w') (hO : ∀ b,O' b -> O b \/ w.heap.size <= b) : EP d p e O' w':=
 ⟨notO (fun b hb=>hb.elim (fun hb=>(hO b hb).imp .inl id) fun hm=>.inl (.inr hm)) (cell_lt h.2.c0) h.1,h.2.ckp h.1 hk⟩
abbrev csP (d : ChartD) (a b p2 p3 p4 : Nat) : List (Nat × Value):=[(p2,.pointer (some ⟨d.C,0,none⟩)),(p3,.int .i64 (a : Int)),(p4,.int .i64 (b : Int))]
theorem invP_of {d : ChartD} {l YB a b p1 p2 p3 p4 : Nat} {W A : World} {O O2 : Nat -> Prop} {α : Type} {J : List α -> (Nat -> Prop) -> World -> Prop} {v : Value} {L : List Nat} {ys : List α} {Ds : List Nat} {cs : List (Nat × Value)} {e : PEnd} (h : LT d l YB (csP d a b p2 p3 p4 ++ cs) W O J v L ys Ds O2 A) (hc : ChartInv d O2 A) (he : EP d p1 e O2 A) : InvP d e a b p1 p2 p3 p4 O2 A:=
 ⟨hc,⟨fun ho=>he.1 (.inl ho),he.2⟩,(h.bx (p2,_) (by simp)).on,(h.bx (p3,_) (by simp)).on,(h.bx (p4,_) (by simp)).on⟩
theorem startP {d : ChartD} {l a b p1 p2 p3 p4 : Nat} {W W1 : World} {O : Nat -> Prop} {J : List (List PTree) -> (Nat -> Prop) -> World -> Prop} {e : PEnd} (hinv : InvP d e a b p1 p2 p3 p4 O W) (h0 : J [] O W) (hO : ∀ b,O b -> b < W.heap.size) (hJ : ∀ pre O A B,J pre O A -> (∀ b,O b -> b < A.heap.size) -> KeepB (MM d) W.heap.size A B -> J pre O B)
  (hB : Below W.heap.size W W1) (kY : Blk W1 W.heap.size 272 #[.func (.yield l) #[] #[]]) : LT d l W.heap.size (csP d a b p2 p3 p4) W O J (.slice none 0 0) [] [] [] O W1 /\ EP d p1 e O W1 /\ ChartInv d O W1:=by
 have hc:=CKp.of_below hB O
 have hci:=hinv.1.below hB
 have hnc:=hci.noCells
 refine ⟨{ j:=hJ [] O W W1 h0 hO ((KeepM.of_below hB).keepB _),bx:=fun p hp=>?_,sub:=fun b h=>.inl h,lt:=fun b h=>Nat.lt_of_lt_of_le (hO b h) hB.size,kc:=(KeepM.of_below hB).keepC.wide (fun b h=>.inr h),row:=⟨none,0,rfl,Nat.zero_le _,Nat.zero_le _,fun h=>absurd h (by simp)⟩,yb:=OneC.offM ⟨fun h=>by have:=hO _ h; omega,kY.cell 0⟩ hnc,nd:=List.nodup_nil,mks:=fun D h=>by cases h },⟨fun hm=>hm.elim hinv.2.1.1 fun hm=>hnc p1 hm _ _ (hinv.2.1.2.ckp hinv.2.1.1 hc).c0,hinv.2.1.2.ckp hinv.2.1.1 hc⟩,hci⟩
 simp only [csP,List.mem_cons,List.not_mem_nil,or_false] at hp
 rcases hp with rfl | rfl | rfl
 ·exact (hinv.2.2.1.keep hc (fun b h=>.inl h)).offM hnc
 ·exact (hinv.2.2.2.1.keep hc (fun b h=>.inl h)).offM hnc
 ·exact (hinv.2.2.2.2.keep hc (fun b h=>.inl h)).offM hnc
theorem parts_cls {d : ChartD} {tr : Nat -> Nat -> Nat -> List PTree} {i : PItem} {t : List PItem} {n a b p1 p2 p3 p4 : Nat} (hn : Chain d.E (i :: t) n) (hcl : i.cls ≠ 0) (hc16 : i.cls < 65536) (ha : a + 1 <= 1000000) (hel : d.E.length <= 2000) (hil : t.length <= 200)
  (ih : ∀ q1 q2 q3 q4,SeqM Tryz.prog 197 (ptr4 q1 q2 q3 q4) (MM d) (InvP d (d.E.getD (d.E.getD n PEnd.zero).next PEnd.zero) (a + 1) b q1 q2 q3 q4) VSub (fun _=>True) (partsF d.sy d.tk tr t (a + 1) b)) :
  SeqM Tryz.prog 197 (ptr4 p1 p2 p3 p4) (MM d) (InvP d (d.E.getD n PEnd.zero) a b p1 p2 p3 p4) VSub (fun _=>True) (partsF d.sy d.tk tr (i :: t) a b):=by
 intro l J Jx O W hMl hl hinv _ hO hJ hJx hY h0
 rw [partsF,if_pos hcl] at hY ⊢
 generalize hxs : partsF d.sy d.tk tr t (a + 1) b = xs at *
 obtain ⟨e,he⟩ : ∃ e,e = d.E.getD n PEnd.zero:=⟨_,rfl⟩
 obtain ⟨W1,hW1⟩ : ∃ W1,W1 = W.alloc (.cells #[.func (.yield l) #[] #[]] 272):=⟨_,rfl⟩
 have hB1 : Below W.heap.size W W1:=by rw [hW1]; exact (Below.refl _ _).alloc (lQ _) _
 have kY : Blk W1 W.heap.size 272 #[.func (.yield l) #[] #[]]:=by rw [hW1]; exact Blk.new _ _ _
 have hek : e.item = i /\ e.items = t.length + 1 /\ Chain d.E t e.next:=by rw [he]; exact hn.2
 rw [<- he] at hinv hY ih ⊢
 obtain ⟨hs1,hs2,hs3⟩:=startP hinv h0 hO hJ hB1 kY
 obtain ⟨YB,hYB⟩ : ∃ YB,YB = W.heap.size:=⟨_,rfl⟩
 have hs1' : Hid (LT d l YB (csP d a b p2 p3 p4) W O J (.slice none 0 0) [] [] [] O W1):=Hd (by rw [hYB]; exact hs1)
 replace hs2:=Hd hs2
 replace hs3:=Hd hs3
 obtain ⟨he1,he2,he3⟩:=hek
 have hnx:=he3.lt
 replace he:=Hd he
 have x0 : W1.cell? ⟨p1,0,none⟩ = some (.int .u16 (i.cls : Int)):=by rw [<- he1]; exact hs2.out.2.c0
 have x2 : W1.cell? ⟨p1,2,none⟩ = some (.int .i64 (e.next : Int)):=by have:=hs2.out.2.c2; simpa using this
 have x3 : W1.cell? ⟨p1,3,none⟩ = some (.int .i64 ((t.length + 1 : Nat) : Int)):=by have:=hs2.out.2.c3; rw [he2] at this; simpa using this
 have y2 : W1.cell? ⟨p2,0,none⟩ = some (.pointer (some ⟨d.C,0,none⟩)):=(hs1'.out.bx (p2,_) (by simp)).2
 have y3 : W1.cell? ⟨p3,0,none⟩ = some (.int .i64 (a : Int)):=(hs1'.out.bx (p3,_) (by simp)).2
 have y4 : W1.cell? ⟨p4,0,none⟩ = some (.int .i64 (b : Int)):=(hs1'.out.bx (p4,_) (by simp)).2
 have y5 : W1.cell? ⟨YB,0,none⟩ = some (.func (.yield l) #[] #[]):=hs1'.out.yb.2
 replace hJ:=Hd hJ
 replace hJx:=Hd hJx
 replace hY:=Hd hY
 replace hinv:=Hd hinv
 replace hB1:=Hd hB1
 replace hxs:=Hd hxs
 replace ih:=Hd ih
 replace hn:=Hd hn
 replace he1:=Hd he1
 replace he2:=Hd he2
 clear hs1 kY
 obtain ⟨q,hq⟩ : ∃ q,q = t.length + 1:=⟨_,rfl⟩
 rw [<- hq] at x3
 have hq0 : ¬ (q : Int) = 0:=by omega
 have hcl0 : ¬ (i.cls : Int) = 0:=by omega
 replace hq:=Hd hq
 change Calls Tryz.prog 197 #[.func (.yield l) #[] #[],.pointer (some ⟨p1,0,none⟩),.pointer (some ⟨p2,0,none⟩),.pointer (some ⟨p3,0,none⟩),.pointer (some ⟨p4,0,none⟩)] W _
 go_enter Tryz.func197,Tryz.ntmps197
 go_upto_region 1 with fail
 rw [<- hW1,<- hYB]
 clear hW1 hYB
 go_upto_region 4 with fail
 obtain ⟨ve,hec,hen⟩:=hs3.out.1.cend
 obtain ⟨Ae,ce,rfl,hen1,hen2,hAe⟩:=hen
 obtain ⟨bE,oE,rfl,hbE,_,hei⟩:=hAe (by omega)
 have hee : EndAt W1 bE (oE + e.next * 4) (d.E.getD e.next PEnd.zero):=hei e.next hnx
 have hec':=Hd hec
 have hee':=Hd hee
 clear hei hAe hec hee
 have b2:=Hd y2
 have b3:=Hd y3
 have b4:=Hd y4
 have b5:=Hd y5
 have a2:=Hd x2
 refine wp_region_flow (C:=fun w2=>(w2.cell? ⟨p1,2,none⟩ = some (.int .i64 (e.next : Int)) /\ w2.cell? ⟨p2,0,none⟩ = some (.pointer (some ⟨d.C,0,none⟩))) /\ (w2.cell? ⟨p3,0,none⟩ = some (.int .i64 (a : Int)) /\ w2.cell? ⟨p4,0,none⟩ = some (.int .i64 (b : Int))) /\ w2.cell? ⟨YB,0,none⟩ = some (.func (.yield l) #[] #[])) [true,true,true,true,true,true,false,true] [6] _ (by kernel_rfl) (by kernel_rfl) (by kernel_rfl) rfl (by rfl) (by kernel_rfl)
  (fun w2 hb=>⟨⟨(hb.cell (p:=⟨p1,2,none⟩) (cell_lt a2.out)).trans a2.out,(hb.cell (p:=⟨p2,0,none⟩) (cell_lt b2.out)).trans b2.out⟩,⟨(hb.cell (p:=⟨p3,0,none⟩) (cell_lt b3.out)).trans b3.out,(hb.cell (p:=⟨p4,0,none⟩) (cell_lt b4.out)).trans b4.out⟩,(hb.cell (p:=⟨YB,0,none⟩) (cell_lt b5.out)).trans b5.out⟩) ?A1 ?q1 ?t1
 case q1=>
  intro S' hS hSC hne
  have z1:=fun (u : UpsC S')=>(hSC u.wld u.mem).1.1
  have z2:=fun (u : UpsC S')=>(hSC u.wld u.mem).1.2
  have z3:=fun (u : UpsC S')=>(hSC u.wld u.mem).2.1.1
  have z4:=fun (u : UpsC S')=>(hSC u.wld u.mem).2.1.2
  have z5:=fun (u : UpsC S')=>(hSC u.wld u.mem).2.2
  simp only [pickB,if_true,if_false,Bool.false_eq_true]
  repeat (go_big_quiet_step (fail))
  refine wpQuiet_nil ?_
  rfl
 simp only [pickB,if_true,if_false,Bool.false_eq_true,Bool.true_eq_false]
 refine mkL_cons rfl fun w3 hb3 Q' hQ'=>?_
 have hmake:=Hd (partsMake d.C e.next (a + 1) b (d.E.getD e.next PEnd.zero) w3 _ d.E.length ce hnx ((hb3.cell (p:=⟨d.C,66,none⟩) (cell_lt hec'.out)).trans hec'.out) ⟨bE,oE,rfl,⟨(hb3.cell (cell_lt hee'.out.c0)).trans hee'.out.c0,(hb3.cell (cell_lt hee'.out.c1)).trans hee'.out.c1,(hb3.cell (cell_lt hee'.out.c2)).trans hee'.out.c2,(hb3.cell (cell_lt hee'.out.c3)).trans hee'.out.c3⟩⟩)
 have hb3':=Hd hb3
 clear hb3
 go_wp2_with fail
 refine hmake.out.mono ?_
 rintro ed w4 ⟨q1,q2,q3,q4,rfl,hqs,kq1,kq2,kq3,kq4,hb4⟩
 clear hmake
 have hb4':=Hd (hb3'.out.trans (hb4.mono hb3'.out.size))
 clear hb4
 go_wp2_with fail
 have hCC : Hid (∀ w2,Below w4.heap.size w4 w2 -> Below W1.heap.size W1 w2):=Hd fun w2 h=>hb4'.out.trans (h.mono hb4'.out.size)
 refine hQ' _ _ rfl (fun w2 h2=>have hb:=hCC.out w2 h2; ⟨⟨(hb.cell (p:=⟨p1,2,none⟩) (cell_lt a2.out)).trans a2.out,(hb.cell (p:=⟨p2,0,none⟩) (cell_lt b2.out)).trans b2.out⟩,⟨(hb.cell (p:=⟨p3,0,none⟩) (cell_lt b3.out)).trans b3.out,(hb.cell (p:=⟨p4,0,none⟩) (cell_lt b4.out)).trans b4.out⟩,(hb.cell (p:=⟨YB,0,none⟩) (cell_lt b5.out)).trans b5.out⟩) ?_
 clear hQ'
 intro w5 hb5
 have hB5:=Hd (hCC.out w5 hb5)
 have hl5:=Hd (hs1'.out.keepM hJ.out (KeepM.of_below hB5.out))
 have hep5:=Hd (hs2.out.keep (CKp.of_below hB5.out _) (fun b h=>.inl h))
 have hc5:=Hd (hs3.out.below hB5.out)
 have hqO : Hid (∀ q,w3.heap.size <= q -> ¬ O q):=Hd fun q h1 h2=>by have h3:=hs1'.out.lt q h2; have:=hb3'.out.size; omega
 have hbC:=CKp.of_below hb5 O
 have hinvQ : Hid (InvP d (d.E.getD e.next PEnd.zero) (a + 1) b q1 q2 q3 q4 O w5):=Hd ⟨hc5.out,⟨hqO.out _ hqs.1,kq1.ckp (hqO.out _ hqs.1) hbC⟩,OneC.keep ⟨hqO.out _ hqs.2.1,kq2.cell 0⟩ hbC (fun b h=>.inl h),OneC.keep ⟨hqO.out _ hqs.2.2.1,kq3.cell 0⟩ hbC (fun b h=>.inl h),OneC.keep ⟨hqO.out _ hqs.2.2.2,kq4.cell 0⟩ hbC (fun b h=>.inl h)⟩
 have hWs : Hid (W.heap.size <= w5.heap.size):=Hd (Nat.le_trans hB1.out.size hB5.out.size)
 have hseq:=ih.out q1 q2 q3 q4 l (fun pre O3 w'=>LT d l YB (csP d a b p2 p3 p4) W O J (.slice none 0 0) [] pre [] O3 w' /\ EP d p1 e O3 w') (fun pre O3 w'=>LT d l YB (csP d a b p2 p3 p4) W O Jx (.slice none 0 0) [] pre [] O3 w' /\ EP d p1 e O3 w') O w5 hMl (Nat.lt_of_lt_of_le hl hWs.out) hinvQ.out trivial hl5.out.lt
  (fun pre O3 A B h hb hk=>⟨h.1.calm hJ.out hWs.out (fun D h=>by cases h) hk,h.2.keep (CKp.of_keepB_ hk) (fun b h=>.inl h)⟩)
  (fun pre O3 A B h hb hk=>⟨h.1.calm hJx.out hWs.out (fun D h=>by cases h) hk,h.2.keep (CKp.of_keepB_ hk) (fun b h=>.inl h)⟩)
  (fun pre x vs O3 W4 hpre hj hiv hv hO3 hsz=>by
   obtain ⟨fn,tmps,assign,body,hy,hR⟩:=hY.out pre x vs O3 W4 hpre hj.1.j (invP_of (cs:=[]) (by simpa using hj.1) hiv.1 hj.2) hv hO3 (Nat.le_trans hWs.out hsz)
   refine ⟨fn,tmps,assign,body,hy,hR.mono ?_⟩
   rintro e6 w6 ⟨O5,g1,g2,g3,g4,g5,hcase⟩
   have hep6 : EP d p1 e O5 w6:=hj.2.keep (CKp.of_keepC_ g3) g1
   have hinv6 : InvP d (d.E.getD e.next PEnd.zero) (a + 1) b q1 q2 q3 q4 O5 w6:=⟨g4.1,⟨notO g1 (cell_lt hiv.2.1.2.c0) hiv.2.1.1,hiv.2.1.2.ckp hiv.2.1.1 (CKp.of_keepC g3)⟩,hiv.2.2.1.keep (CKp.of_keepC g3) g1,hiv.2.2.2.1.keep (CKp.of_keepC g3) g1,hiv.2.2.2.2.keep (CKp.of_keepC g3) g1⟩
   refine ⟨O5,g1,g2,g3,hinv6,fun k o h1 h2 h3=>g5 k o (Nat.le_trans hWs.out h1) h2 h3,?_⟩
   rcases hcase with ⟨rfl,hj6⟩ | ⟨rfl,hj6⟩
   ·exact .inl ⟨rfl,hj.1.yielded g1 g2 g3 g5 hj6,hep6⟩
   ·exact .inr ⟨rfl,hj.1.yielded g1 g2 g3 g5 hj6,hep6⟩)
  ⟨hl5.out,hep5.out⟩
 replace hseq:=Hd hseq
 clear hinvQ hqO hbC hb5 kq1 kq2 kq3 kq4 hCC hb4' hb3' hec' hee' a2 b2 b3 b4 b5 x0 x2 x3 y2 y3 y4 y5
 go_wp2_with fail
 have hse : Calls Tryz.prog 197 #[.func (.yield l) #[] #[],.pointer (some ⟨q1,0,none⟩),.pointer (some ⟨q2,0,none⟩),.pointer (some ⟨q3,0,none⟩),.pointer (some ⟨q4,0,none⟩)] w5 _:=hseq.out
 refine hse.mono ?_
 rintro e7 w7 ⟨⟨v,rfl⟩,O7,k1,k2,k3,k4,hcase⟩
 clear hseq hse
 go_wp2_with fail
 refine bodyPost_ret (results_none rfl _ _ _) rfl ?_
 rcases hcase with ⟨hj,hep⟩ | ⟨pre,hpre,hj,hep⟩
 ·exact ⟨⟨_,rfl⟩,O7,hj.sub,hj.lt,hj.kc,invP_of (cs:=[]) (by simpa using hj) k4.1 hep,.inl hj.j⟩
 ·exact ⟨⟨_,rfl⟩,O7,hj.sub,hj.lt,hj.kc,invP_of (cs:=[]) (by simpa using hj) k4.1 hep,.inr ⟨_,hpre,hj.j⟩⟩
end
end Go.Proofs.YteclineblddpbaaGreatDoorR
