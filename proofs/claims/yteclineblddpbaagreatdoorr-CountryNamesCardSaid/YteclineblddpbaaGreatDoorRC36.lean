import Derived.Test.YteclineblddpbaaGreatDoorRC01
import Derived.Test.YteclineblddpbaaGreatDoorRC35
set_option linter.all false
set_option maxRecDepth 100000
set_option maxHeartbeats 0
namespace Go.Proofs.YteclineblddpbaaGreatDoorR
section
open Go Go.RowKit Go.Maps
def lenB (gl : List (List PWord)) : Bool:=gl.all fun l=>decide ((lineParts l).length = (lineRule l).right.length) && (lineParts l).all fun k=>decide (k < 11)
theorem read_len {c : Int} (hc : c = 1 \/ c = 2 \/ c = 3) : (gramP c).length = (gramR c).length /\ ∀ r,r < (gramR c).length -> ((gramP c).getD r []).length = (ruleOf (gramR c) r).length /\ ∀ k ∈ (gramP c).getD r [],k < 11:=by
 have h : lenB (gramL c) = true:=by
  rw [gramL_list]
  rcases hc with rfl | rfl | rfl <;> decide +kernel
 unfold gramP gramR ruleOf
 unfold lenB at h
 generalize gramL c = gl at *
 rw [List.length_map,List.length_map]
 refine ⟨rfl,fun r hr=>?_⟩
 rw [getD_at _ _ _ (by simpa using hr),getD_at _ _ _ (by simpa using hr),List.getElem_map,List.getElem_map]
 have:=List.all_eq_true.1 h _ (List.getElem_mem hr)
 simp only [Bool.and_eq_true,decide_eq_true_eq,List.all_eq_true] at this
 exact this
theorem RulesP.lt {P : Nat -> Prop} {w : World} {v : Value} {g : List PRule} (h : RulesP P w v g) : RulesP (fun b=>b < w.heap.size) w v g:=
 SlP.map h (lQ _) (fun _ hb _=>hb) fun _ _ _ _ _ _ hr=>⟨hr.1,let ⟨iv,h1,h2⟩:=hr.2; ⟨iv,h1,h2.keep (lQ _) (fun _ _ _ _ hc=>hc) fun _ hb _=>hb⟩⟩
theorem PartsP.lt {P : Nat -> Prop} {w : World} {v : Value} {g : List (List Nat)} (h : PartsP P w v g) : PartsP (fun b=>b < w.heap.size) w v g:=
 SlP.map h (lQ _) (fun _ hb _=>hb) fun _ _ _ _ _ _ hr=>let ⟨iv,h1,h2⟩:=hr; ⟨iv,h1,h2.keep (lQ _) (fun _ _ _ _ hc=>hc) fun _ hb _=>hb⟩
theorem RulesP.far {N : Nat} {Q : Nat -> Prop} {w w' : World} {v : Value} {g : List PRule} (h : RulesP (fun b=>b < N) w v g) (hb : Below N w w') (hq : ∀ b,b < N -> Q b) : RulesP Q w' v g:=
 have hc : ∀ b o v,b < N -> w.cell? ⟨b,o,none⟩ = some v -> w'.cell? ⟨b,o,none⟩ = some v:=fun b o v hl h=>(hb.cell (p:=⟨b,o,none⟩) hl).trans h
 SlP.map h hb.size (fun b _ hl=>hq b hl) fun _ _ _ _ hl _ hr=>⟨hc _ _ _ hl hr.1,let ⟨iv,h1,h2⟩:=hr.2; ⟨iv,hc _ _ _ hl h1,h2.keep hb.size (fun _ _ _ hl h=>hc _ _ _ hl h) fun b _ hl=>hq b hl⟩⟩
theorem PartsP.far {N : Nat} {Q : Nat -> Prop} {w w' : World} {v : Value} {g : List (List Nat)} (h : PartsP (fun b=>b < N) w v g) (hb : Below N w w') (hq : ∀ b,b < N -> Q b) : PartsP Q w' v g:=
 have hc : ∀ b o v,b < N -> w.cell? ⟨b,o,none⟩ = some v -> w'.cell? ⟨b,o,none⟩ = some v:=fun b o v hl h=>(hb.cell (p:=⟨b,o,none⟩) hl).trans h
 SlP.map h hb.size (fun b _ hl=>hq b hl) fun _ _ _ _ hl _ hr=>let ⟨iv,h1,h2⟩:=hr; ⟨iv,hc _ _ _ hl h1,h2.keep hb.size (fun _ _ _ hl h=>hc _ _ _ hl h) fun b _ hl=>hq b hl⟩
theorem IsToks.toksP {w w' : World} {v : Value} {l : List PTok} (h : IsToks w v l) (hb : Below w.heap.size w w') {Q : Nat -> Prop} (hq : ∀ b,b < w.heap.size -> Q b) : ToksP Q w' v l:=by
 obtain ⟨A,c,hv,hn,hc,hA⟩:=h
 refine ⟨A,c,hv,hn,hc,fun h0=>?_⟩
 obtain ⟨b,off,e,hl,hi⟩:=hA h0
 exact ⟨b,off,e,Nat.lt_of_lt_of_le hl hb.size,hq b hl,fun i hi'=>(hi i hi').stays (Stays.of hb) hl⟩
theorem longs_len (kd : Int) (s : ByteArray) : (longsOf kd s).length <= 40:=by
 have h : longsOf kd s = longsTo (table.filter (keepL kd s)) (table.filter (keepL kd s)).length:=by unfold longsTo longsOf; rw [List.take_length]
 rw [h]
 exact Nat.le_trans (longsTo_len _ _ (lQ _)) (kept_len _)
theorem idx161a (W : World) : Sem.run Tryz.prog (Instr.index 161 (.agg #[.int .u8 4,.int .u8 8]) (.int .i64 0)) W = .ok (.int .u8 4) W:=by kernel_rfl
theorem idx161b (W : World) : Sem.run Tryz.prog (Instr.index 161 (.agg #[.int .u8 4,.int .u8 8]) (.int .i64 1)) W = .ok (.int .u8 8) W:=by kernel_rfl
attribute [local go_sem] make_u16 idx161a idx161b
theorem read_any (c : Int) (sv v : Value) (s : List PTok) (n : Nat) (t : PTree) (w : World) (hc : c = 1 \/ c = 2 \/ c = 3) (hs : IsToks w sv s) (hsl : s.length <= 40) (hst : ∀ x ∈ s,x.text.size <= 60 /\ 0 <= x.cls /\ x.cls < 65536) (hright : s.all tokRightB = true) (hlet : ∀ x ∈ s,x.cls.toNat &&& 2 ≠ 0 -> 0 < x.text.size)
  (ht : TrAt (fun _=>False) w t v) (h : isTreeF (gramR c) (s.map fun t=>t.cls.toNat) n t 0 0 s.length = true) (hml : MaxL w) :
  Calls Tryz.prog 48 #[.int .u8 c,sv,v] w (ReadR c (readP (gatherF (gramR c) (gramP c) s n t zeros11)) w):=by
 have hof:=Hd (fun w'=>of_any c w' hc)
 have hlenP:=Hd (read_len hc)
 have hok:=Hd (gram_ok c hc)
 have hs':=Hd hs
 have ht':=Hd ht
 obtain ⟨At,tc,rfl,htn,htm,hit⟩:=hs
 obtain ⟨r,a,b,sub,sb,-,rfl,A,cA,rfl,-⟩:=ht.sub
 unfold maxLen at htm
 replace hit:=Hd hit
 replace hst:=Hd hst
 replace h:=Hd h
 replace hlet:=Hd hlet
 replace hc:=Hd hc
 clear ht
 obtain ⟨W1,hW1⟩ : ∃ W1,W1 = w.alloc (.cells #[.int .i64 r,.int .i64 a,.int .i64 b,.slice A sub.length cA] 34):=⟨_,rfl⟩
 have hb1 : Below w.heap.size w W1:=by rw [hW1]; exact (Below.refl _ _).alloc (lQ _) _
 have kT : Blk W1 w.heap.size 34 #[.int .i64 r,.int .i64 a,.int .i64 b,.slice A sub.length cA]:=by rw [hW1]; exact Blk.new _ _ _
 have ho1:=Hd (hof.out W1)
 have hs1 : W1.heap.size = w.heap.size + 1:=by rw [hW1]; simp
 go_enter Tryz.func48,Tryz.ntmps48
 go_upto_region 1 with fail
 rw [<- hW1]
 replace hW1:=Hd hW1
 obtain ⟨TB,hTB⟩ : ∃ TB,TB = w.heap.size:=⟨_,rfl⟩
 rw [<- hTB] at kT hs1 ⊢
 have hTBw : Hid (w.heap.size <= TB):=Hd (by omega)
 replace hTB:=Hd hTB
 go_wp2_with fail
 refine ho1.out.mono ?_
 rintro e W2 ⟨v2,rs,ps,rfl,⟨rv,pv,rfl,hgr⟩,hrs,hps,hb2⟩
 clear ho1
 obtain ⟨Ar,cr,rfl⟩:=hgr.own.form_
 obtain ⟨Ap,cp,rfl⟩:=hgr.ownp.form_
 have hrl : rs.length = (gramR c).length:=by rw [<- hrs,List.length_map]
 have hpl2 : ps.length = (gramR c).length:=by rw [<- hlenP.out.1,<- hps,List.length_map]
 rw [hrl,hpl2] at hgr ⊢
 have kT2:=Hd (kT.below hb2 kT.lt)
 have hb2':=Hd (hb1.trans (hb2.mono hb1.size))
 have hR2 : Hid (RulesP (fun b=>b < W2.heap.size) W2 (.slice Ar (gramR c).length cr) (gramR c)):=Hd (by
  have:=(hgr.rulesP (P:=fun _=>True) fun _ _=>trivial).lt
  rwa [hrs] at this)
 have hP2 : Hid (PartsP (fun b=>b < W2.heap.size) W2 (.slice Ap (gramR c).length cp) (gramP c)):=Hd (by
  have:=(hgr.parts (P:=fun _=>True) fun _ _=>trivial).lt
  rwa [hps] at this)
 have hw2 : Hid (Below W2.heap.size W2 W2):=Hd (Below.refl _ _)
 clear hgr kT hrl hpl2 hrs hps
 have hW12 : Hid (w.heap.size <= W1.heap.size):=Hd hb1.size
 obtain ⟨W3,hW3⟩ : ∃ W3,W3 = W2.alloc (.cells #[.slice Ar (gramR c).length cr,.slice Ap (gramR c).length cp] 56):=⟨_,rfl⟩
 have hb3 : Below W2.heap.size W2 W3:=by rw [hW3]; exact (Below.refl _ _).alloc (lQ _) _
 have kG3 : Hid (Blk W3 W2.heap.size 56 #[.slice Ar (gramR c).length cr,.slice Ap (gramR c).length cp]):=Hd (by rw [hW3]; exact Blk.new _ _ _)
 have kT3:=Hd (kT2.out.below hb3 kT2.out.lt)
 have hb3':=Hd (hb2'.out.trans (hb3.mono hb2'.out.size))
 have hw3:=Hd (hw2.out.trans (hb3.mono hw2.out.size))
 have htr:=Hd (tokens_right _ s W3 (hs'.out.stays (Stays.of hb3'.out)) (by omega) (fun x hx=>⟨by have:=(hst.out x hx).1; omega,(hst.out x hx).2⟩))
 rw [hright] at htr
 clear hb1 hb2 hb3 kT2 hb2'
 go_upto_region 2 with fail
 rw [<- hW3]
 clear hW3
 obtain ⟨GB,hGB⟩ : ∃ GB,GB = W2.heap.size:=⟨_,rfl⟩
 rw [<- hGB] at kG3 ⊢
 replace hGB:=Hd hGB
 go_wp2_with fail
 refine htr.out.mono ?_
 rintro e W4 ⟨rfl,hb4⟩
 clear htr
 have kG4:=Hd (kG3.out.below hb4 kG3.out.lt)
 have kT4:=Hd (kT3.out.below hb4 kT3.out.lt)
 have hb4':=Hd (hb3'.out.trans (hb4.mono hb3'.out.size))
 have hw4:=Hd (hw3.out.trans (hb4.mono hw3.out.size))
 clear hw3
 clear hb4 kG3 kT3 hb3'
 have hmk:=make_u16 s.length (by omega) W4
 obtain ⟨W5,hW5⟩ : ∃ W5,W5 = W4.alloc (.cells (madeCells #[.int .u16 0] s.length) 37):=⟨_,rfl⟩
 rw [<- hW5] at hmk
 have hb5 : Below W4.heap.size W4 W5:=by rw [hW5]; exact (Below.refl _ _).alloc (lQ _) _
 have kC5 : Hid (Blk W5 W4.heap.size 37 (madeCells #[.int .u16 0] s.length)):=Hd (by rw [hW5]; exact Blk.new _ _ _)
 have kG5:=Hd (kG4.out.below hb5 kG4.out.lt)
 have kT5:=Hd (kT4.out.below hb5 kT4.out.lt)
 have hb5':=Hd (hb4'.out.trans (hb5.mono hb4'.out.size))
 have hw5:=Hd (hw4.out.trans (hb5.mono hw4.out.size))
 have hW24 : Hid (W2.heap.size <= W4.heap.size):=Hd hw4.out.size
 clear hw4
 have hCB : Hid (GB < W4.heap.size /\ TB < W4.heap.size /\ w.heap.size <= W4.heap.size):=Hd ⟨kG4.out.lt,kT4.out.lt,hb4'.out.size⟩
 have hcl0 : Hid (ClsTo s 0 (madeCells #[.int .u16 0] s.length)):=Hd ⟨size_madeCells _ _,fun i hi=>absurd hi (by omega)⟩
 replace hW5:=Hd hW5
 clear hb5 kG4 kT4 hb4'
 obtain ⟨CB,hCBe⟩ : ∃ CB,CB = W4.heap.size:=⟨_,rfl⟩
 go_upto_region 5 with fail
 rw [<- hCBe] at kC5 hCB hW24 ⊢
 replace hCBe:=Hd hCBe
 clear hmk
 generalize madeCells #[.int .u16 0] s.length = cs0 at *
 go_wp2_with fail
 go_loopw [39] (fun iv wr=>∃ (k : Nat) (cs : Array Value),k <= s.length /\ iv = .int .i64 k /\ Hid (Below w.heap.size w wr) /\ Hid (Blk wr CB 37 cs) /\ Hid (ClsTo s k cs) /\ Hid (Blk wr GB 56 #[.slice Ar (gramR c).length cr,.slice Ap (gramR c).length cp]) /\ Hid (Blk wr TB 34 #[.int .i64 r,.int .i64 a,.int .i64 b,.slice A sub.length cA]) /\ Hid (Below W2.heap.size W2 wr))
  (fun iv _=>s.length - (intOf iv).toNat)
 case atStart=>exact ⟨0,cs0,by omega,rfl,hb5',kC5,hcl0,kG5,kT5,hw5⟩
 case round=>
  obtain ⟨k,cs,hk,rfl,hbr,kCr,hclr,kGr,kTr,hwr⟩:=hrel
  rename World=>wr
  clear hb5' kC5 hcl0 kG5 kT5 hw5
  have n0 : (0 : Int) <= (k : Int):=by omega
  by_cases hlt : k < s.length
  ·have n1 : (k : Int) < (s.length : Int):=by omega
   obtain ⟨bt,offt,rfl,hbt,hit⟩:=hit.out (by omega)
   have hix:=(hit k hlt).stays (Stays.of hbr.out) hbt
   have hnx:=Hd (hclr.out.step hlt)
   generalize s.getD k PTok.zero = x at *
   obtain ⟨tx,ln,po,cl⟩:=x
   obtain ⟨d0,d1,d2,d3⟩:=hix
   simp only at d0 d1 d2 d3 hnx
   obtain ⟨w2,hw2⟩ : ∃ w2,w2 = wr.alloc (.cells #[.string tx,.int .i64 ln,.int .i64 po,.int .u16 cl] 39):=⟨_,rfl⟩
   have hbw : Below wr.heap.size wr w2:=by rw [hw2]; exact (Below.refl _ _).alloc (lQ _) _
   have kX : Blk w2 wr.heap.size 39 #[.string tx,.int .i64 ln,.int .i64 po,.int .u16 cl]:=by rw [hw2]; exact Blk.new _ _ _
   have kC2:=Hd (kCr.out.below hbw kCr.out.lt)
   have kG2:=Hd (kGr.out.below hbw kGr.out.lt)
   have kT2:=Hd (kTr.out.below hbw kTr.out.lt)
   have hb2:=Hd (hbr.out.trans (hbw.mono hbr.out.size))
   have hwx:=Hd (hwr.out.trans (hbw.mono hwr.out.size))
   have hlC : CB < wr.heap.size:=kCr.out.lt
   go_upto_region 8 with fail
   rw [<- hw2]
   clear hw2 d0 d1 d2 d3 hbr kCr kGr kTr hwr hbw
   generalize wr.heap.size = XB at *
   have z3:=kX.cell 3
   simp at z3
   have hcsz : k < cs.size:=by rw [hclr.out.1]; exact hlt
   have zc:=kC2.out.cell k
   rw [Array.getElem?_eq_getElem hcsz] at zc
   have zf:=kC2.out.frozen k
   have zl:=kC2.out.lt
   have kC3:=Hd (kC2.out.set_ k (.int .u16 cl))
   have kG3:=Hd (kG2.out.far (p:=⟨CB,k,none⟩) (by have:=hCB.out; show GB ≠ CB; omega) (.int .u16 cl))
   have kT3:=Hd (kT2.out.far (p:=⟨CB,k,none⟩) (by have:=hCB.out; show TB ≠ CB; omega) (.int .u16 cl))
   have hw3:=Hd (below_setc hwx.out (b:=CB) (i:=k) (by have:=hW24.out; omega) (.int .u16 cl))
   have hb3:=Hd (below_setc hb2.out (b:=CB) (i:=k) (by have:=hCB.out; omega) (.int .u16 cl))
   go_wp2_with fail
   go_roundw
   case rel=>exact ⟨k + 1,_,by omega,by go_num,hb3,kC3,hnx,kG3,kT3,hw3⟩
   case measure=>simp [intOf]; omega
  ·obtain rfl : k = s.length:=by omega
   have hnat:=Hd (hclr.out.nats kCr.out (fun x hx=>(hst.out x hx).2.1) (by omega))
   have htcl : ∀ i,(s.map fun t=>t.cls.toNat).getD i 0 < 65536:=fun i=>by
    rw [List.getD_eq_getElem?_getD,List.getElem?_map]
    by_cases hi : i < s.length
    ·rw [List.getElem?_eq_getElem hi]
     have:=(hst.out _ (List.getElem_mem hi)).2
     simp only [Option.map_some,Option.getD_some]
     omega
    ·rw [List.getElem?_eq_none (by omega)]
     simp
   have hrt:=Hd (gright_true _ _ _ (gramR c) (s.map fun t=>t.cls.toNat) n t wr (hR2.out.far hwr.out fun _ _=>trivial) hok.out hnat.out (by simpa using hsl) htcl (TrAt.keep (CKp.of_below hbr.out _) (fun b h=>.inl h) _ _ ht'.out) (by simpa using h.out))
   have x0:=kGr.out.cell 0
   have t0:=kTr.out.cell 0
   have t1:=kTr.out.cell 1
   have t2:=kTr.out.cell 2
   have t3:=kTr.out.cell 3
   simp at x0 t0 t1 t2 t3
   go_wp2_with fail
   refine hrt.out.mono ?_
   rintro e W6 ⟨rfl,hb6⟩
   clear hrt x0 t0 t1 t2 t3 htcl hnat
   have kG6:=Hd (kGr.out.below hb6 kGr.out.lt)
   have kT6:=Hd (kTr.out.below hb6 kTr.out.lt)
   have hb6':=Hd (hbr.out.trans (hb6.mono hbr.out.size))
   have hw6:=Hd (hwr.out.trans (hb6.mono hwr.out.size))
   clear hb6 kCr kGr kTr hclr hbr hwr
   obtain ⟨W7,hW7⟩ : ∃ W7,W7 = W6.alloc (.cells zc11 109):=⟨_,rfl⟩
   have hb7 : Below W6.heap.size W6 W7:=by rw [hW7]; exact (Below.refl _ _).alloc (lQ _) _
   have hF7 : Hid (IsTexts11 W7 W6.heap.size zeros11):=Hd ⟨by rw [hW7]; exact Blk.new _ _ _,rfl⟩
   have kG7:=Hd (kG6.out.below hb7 kG6.out.lt)
   have kT7:=Hd (kT6.out.below hb7 kT6.out.lt)
   have hb7':=Hd (hb6'.out.trans (hb7.mono hb6'.out.size))
   have hw7:=Hd (hw6.out.trans (hb7.mono hw6.out.size))
   have hlF : Hid (W2.heap.size <= W6.heap.size /\ w.heap.size <= W6.heap.size /\ GB ≠ W6.heap.size /\ TB ≠ W6.heap.size):=Hd ⟨hw6.out.size,hb6'.out.size,Nat.ne_of_lt kG6.out.lt,Nat.ne_of_lt kT6.out.lt⟩
   clear hb7 hb6' hw6 kG6 kT6
   obtain ⟨F,hFe⟩ : ∃ F,F = W6.heap.size:=⟨_,rfl⟩
   go_upto_region 13 with fail
   simp only [zc11] at hW7
   rw [<- hW7,<- hFe]
   clear hW7
   rw [<- hFe] at hF7 hlF
   have hFlt : Hid (F < W7.heap.size):=Hd hF7.out.1.lt
   replace hFe:=Hd hFe
   have hgat:=Hd (gather_any (tk:=s.map fun t=>t.cls.toNat) (.slice Ar (gramR c).length cr) (.slice Ap (gramR c).length cp) (.slice At s.length tc) F hok.out.glen (fun r hr=>⟨(hok.out.rules r hr).1,fun i hi=>((hok.out.rules r hr).2.2 i hi).1⟩) hlenP.out (by simp) hsl (fun i=>by
     by_cases hi : i < s.length
     ·rw [getD_at _ _ _ hi]; exact (hst.out _ (List.getElem_mem hi)).1
     ·rw [List.getD_eq_getElem?_getD,List.getElem?_eq_none (by omega)]; exact Nat.zero_le _) (fun i hi2=>by
     by_cases hi : i < s.length
     ·rw [getD_at _ _ _ hi]
      rw [getD_at _ _ _ (by simpa using hi),List.getElem_map] at hi2
      exact hlet.out _ (List.getElem_mem hi) hi2
     ·rw [List.getD_eq_getElem?_getD,List.getElem?_eq_none (by simpa using hi)] at hi2
      simp at hi2)
    n t _ W7 0 0 s.length zeros11 (by simp) h.out (hR2.out.far hw7.out fun b hb=>by have:=hlF.out; omega) (hP2.out.far hw7.out fun b hb=>by have:=hlF.out; omega) (hs'.out.toksP hb7'.out fun b hb=>by have:=hlF.out; omega) (TrAt.keep (CKp.of_below hb7'.out _) (fun b hb=>.inr (by have:=hlF.out; omega)) _ _ ht'.out) hF7.out (fun j=>by
     have : (zeros11.getD j ⟨#[]⟩).size = 0:=by
      unfold zeros11
      rw [List.getD_eq_getElem?_getD,List.getElem?_replicate]
      split <;> rfl
     omega))
   obtain ⟨fd0,hfd0⟩ : ∃ fd0,fd0 = gatherF (gramR c) (gramP c) s n t zeros11:=⟨_,rfl⟩
   rw [<- hfd0] at hgat
   have x0:=kG7.out.cell 0
   have x1:=kG7.out.cell 1
   have t0:=kT7.out.cell 0
   have t1:=kT7.out.cell 1
   have t2:=kT7.out.cell 2
   have t3:=kT7.out.cell 3
   simp at x0 x1 t0 t1 t2 t3
   go_wp2_with fail
   refine hgat.out.mono ?_
   rintro e W8 ⟨rfl,hsf,hft,hsz⟩
   clear hgat x0 x1 t0 t1 t2 t3
   have hb8:=Hd (hb7'.out.trans (hsf.below (by have:=hlF.out; omega) (by have:=hb7'.out.size; omega)))
   have hf8:=Hd hft
   have hsz8:=Hd hsz
   have hFw : Hid (w.heap.size <= F):=Hd hlF.out.2.1
   clear hsf hft hsz hF7 kG7 kT7 hb7' hw7 hR2 hP2 hw2 hlet ht' hs' h hit hst hlenP hok hlF hFlt hCB hW24 hTBw hW12
   go_upto_region 15 with fail
   have hnext : Hid (∀ j,j ≠ 4 -> (fixName fd0 4).getD j ⟨#[]⟩ = fd0.getD j ⟨#[]⟩):=Hd fun j hj=>by
    unfold fixName
    rw [List.getD_eq_getElem?_getD,List.getElem?_set_ne (Ne.symm hj),<- List.getD_eq_getElem?_getD]
   have hnext2 : Hid (∀ j,j ≠ 8 -> (fixName (fixName fd0 4) 8).getD j ⟨#[]⟩ = (fixName fd0 4).getD j ⟨#[]⟩):=Hd fun j hj=>by
    conv=>lhs; unfold fixName
    rw [List.getD_eq_getElem?_getD,List.getElem?_set_ne (Ne.symm hj),<- List.getD_eq_getElem?_getD]
    rfl
   go_loopw [61] (fun iv wr=>∃ (k : Nat),k <= 2 /\ iv = .int .i64 k /\ Hid (Below w.heap.size w wr) /\ Hid (IsTexts11 wr F (if k = 0 then fd0 else if k = 1 then fixName fd0 4 else fixName (fixName fd0 4) 8)))
    (fun iv _=>2 - (intOf iv).toNat)
   case atStart=>exact ⟨0,by omega,rfl,hb8,hf8⟩
   case round=>
    obtain ⟨k,hk,rfl,hbr,hfr⟩:=hrel
    rename World=>wr
    clear hb8 hf8
    have hk3 : k = 0 \/ k = 1 \/ k = 2:=by omega
    rcases hk3 with rfl | rfl | rfl
    ·rw [if_pos rfl] at hfr
     have y4:=hfr.out.at_ (k:=4) (by omega)
     have zf:=hfr.out.1.frozen 4
     have zl:=hfr.out.1.lt
     have hnm:=Hd (name_of (fd0.getD 4 ⟨#[]⟩) wr (by have:=hsz8.out 4; omega))
     have hnf : Hid (fixName fd0 4 = fd0.set 4 (nameP (fd0.getD 4 ⟨#[]⟩)).1):=Hd rfl
     generalize fd0.getD 4 ⟨#[]⟩ = x at *
     generalize (nameP x).1 = nm at *
     generalize (nameP x).2 = nb at *
     go_wp2_with fail
     refine hnm.out.mono ?_
     rintro e w2 ⟨rfl,hbw⟩
     clear hnm y4 zf zl
     have hf2:=Hd (hfr.out.up hbw)
     have hb2:=Hd (hbr.out.trans (hbw.mono hbr.out.size))
     have y4:=hf2.out.at_ (k:=4) (by omega)
     have zf:=hf2.out.1.frozen 4
     have zl:=hf2.out.1.lt
     have hf3:=Hd (hf2.out.set_ 4 nm)
     rw [<- hnf.out] at hf3
     have hb3:=Hd (below_setc hb2.out (b:=F) (i:=4) hFw.out (.string nm))
     clear hbw hfr hbr
     go_wp2_with fail
     go_roundw
     case rel=>exact ⟨1,by omega,rfl,hb3,hf3⟩
     case measure=>simp [intOf]
    ·rw [if_neg (by decide),if_pos rfl] at hfr
     have hz8 : ((fixName fd0 4).getD 8 ⟨#[]⟩).size <= 1000000:=by rw [hnext.out 8 (by decide)]; have:=hsz8.out 8; omega
     have y4:=hfr.out.at_ (k:=8) (by omega)
     have zf:=hfr.out.1.frozen 8
     have zl:=hfr.out.1.lt
     have hnm:=Hd (name_of ((fixName fd0 4).getD 8 ⟨#[]⟩) wr hz8)
     have hnf : Hid (fixName (fixName fd0 4) 8 = (fixName fd0 4).set 8 (nameP ((fixName fd0 4).getD 8 ⟨#[]⟩)).1):=Hd rfl
     generalize (fixName fd0 4).getD 8 ⟨#[]⟩ = x at *
     generalize (nameP x).1 = nm at *
     generalize (nameP x).2 = nb at *
     go_wp2_with fail
     refine hnm.out.mono ?_
     rintro e w2 ⟨rfl,hbw⟩
     clear hnm y4 zf zl
     have hf2:=Hd (hfr.out.up hbw)
     have hb2:=Hd (hbr.out.trans (hbw.mono hbr.out.size))
     have y4:=hf2.out.at_ (k:=8) (by omega)
     have zf:=hf2.out.1.frozen 8
     have zl:=hf2.out.1.lt
     have hf3:=Hd (hf2.out.set_ 8 nm)
     rw [<- hnf.out] at hf3
     have hb3:=Hd (below_setc hb2.out (b:=F) (i:=8) hFw.out (.string nm))
     clear hbw hfr hbr
     go_wp2_with fail
     go_roundw
     case rel=>exact ⟨2,by omega,rfl,hb3,hf3⟩
     case measure=>simp [intOf]
    ·rw [if_neg (by decide),if_neg (by decide)] at hfr
     have hz10 : ((fixName (fixName fd0 4) 8).getD 10 ⟨#[]⟩).size <= 1000000:=by rw [hnext2.out 10 (by decide),hnext.out 10 (by decide)]; have:=hsz8.out 10; omega
     obtain ⟨fd2,hfd2⟩ : ∃ fd2,fd2 = fixName (fixName fd0 4) 8:=⟨_,rfl⟩
     rw [<- hfd2] at hfr hz10
     clear hnext hnext2
     have y10:=hfr.out.at_ (k:=10) (by omega)
     have hcf : Hid (fixCode fd2 = fd2.set 10 (delB (fd2.getD 10 ⟨#[]⟩))):=Hd rfl
     generalize fd2.getD 10 ⟨#[]⟩ = x at *
     have hra:=Hd (replaceAll_any x wr hz10 (hml.below ⟨hbr.out.os,hbr.out.tape,hbr.out.output,hbr.out.size,hbr.out.block⟩))
     go_wp2_with fail
     refine hra.out.mono ?_
     rintro e W9 ⟨rfl,hbw⟩
     generalize delB x = dx at *
     clear hra y10
     have hf9:=Hd (hfr.out.up hbw)
     have hb9:=Hd (hbr.out.trans (hbw.mono hbr.out.size))
     have y10:=hf9.out.at_ (k:=10) (by omega)
     have zf:=hf9.out.1.frozen 10
     have zl:=hf9.out.1.lt
     have hf10:=Hd (hf9.out.set_ 10 dx)
     rw [<- hcf.out] at hf10
     have hb10:=Hd (below_setc hb9.out (b:=F) (i:=10) hFw.out (.string dx))
     clear hbw hfr hbr
     go_upto_region 20 with fail
     clear y10 zf zl hcf hf9 hb9
     generalize W9.setCell ⟨F,10,none⟩ (.string dx) = W10 at *
     obtain ⟨fd3,hfd3⟩ : ∃ fd3,fd3 = fixCode fd2:=⟨_,rfl⟩
     rw [<- hfd3] at hf10
     have y3:=hf10.out.at_ (k:=3) (by omega)
     have hlo:=Hd (longs_any 1 (fd3.getD 3 ⟨#[]⟩) W10)
     have hfp : Hid (fixPre fd3 = (longsOf 1 (fd3.getD 3 ⟨#[]⟩)).foldl (fun f x=>f.set 3 x) fd3):=Hd rfl
     have hll : (longsOf 1 (fd3.getD 3 ⟨#[]⟩)).length <= 40:=longs_len _ _
     generalize longsOf 1 (fd3.getD 3 ⟨#[]⟩) = l at *
     generalize fd3.getD 3 ⟨#[]⟩ = x3 at *
     go_wp2_with fail
     refine hlo.out.mono ?_
     rintro e W11 ⟨vL,rfl,hoL,hbw⟩
     clear hlo y3
     have hTx:=hoL.textsO (O:=fun b=>b = F) (fun b hb=>by have:=hf10.out.1.lt; omega)
     obtain ⟨AL,cL,rfl,hnL,hcL,hiL⟩:=hTx
     unfold maxLen at hcL
     replace hiL:=Hd hiL
     have hf11:=Hd (hf10.out.up hbw)
     have hb11:=Hd (hb10.out.trans (hbw.mono hb10.out.size))
     have hS11 : Hid (SetF F W11 W11):=Hd (SetF.refl _ _)
     clear hbw hoL hf10 hb10
     go_wp2_with fail
     go_loopw [82] (fun iv wr=>∃ (k : Nat),k <= l.length /\ iv = .int .i64 k /\ Hid (SetF F W11 wr) /\ Hid (IsTexts11 wr F ((l.take k).foldl (fun f x=>f.set 3 x) fd3)))
      (fun iv _=>l.length - (intOf iv).toNat)
     case atStart=>exact ⟨0,by omega,rfl,hS11,hf11⟩
     case round=>
      obtain ⟨k,hk,rfl,hSr,hfr⟩:=hrel
      rename World=>wr
      clear hS11 hf11
      have n0 : (0 : Int) <= (k : Int):=by omega
      by_cases hlt : k < l.length
      ·have n1 : (k : Int) < (l.length : Int):=by omega
       obtain ⟨bL,oL,rfl,hbL,hbLF,hiL⟩:=hiL.out (by omega)
       have y0:=hSr.out.cell hbLF (hiL k hlt)
       have hnx : Hid ((l.take (k + 1)).foldl (fun f x=>f.set 3 x) fd3 = ((l.take k).foldl (fun f x=>f.set 3 x) fd3).set 3 (l.getD k ByteArray.empty)):=Hd (by
        rw [List.take_succ_eq_append_getElem hlt,List.foldl_append,getD_at _ _ _ hlt]; rfl)
       generalize l.getD k ByteArray.empty = y at *
       have y3:=hfr.out.at_ (k:=3) (by omega)
       have zf:=hfr.out.1.frozen 3
       have zl:=hfr.out.1.lt
       have hf3:=Hd (hfr.out.set_ 3 y)
       rw [<- hnx.out] at hf3
       have hS3:=Hd (hSr.out.set 3 (.string y))
       clear hiL
       go_wp2_with fail
       go_roundw
       case rel=>exact ⟨k + 1,by omega,by go_num,hS3,hf3⟩
       case measure=>simp [intOf]; omega
      ·obtain rfl : k = l.length:=by omega
       rw [List.take_length,<- hfp.out] at hfr
       have hb12:=Hd (hb11.out.trans (hSr.out.below hFw.out hb11.out.size))
       clear hb11 hSr hiL hfp
       obtain ⟨fd4,hfd4⟩ : ∃ fd4,fd4 = fixPre fd3:=⟨_,rfl⟩
       rw [<- hfd4] at hfr
       have hall : Hid (fd4 = fixAll fd0):=Hd (by rw [hfd4,hfd3,hfd2]; rfl)
       replace hfd4:=Hd hfd4
       replace hfd3:=Hd hfd3
       replace hfd2:=Hd hfd2
       have y5:=hfr.out.at_ (k:=5) (by omega)
       have hlo:=Hd (longs_any 2 (fd4.getD 5 ⟨#[]⟩) wr)
       have hsu : Hid (sufs fd4 = if (longsOf 2 (fd4.getD 5 ⟨#[]⟩)).length = 0 then [⟨#[]⟩] else longsOf 2 (fd4.getD 5 ⟨#[]⟩)):=Hd rfl
       have hl2 : (longsOf 2 (fd4.getD 5 ⟨#[]⟩)).length <= 40:=longs_len _ _
       generalize longsOf 2 (fd4.getD 5 ⟨#[]⟩) = l2 at *
       generalize fd4.getD 5 ⟨#[]⟩ = x5 at *
       go_wp2_with fail
       refine hlo.out.mono ?_
       rintro e W13 ⟨vS,rfl,hoS,hbw⟩
       clear hlo y5
       have hTx:=hoS.textsO (O:=fun b=>b = F) (fun b hb=>by have:=hfr.out.1.lt; omega)
       have hf13:=Hd (hfr.out.up hbw)
       have hb13:=Hd (hb12.out.trans (hbw.mono hb12.out.size))
       obtain ⟨AS,cS,rfl⟩:=hoS.form_
       replace hTx:=Hd hTx
       clear hbw hoS hfr hb12
       by_cases hl0 : l2.length = 0
       ·rw [if_pos hl0] at hsu
        have e0 : ((l2.length : Int) == 0) = true:=by rw [hl0]; rfl
        obtain ⟨W14,hW14⟩ : ∃ W14,W14 = W13.alloc (.cells #[.string ⟨#[]⟩] 9):=⟨_,rfl⟩
        have hb14 : Below W13.heap.size W13 W14:=by rw [hW14]; exact (Below.refl _ _).alloc (lQ _) _
        have kN : Blk W14 W13.heap.size 9 #[.string ⟨#[]⟩]:=by rw [hW14]; exact Blk.new _ _ _
        have hbS:=Hd (hb13.out.trans (hb14.mono hb13.out.size))
        have hfS:=Hd (hf13.out.up hb14)
        have hcS : Hid (∀ i,i < 1 -> W14.cell? ⟨W13.heap.size,0 + i,none⟩ = some (.string (([(⟨#[]⟩ : ByteArray)]).getD i ByteArray.empty))):=Hd fun i hi=>by
         obtain rfl : i = 0:=by omega
         exact kN.cell 0
        have hbSF : Hid (W13.heap.size ≠ F):=Hd (by have:=hf13.out.1.lt; omega)
        have hFS : Hid (F < W14.heap.size):=Hd hfS.out.1.lt
        have hf4l : Hid (fd4.length = 11):=Hd hf13.out.2
        have hbSW : Hid (W13.heap.size < W14.heap.size):=Hd kN.lt
        have hwW : Hid (w.heap.size <= W14.heap.size):=Hd hbS.out.size
        obtain ⟨i42,hi42,hz0,hz1,hz2⟩:=info_parts info42
        obtain ⟨bS,hbSe⟩ : ∃ bS,bS = W13.heap.size:=⟨_,rfl⟩
        clear hTx hb13 hf13 hb14 kN
        replace hl0:=Hd hl0
        go_upto_region 28 with fail
        rw [<- hW14,<- hbSe]
        rw [<- hbSe] at hcS hbSF hbSW
        replace hW14:=Hd hW14
        replace hbSe:=Hd hbSe
        go_wp2_with fail
        go_loopw [19,98] (fun ov iv wr=>∃ (k : Nat) (ms : List MRead) (fdk : List ByteArray),k <= 1 /\ iv = .int .i64 k /\ Hid (Below w.heap.size w wr) /\ Hid (IsTexts11 wr F fdk) /\ Hid (∀ x,fdk.set 5 x = fd4.set 5 x) /\ Hid (OwnReads W14.heap.size wr ov ms) /\ Hid (ms.map (·.ps) = (([(⟨#[]⟩ : ByteArray)]).take k).map fun x=>ptsTo (fd4.set 5 x) 11) /\ Hid (∀ m ∈ ms,m.c = c) /\ Hid (∀ i,i < 1 -> wr.cell? ⟨bS,0 + i,none⟩ = some (.string (([(⟨#[]⟩ : ByteArray)]).getD i ByteArray.empty))) /\ Hid (W14.heap.size <= wr.heap.size))
         (fun _ iv _=>1 - (intOf iv).toNat)
        case atStart=>exact ⟨0,[],fd4,by omega,rfl,hbS,hfS,Hd fun _=>rfl,Hd OwnL.nil_,Hd rfl,Hd (fun _ h=>by cases h),hcS,Hd (lQ _)⟩
        case round=>
         obtain ⟨k,ms,fdk,hk,rfl,hbr,hfr,hset,hown,hms,hmc,hcl,hWS⟩:=hrel
         rename World=>wr
         clear hbS hfS hcS
         have n0 : (0 : Int) <= (k : Int):=by omega
         obtain ⟨A3,c3,rfl⟩:=hown.out.form_
         have hml2 : ms.length = k:=by
          have:=congrArg List.length hms.out
          rw [List.length_map,List.length_map,List.length_take] at this
          have hL : ([(⟨#[]⟩ : ByteArray)]).length = 1:=rfl
          omega
         have hms40 : ms.length <= 40:=by omega
         replace hml2:=Hd hml2
         by_cases hlt : k < 1
         ·have n1 : (k : Int) < (1 : Int):=by omega
          have y0:=hcl.out k hlt
          try simp only [Nat.zero_add] at y0
          have hnx : Hid ((([(⟨#[]⟩ : ByteArray)]).take (k + 1)).map (fun x=>ptsTo (fd4.set 5 x) 11) = ms.map (·.ps) ++ [ptsTo (fd4.set 5 (([(⟨#[]⟩ : ByteArray)]).getD k ByteArray.empty)) 11]):=Hd (by
           rw [hms.out,List.take_succ_eq_append_getElem (show k < ([(⟨#[]⟩ : ByteArray)]).length from hlt),List.map_append,getD_at _ _ _ (show k < ([(⟨#[]⟩ : ByteArray)]).length from hlt)]; rfl)
          generalize ([(⟨#[]⟩ : ByteArray)]).getD k ByteArray.empty = y at *
          have y5:=hfr.out.at_ (k:=5) (by omega)
          have zf:=hfr.out.1.frozen 5
          have zl:=hfr.out.1.lt
          have hf2:=Hd (hfr.out.set_ 5 y)
          rw [hset.out y] at hf2
          have hb2:=Hd (below_setc hbr.out (b:=F) (i:=5) hFw.out (.string y))
          have hown2:=Hd (hown.out.keep rdIn_inner (Keeps.set_ wr ⟨F,5,none⟩ (.string y) (by show ¬ W14.heap.size <= F; have:=hFS.out; omega)))
          have hS2 : SetF F wr (wr.setCell ⟨F,5,none⟩ (.string y)):=(SetF.refl _ _).set 5 _
          have hcl2 : Hid (∀ i,i < 1 -> (wr.setCell ⟨F,5,none⟩ (.string y)).cell? ⟨bS,0 + i,none⟩ = some (.string (([(⟨#[]⟩ : ByteArray)]).getD i ByteArray.empty))):=Hd fun i hi=>hS2.cell hbSF.out (hcl.out i hi)
          have hWS2 : Hid (W14.heap.size <= (wr.setCell ⟨F,5,none⟩ (.string y)).heap.size):=Hd (Nat.le_trans hWS.out hS2.size)
          go_upto_region 33 with fail
          clear y0 y5 zf zl hS2 hfr hbr hown hcl hWS hms
          generalize wr.setCell ⟨F,5,none⟩ (.string y) = w2 at *
          have hif : (Tryz.prog.info? 109).map (·.size) = some (((fd4.set 5 y).map Value.string).toArray).size:=by rw [info109]; simp [hf4l.out]
          have hp9:=parts90 (fd4.set 5 y) (by rw [List.length_set]; exact hf4l.out) w2
          obtain ⟨pts,hpts⟩ : ∃ pts,pts = ptsTo (fd4.set 5 y) 11:=⟨_,rfl⟩
          rw [<- hpts] at hnx hp9
          replace hpts:=Hd hpts
          replace hp9:=Hd hp9
          have hrow:=hf2.out.1
          obtain ⟨cs,hcs⟩ : ∃ cs,cs = ((fd4.set 5 y).map Value.string).toArray:=⟨_,rfl⟩
          replace hp9:=hp9.out
          rw [<- hcs] at hp9 hrow hif
          replace hcs:=Hd hcs
          replace hp9:=Hd hp9
          apply wp_region_lit
          iterate 6 go_step
          refine wpList_load_row rfl 109 (.tmp 13) rfl F rfl 109 cs (0,0) _ hrow Tryz.underlying109 rfl hif ?_
          simp only [Act.put,sX,sZ,sS]
          clear hrow hif
          go_wp2_with fail
          refine hp9.out.mono ?_
          rintro e w3 ⟨v9,rfl,hpo,hb3⟩
          clear hp9
          obtain ⟨A9,c9,rfl⟩:=hpo.form_
          have hbA : Hid (Below w2.heap.size w2 (w3.alloc (.cells #[.int .u8 c,.slice A9 pts.length c9] 42))):=Hd (hb3.alloc hb3.size _)
          have hb3A : Below w3.heap.size w3 (w3.alloc (.cells #[.int .u8 c,.slice A9 pts.length c9] 42)):=(Below.refl _ _).alloc (lQ _) _
          have hoA:=Hd (hown2.out.keep rdIn_inner (Keeps.of_below hbA.out _))
          have hNb : Hid (∀ h,(Value.slice A3 ms.length c3).ownBlock = some h -> W14.heap.size <= h /\ h < w2.heap.size):=Hd fun h e=>hown2.out.1.lt h e
          have hain : Hid (rdIn (fun b=>W14.heap.size <= b /\ some b ≠ (Value.slice A3 ms.length c3).ownBlock) (w3.alloc (.cells #[.int .u8 c,.slice A9 pts.length c9] 42)) ⟨c,.slice A9 pts.length c9,pts⟩):=Hd (rdIn_inner.keep (a:=(⟨c,.slice A9 pts.length c9,pts⟩ : MRead)) (OwnParts.rdIn_ hpo (P:=fun b=>W14.heap.size <= b /\ some b ≠ (Value.slice A3 ms.length c3).ownBlock) (fun b hb=>⟨by have:=hWS2.out; omega,fun e=>by have:=hNb.out b e.symm; omega⟩) c) (Keeps.of_below hb3A _) fun _ _ h=>h)
          have hfA:=Hd (hf2.out.up hbA.out)
          have hclA : Hid (∀ i,i < 1 -> (w3.alloc (.cells #[.int .u8 c,.slice A9 pts.length c9] 42)).cell? ⟨bS,0 + i,none⟩ = some (.string (([(⟨#[]⟩ : ByteArray)]).getD i ByteArray.empty))):=Hd fun i hi=>(hbA.out.cell (p:=⟨bS,0 + i,none⟩) (by have:=hbSW.out; have:=hWS2.out; show bS < _; omega)).trans (hcl2.out i hi)
          have hsA : Hid (W14.heap.size <= (w3.alloc (.cells #[.int .u8 c,.slice A9 pts.length c9] 42)).heap.size):=Hd (Nat.le_trans hWS2.out hbA.out.size)
          have sd1 : ms.length + 1 <= maxLen:=by unfold maxLen; omega
          have sd4 : (ms.length + 1) * 32 <= 140737488355328:=by omega
          have hs3:=hb3.size
          clear hpo hb3A hcl2
          go_wp2_with (at_builtin; refine wpList_append_lies _ rfl (.tmp 104) (.tmp 109) 51 rfl W14.heap.size 42 i42 (.agg #[.int .u8 0,.slice none 0 0]) 2 32 Tryz.underlying51 hi42 hz0 hz1 hz2 rfl (by decide) (.slice A3 ms.length c3) ms.length (ms.flatMap rdCells) rfl (by exact hoA.out.1) ⟨w3.heap.size,0,none⟩ 1 1 [.int .u8 c,.slice A9 pts.length c9] rfl rfl (by exact World.news_of_block (cs:=#[.int .u8 c,.slice A9 pts.length c9]) (heap_alloc_new _ _)) (one2' rfl rfl) Nat.one_pos sd1 sd4 (by simp; have:=hWS2.out; omega) (w3.heap.size + 1) (by simp) ?_; intro g9 cap9 w9 hown9 hgr9 hat9 hlt9)
          have hR:=slot_append rdIn_inner (a:=(⟨c,.slice A9 pts.length c9,pts⟩ : MRead)) hb2.out hown2.out hbA.out hwW.out hb2.out.size hain.out hown9 rfl hgr9 (hat9.imp_right (fun e=>by simp [e]))
          have hf9 : Hid (IsTexts11 w9 F (fd4.set 5 y)):=Hd ⟨hfA.out.1.grown_ hgr9 (fun e=>by have:=hNb.out _ e.symm; have:=hFS.out; omega),hfA.out.2⟩
          have hcl9 : Hid (∀ i,i < 1 -> w9.cell? ⟨bS,0 + i,none⟩ = some (.string (([(⟨#[]⟩ : ByteArray)]).getD i ByteArray.empty))):=Hd fun i hi=>grown_cell hgr9 (fun e=>by have:=hNb.out _ e.symm; have:=hbSW.out; omega) (hclA.out i hi)
          have hs9 : Hid (W14.heap.size <= w9.heap.size):=Hd (Nat.le_trans hsA.out hgr9.size)
          clear hown9 hgr9 hat9 hlt9
          go_roundw
          case rel=>exact ⟨k + 1,ms ++ [⟨c,.slice A9 pts.length c9,pts⟩],fd4.set 5 y,by omega,by go_num,Hd hR.1,hf9,Hd fun x=>List.set_set ..,Hd (by simpa using hR.2),Hd (by rw [List.map_append,hnx.out]; rfl),Hd (fun m hm=>by
           rcases List.mem_append.1 hm with hm | hm
           ·exact hmc.out m hm
           ·rw [mS.1 hm]),hcl9,hs9⟩
          case measure=>simp [intOf]; omega
         ·obtain rfl : k = 1:=by omega
          have hkn : Hid (ms.map (·.ps) = readP (gatherF (gramR c) (gramP c) s n t zeros11)):=Hd (by
           rw [hms.out,<- hfd0]
           unfold readP
           rw [<- hall.out,hsu.out]
           first | rw [List.take_of_length_le (Nat.le_of_eq rfl)] | rfl)
          have hRes : Hid (ReadR c (readP (gatherF (gramR c) (gramP c) s n t zeros11)) w (.returned (.tuple #[.slice A3 ms.length c3,.int .i64 0])) wr):=Hd ⟨_,ms,rfl,hown.out.base rdIn_inner hwW.out,hkn.out,hmc.out,hbr.out⟩
          replace hfd0:=Hd hfd0
          clear hms hown hmc hkn hfr hset hcl
          go_wp2_with fail
          go_ret2
          exact hRes.out
       ·rw [if_neg hl0] at hsu
        have e0 : ((l2.length : Int) == 0) = false:=by rw [beq_eq_false_iff_ne]; omega
        obtain ⟨_,_,e,-,hcS3,hiS⟩:=hTx.out
        simp only [Value.slice.injEq,true_and] at e
        obtain ⟨rfl,rfl⟩:=e
        obtain ⟨bS,oS,rfl,hbSl,hbSF,hiS⟩:=hiS (by omega)
        unfold maxLen at hcS3
        have hcS:=Hd hiS
        have hbS:=hb13
        have hfS:=hf13
        replace hbSF:=Hd hbSF
        have hFS : Hid (F < W13.heap.size):=Hd hf13.out.1.lt
        have hf4l : Hid (fd4.length = 11):=Hd hf13.out.2
        have hbSW : Hid (bS < W13.heap.size):=Hd hbSl
        have hwW : Hid (w.heap.size <= W13.heap.size):=Hd hb13.out.size
        obtain ⟨i42,hi42,hz0,hz1,hz2⟩:=info_parts info42
        clear hTx hiS hbSl hb13 hf13
        replace hl0:=Hd hl0
        go_wp2_with fail
        go_loopw [19,98] (fun ov iv wr=>∃ (k : Nat) (ms : List MRead) (fdk : List ByteArray),k <= l2.length /\ iv = .int .i64 k /\ Hid (Below w.heap.size w wr) /\ Hid (IsTexts11 wr F fdk) /\ Hid (∀ x,fdk.set 5 x = fd4.set 5 x) /\ Hid (OwnReads W13.heap.size wr ov ms) /\ Hid (ms.map (·.ps) = ((l2).take k).map fun x=>ptsTo (fd4.set 5 x) 11) /\ Hid (∀ m ∈ ms,m.c = c) /\ Hid (∀ i,i < l2.length -> wr.cell? ⟨bS,oS + i,none⟩ = some (.string ((l2).getD i ByteArray.empty))) /\ Hid (W13.heap.size <= wr.heap.size))
         (fun _ iv _=>l2.length - (intOf iv).toNat)
        case atStart=>exact ⟨0,[],fd4,by omega,rfl,hbS,hfS,Hd fun _=>rfl,Hd OwnL.nil_,Hd rfl,Hd (fun _ h=>by cases h),hcS,Hd (lQ _)⟩
        case round=>
         obtain ⟨k,ms,fdk,hk,rfl,hbr,hfr,hset,hown,hms,hmc,hcl,hWS⟩:=hrel
         rename World=>wr
         clear hbS hfS hcS
         have n0 : (0 : Int) <= (k : Int):=by omega
         obtain ⟨A3,c3,rfl⟩:=hown.out.form_
         have hml2 : ms.length = k:=by
          have:=congrArg List.length hms.out
          rw [List.length_map,List.length_map,List.length_take] at this
          have hL : (l2).length = l2.length:=rfl
          omega
         have hms40 : ms.length <= 40:=by omega
         replace hml2:=Hd hml2
         by_cases hlt : k < l2.length
         ·have n1 : (k : Int) < (l2.length : Int):=by omega
          have y0:=hcl.out k hlt
          try simp only [Nat.zero_add] at y0
          have hnx : Hid (((l2).take (k + 1)).map (fun x=>ptsTo (fd4.set 5 x) 11) = ms.map (·.ps) ++ [ptsTo (fd4.set 5 ((l2).getD k ByteArray.empty)) 11]):=Hd (by
           rw [hms.out,List.take_succ_eq_append_getElem (show k < (l2).length from hlt),List.map_append,getD_at _ _ _ (show k < (l2).length from hlt)]; rfl)
          generalize (l2).getD k ByteArray.empty = y at *
          have y5:=hfr.out.at_ (k:=5) (by omega)
          have zf:=hfr.out.1.frozen 5
          have zl:=hfr.out.1.lt
          have hf2:=Hd (hfr.out.set_ 5 y)
          rw [hset.out y] at hf2
          have hb2:=Hd (below_setc hbr.out (b:=F) (i:=5) hFw.out (.string y))
          have hown2:=Hd (hown.out.keep rdIn_inner (Keeps.set_ wr ⟨F,5,none⟩ (.string y) (by show ¬ W13.heap.size <= F; have:=hFS.out; omega)))
          have hS2 : SetF F wr (wr.setCell ⟨F,5,none⟩ (.string y)):=(SetF.refl _ _).set 5 _
          have hcl2 : Hid (∀ i,i < l2.length -> (wr.setCell ⟨F,5,none⟩ (.string y)).cell? ⟨bS,oS + i,none⟩ = some (.string ((l2).getD i ByteArray.empty))):=Hd fun i hi=>hS2.cell hbSF.out (hcl.out i hi)
          have hWS2 : Hid (W13.heap.size <= (wr.setCell ⟨F,5,none⟩ (.string y)).heap.size):=Hd (Nat.le_trans hWS.out hS2.size)
          go_upto_region 33 with fail
          clear y0 y5 zf zl hS2 hfr hbr hown hcl hWS hms
          generalize wr.setCell ⟨F,5,none⟩ (.string y) = w2 at *
          have hif : (Tryz.prog.info? 109).map (·.size) = some (((fd4.set 5 y).map Value.string).toArray).size:=by rw [info109]; simp [hf4l.out]
          have hp9:=parts90 (fd4.set 5 y) (by rw [List.length_set]; exact hf4l.out) w2
          obtain ⟨pts,hpts⟩ : ∃ pts,pts = ptsTo (fd4.set 5 y) 11:=⟨_,rfl⟩
          rw [<- hpts] at hnx hp9
          replace hpts:=Hd hpts
          replace hp9:=Hd hp9
          have hrow:=hf2.out.1
          obtain ⟨cs,hcs⟩ : ∃ cs,cs = ((fd4.set 5 y).map Value.string).toArray:=⟨_,rfl⟩
          replace hp9:=hp9.out
          rw [<- hcs] at hp9 hrow hif
          replace hcs:=Hd hcs
          replace hp9:=Hd hp9
          apply wp_region_lit
          iterate 6 go_step
          refine wpList_load_row rfl 109 (.tmp 13) rfl F rfl 109 cs (0,0) _ hrow Tryz.underlying109 rfl hif ?_
          simp only [Act.put,sX,sZ,sS]
          clear hrow hif
          go_wp2_with fail
          refine hp9.out.mono ?_
          rintro e w3 ⟨v9,rfl,hpo,hb3⟩
          clear hp9
          obtain ⟨A9,c9,rfl⟩:=hpo.form_
          have hbA : Hid (Below w2.heap.size w2 (w3.alloc (.cells #[.int .u8 c,.slice A9 pts.length c9] 42))):=Hd (hb3.alloc hb3.size _)
          have hb3A : Below w3.heap.size w3 (w3.alloc (.cells #[.int .u8 c,.slice A9 pts.length c9] 42)):=(Below.refl _ _).alloc (lQ _) _
          have hoA:=Hd (hown2.out.keep rdIn_inner (Keeps.of_below hbA.out _))
          have hNb : Hid (∀ h,(Value.slice A3 ms.length c3).ownBlock = some h -> W13.heap.size <= h /\ h < w2.heap.size):=Hd fun h e=>hown2.out.1.lt h e
          have hain : Hid (rdIn (fun b=>W13.heap.size <= b /\ some b ≠ (Value.slice A3 ms.length c3).ownBlock) (w3.alloc (.cells #[.int .u8 c,.slice A9 pts.length c9] 42)) ⟨c,.slice A9 pts.length c9,pts⟩):=Hd (rdIn_inner.keep (a:=(⟨c,.slice A9 pts.length c9,pts⟩ : MRead)) (OwnParts.rdIn_ hpo (P:=fun b=>W13.heap.size <= b /\ some b ≠ (Value.slice A3 ms.length c3).ownBlock) (fun b hb=>⟨by have:=hWS2.out; omega,fun e=>by have:=hNb.out b e.symm; omega⟩) c) (Keeps.of_below hb3A _) fun _ _ h=>h)
          have hfA:=Hd (hf2.out.up hbA.out)
          have hclA : Hid (∀ i,i < l2.length -> (w3.alloc (.cells #[.int .u8 c,.slice A9 pts.length c9] 42)).cell? ⟨bS,oS + i,none⟩ = some (.string ((l2).getD i ByteArray.empty))):=Hd fun i hi=>(hbA.out.cell (p:=⟨bS,oS + i,none⟩) (by have:=hbSW.out; have:=hWS2.out; show bS < _; omega)).trans (hcl2.out i hi)
          have hsA : Hid (W13.heap.size <= (w3.alloc (.cells #[.int .u8 c,.slice A9 pts.length c9] 42)).heap.size):=Hd (Nat.le_trans hWS2.out hbA.out.size)
          have sd1 : ms.length + 1 <= maxLen:=by unfold maxLen; omega
          have sd4 : (ms.length + 1) * 32 <= 140737488355328:=by omega
          have hs3:=hb3.size
          clear hpo hb3A hcl2
          go_wp2_with (at_builtin; refine wpList_append_lies _ rfl (.tmp 104) (.tmp 109) 51 rfl W13.heap.size 42 i42 (.agg #[.int .u8 0,.slice none 0 0]) 2 32 Tryz.underlying51 hi42 hz0 hz1 hz2 rfl (by decide) (.slice A3 ms.length c3) ms.length (ms.flatMap rdCells) rfl (by exact hoA.out.1) ⟨w3.heap.size,0,none⟩ 1 1 [.int .u8 c,.slice A9 pts.length c9] rfl rfl (by exact World.news_of_block (cs:=#[.int .u8 c,.slice A9 pts.length c9]) (heap_alloc_new _ _)) (one2' rfl rfl) Nat.one_pos sd1 sd4 (by simp; have:=hWS2.out; omega) (w3.heap.size + 1) (by simp) ?_; intro g9 cap9 w9 hown9 hgr9 hat9 hlt9)
          have hR:=slot_append rdIn_inner (a:=(⟨c,.slice A9 pts.length c9,pts⟩ : MRead)) hb2.out hown2.out hbA.out hwW.out hb2.out.size hain.out hown9 rfl hgr9 (hat9.imp_right (fun e=>by simp [e]))
          have hf9 : Hid (IsTexts11 w9 F (fd4.set 5 y)):=Hd ⟨hfA.out.1.grown_ hgr9 (fun e=>by have:=hNb.out _ e.symm; have:=hFS.out; omega),hfA.out.2⟩
          have hcl9 : Hid (∀ i,i < l2.length -> w9.cell? ⟨bS,oS + i,none⟩ = some (.string ((l2).getD i ByteArray.empty))):=Hd fun i hi=>grown_cell hgr9 (fun e=>by have:=hNb.out _ e.symm; have:=hbSW.out; omega) (hclA.out i hi)
          have hs9 : Hid (W13.heap.size <= w9.heap.size):=Hd (Nat.le_trans hsA.out hgr9.size)
          clear hown9 hgr9 hat9 hlt9
          go_roundw
          case rel=>exact ⟨k + 1,ms ++ [⟨c,.slice A9 pts.length c9,pts⟩],fd4.set 5 y,by omega,by go_num,Hd hR.1,hf9,Hd fun x=>List.set_set ..,Hd (by simpa using hR.2),Hd (by rw [List.map_append,hnx.out]; rfl),Hd (fun m hm=>by
           rcases List.mem_append.1 hm with hm | hm
           ·exact hmc.out m hm
           ·rw [mS.1 hm]),hcl9,hs9⟩
          case measure=>simp [intOf]; omega
         ·obtain rfl : k = l2.length:=by omega
          have hkn : Hid (ms.map (·.ps) = readP (gatherF (gramR c) (gramP c) s n t zeros11)):=Hd (by
           rw [hms.out,<- hfd0]
           unfold readP
           rw [<- hall.out,hsu.out]
           first | rw [List.take_of_length_le (Nat.le_of_eq rfl)] | rfl)
          have hRes : Hid (ReadR c (readP (gatherF (gramR c) (gramP c) s n t zeros11)) w (.returned (.tuple #[.slice A3 ms.length c3,.int .i64 0])) wr):=Hd ⟨_,ms,rfl,hown.out.base rdIn_inner hwW.out,hkn.out,hmc.out,hbr.out⟩
          replace hfd0:=Hd hfd0
          clear hms hown hmc hkn hfr hset hcl
          go_wp2_with fail
          go_ret2
          exact hRes.out
end
end Go.Proofs.YteclineblddpbaaGreatDoorR
