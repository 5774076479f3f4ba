import Derived.Test.YteclineblddpbaaGreatDoorRC01
import Derived.Test.YteclineblddpbaaGreatDoorRC36
import Derived.Test.YteclineblddpbaaGreatDoorRC37
set_option linter.all false
set_option maxRecDepth 100000
set_option maxHeartbeats 0
namespace Go.Proofs.YteclineblddpbaaGreatDoorR
section
open Go Go.RowKit Go.Maps
theorem OwnL.appendL {α : Type} {E : TypeId} {k : Nat} {cells : α -> List Value} {I : (Nat -> Prop) -> World -> α -> Prop} {base : Nat} {w w' : World} {v v' : Value} {ps bs : List α} (hI : Inner I) (h : OwnL E k cells I base w v ps) (ha : ∀ a ∈ bs,I (fun b=>base <= b /\ some b ≠ v.ownBlock) w a)
  (hown : w'.ownsRow base E k v' (ps.length + bs.length) (ps.flatMap cells ++ bs.flatMap cells)) (hg : w.grownBy w' v.ownBlock) (hat : v'.ownBlock = v.ownBlock \/ ∃ H,v'.ownBlock = some H /\ w.heap.size <= H) :
  OwnL E k cells I base w' v' (ps ++ bs):=by
 have hPQ : ∀ b,b < w.heap.size -> (base <= b /\ some b ≠ v.ownBlock) -> (base <= b /\ some b ≠ v'.ownBlock):=fun b hb hp=>⟨hp.1,by
  rcases hat with e | ⟨H,e,hH⟩
  ·rw [e]; exact hp.2
  ·rw [e]; intro e2; injection e2 with e2; omega⟩
 have hK : Keeps (fun b=>base <= b /\ some b ≠ v.ownBlock) w w':=Keeps.of_grown hg fun b hb=>hb.2
 refine ⟨by simpa using hown,fun p hp=>?_⟩
 rcases List.mem_append.1 hp with hp | hp
 ·exact hI.keep (h.2 p hp) hK hPQ
 ·exact hI.keep (ha p hp) hK hPQ
theorem slot_appendL {α : Type} {E : TypeId} {k : Nat} {cells : α -> List Value} {I : (Nat -> Prop) -> World -> α -> Prop} (hI : Inner I) {B Bd : Nat}
  {W2 wr wA w1 : World} {cv mv : Value} {g n cap : Nat} {ps bs : List α} (hbi : Below Bd W2 wr) (hown : OwnL E k cells I B wr cv ps) (hA : Below wr.heap.size wr wA) (hBd : Bd <= B) (hBs : Bd <= wr.heap.size) (hBw : B <= wr.heap.size)
  (ha : OwnL E k cells I wr.heap.size wA mv bs)
  (hown1 : w1.ownsRow B E k (.slice (some ⟨g,0,none⟩) n cap) n (ps.flatMap cells ++ bs.flatMap cells)) (hn : n = ps.length + bs.length)
  (hgr : wA.grownBy w1 cv.ownBlock) (hat : cv.ownBlock = some g \/ wA.heap.size <= g) :
  Below Bd W2 w1 /\ OwnL E k cells I B w1 (.slice (some ⟨g,0,none⟩) n cap) (ps ++ bs):=by
 subst hn
 have hcv : ∀ h,cv.ownBlock = some h -> B <= h /\ h < wr.heap.size:=fun h e=>hown.1.lt h e
 have hownA : OwnL E k cells I B wA cv ps:=hown.keep hI (Keeps.of_below hA _)
 have happ:=hownA.appendL hI (bs:=bs) (fun a h=>hI.keep (ha.2 a h) ⟨lQ _,fun _ _ _=>rfl⟩ fun b _ hb=>⟨by omega,fun e=>by have:=hcv b e.symm; omega⟩) hown1 hgr (by
  rcases hat with e | e
  ·exact .inl (by rw [e]; rfl)
  ·exact .inr ⟨g,rfl,e⟩)
 have hs:=hA.size
 exact ⟨(hbi.trans (hA.mono (by omega))).grown hgr (by omega) (fun h e=>by have:=(hcv h e).1; omega),happ⟩
theorem region_via2 {X Y : Type} {P : Program} {id : Nat} {ops : Array Oper} {b : Bool} {Q : Exit -> Act -> World -> Prop} {a : Act} {w : World} (A : X -> Y -> Act) (R : X -> Y -> World -> Prop)
  (h1 : ∀ Q' : Exit -> Act -> World -> Prop,(∀ x y w',R x y w' -> Q' .normal (A x y) w') -> (Code.region id ops b).wp P Q' a w) (h2 : ∀ x y w',R x y w' -> Q .normal (A x y) w') : (Code.region id ops b).wp P Q a w:=h1 Q h2
theorem mkT_one {P : Program} {ops : Array Oper} {C : World -> Prop} {T : Act -> World -> Prop} {i : Nat} {oi : Oper} {a : Act} {w : World} (hi : ops[i]? = some oi) (h : mkTL P ops C T [oi] a w) : mkT P ops C T [i].length [i] a w:=
 mkT_of [i] [oi] a w rfl (fun j hj=>by
  cases j with
  | zero=>simpa using hi.symm
  | succ j=>simp at hj) rfl h
theorem info42' : (Tryz.prog.info? 42).map (fun i=>(i.zero,i.size,i.bytes)) = some (some (.agg #[.int .u8 0,.slice none 0 0]),2,32):=by kernel_rfl
def readsT (c : Int) (s : List PTok) (n : Nat) (t : PTree) : List PRead:=(readP (gatherF (gramR c) (gramP c) s n t zeros11)).map fun p=>(c,p)
theorem readP_len (fd : List ByteArray) : 0 < (readP fd).length /\ (readP fd).length <= 40:=by
 unfold readP sufs
 rw [List.length_map]
 have:=longs_len 2 ((fixAll fd).getD 5 ⟨#[]⟩)
 split
 ·simp
 ·omega
def treesC (c : Int) (s : List PTok) : List PTree:=(treesN (gramR c) (s.map fun t=>t.cls.toNat) (symN (gramR c) (s.map fun t=>t.cls.toNat) 3) 3 0 0 s.length).take 64
def treeOK (c : Int) (s : List PTok) (t : PTree) : Prop:=isTreeF (gramR c) (s.map fun t=>t.cls.toNat) 3 t 0 0 s.length = true
theorem flat_len {α β : Type} {n : Nat} (f : α -> List β) : ∀ l : List α,(∀ x ∈ l,(f x).length <= n) -> (l.flatMap f).length <= l.length * n
 | [],_=>by simp
 | x :: l,h=>by
  have:=flat_len f l fun y hy=>h y (List.mem_cons_of_mem _ hy)
  have:=h x (List.mem_cons_self ..)
  rw [List.flatMap_cons,List.length_append,List.length_cons,Nat.succ_mul]
  omega
attribute [local go_sem] Oper.semAt_some
theorem readings25 (c : Int) (sv : Value) (s : List PTok) (w : World) (hc : c = 1 \/ c = 2 \/ c = 3) (hs : IsToks w sv s) (hsl : s.length <= 40) (hst : ∀ x ∈ s,x.text.size <= 60 /\ 0 <= x.cls /\ x.cls < 65536) (hright : s.all tokRightB = true) (hlet : ∀ x ∈ s,x.cls.toNat &&& 2 ≠ 0 -> 0 < x.text.size)
  (hml : MaxL w) (h00 : 0 < w.heap.size) (hts : ∀ t ∈ treesC c s,treeOK c s t) :
  Calls Tryz.prog 25 #[.int .u8 c,sv] w fun e w'=>∃ v ms,e = .returned v /\ OwnReads w.heap.size w' v ms /\ ms.map MRead.read = (treesC c s).flatMap (readsT c s 3) /\ Below w.heap.size w w':=by
 have hof:=Hd (of_any c w hc)
 have hok:=Hd (gram_ok c hc)
 have hcls:=Hd (fun w' (h : IsToks w' sv s)=>classes46 sv s w' h (by omega))
 have hrd:=Hd (fun (t : PTree) (v : Value) w' (h1 : IsToks w' sv s) (h2 : TrAt (fun _=>False) w' t v) (h3 : treeOK c s t) (h4 : MaxL w')=>read_any c sv v s 3 t w' hc h1 hsl hst hright hlet h2 h3 h4)
 have htc : Hid (∀ i,(s.map fun t=>t.cls.toNat).getD i 0 < 65536):=Hd fun i=>by
  rw [List.getD_eq_getElem?_getD,List.getElem?_map]
  cases h : s[i]? with
  | none=>simp
  | some t=>
   have:=hst t (List.mem_of_getElem? h)
   simp
   omega
 have hcl0 : Hid (∀ n ∈ s.map PTok.cls,0 <= n):=Hd fun n h=>by
  obtain ⟨t,ht,rfl⟩:=List.mem_map.1 h
  exact (hst t ht).2.1
 have hs':=Hd hs
 obtain ⟨At,tc,rfl,htn,htm,hit⟩:=hs
 unfold maxLen at htm
 replace hit:=Hd hit
 clear hst hright hlet hit
 replace hts:=Hd hts
 replace hml:=Hd hml
 go_enter Tryz.func25,Tryz.ntmps25
 go_wp2_with fail
 refine hof.out.mono ?_
 rintro e W2 ⟨v2,rs,ps,rfl,⟨rv,pv,rfl,hgr⟩,hrs,hps,hb2⟩
 clear hof
 obtain ⟨Ar,cr,rfl⟩:=hgr.own.form_
 obtain ⟨Ap,cp,rfl⟩:=hgr.ownp.form_
 obtain ⟨W3,hW3⟩ : ∃ W3,W3 = W2.alloc (.cells #[.slice Ar rs.length cr,.slice Ap ps.length cp] 56):=⟨_,rfl⟩
 have hb3 : Below W2.heap.size W2 W3:=by rw [hW3]; exact (Below.refl _ _).alloc (lQ _) _
 have kG:=Blk.new W2 56 #[.slice Ar rs.length cr,.slice Ap ps.length cp]
 rw [<- hW3] at kG
 have g0:=kG.cell 0
 simp at g0
 go_upto_region 3 with fail
 rw [<- hW3]
 have hb23:=hb2.trans (hb3.mono hb2.size)
 have hRP : Hid (RulesP (fun b=>b < W3.heap.size) W3 (.slice Ar rs.length cr) (gramR c)):=Hd (by
  have h1 : GramAt w.heap.size W3 (.slice Ar rs.length cr) (.slice Ap ps.length cp) rs ps:=hgr.keep ⟨hb3.size,fun b hb _=>hb3.block b hb⟩
  have h2:=(h1.rulesP (P:=fun b=>w.heap.size <= b) fun b hb=>hb).lt
  rwa [hrs] at h2)
 replace hgr:=Hd hgr
 replace hW3:=Hd hW3
 refine region_via2 (X:=Value) (Y:=Value) ?A (fun u v w'=>∃ ms,OwnTrees w.heap.size w' v ms /\ ms.map (·.t) = treesC c s /\ Below w.heap.size w w') ?g1 ?g2
 case g1=>
  intro Q' hQ'
  refine wp_region_flowE2 (C:=fun w2=>w2.cell? ⟨W2.heap.size,0,none⟩ = some (.slice Ar rs.length cr)) [true,true,true,false] [3] 6 (by kernel_rfl) (by kernel_rfl) (by kernel_rfl) (by kernel_rfl)
   (fun w2 hb=>(hb.cell (p:=⟨W2.heap.size,0,none⟩) kG.lt).trans g0) ?Av1 ?qv1 ?tv1
  case qv1=>
   intro S' hS hSC hne
   have s0:=fun (u : UpsC S')=>hSC u.wld u.mem
   simp only [pickB,if_true,if_false,Bool.false_eq_true]
   repeat (go_big_quiet_step (fail))
   refine wpQuiet_nil ?_
   rfl
  try simp only [pickB,if_true,if_false,Bool.false_eq_true,Bool.true_eq_false]
  refine mkT_one rfl ?_
  refine mkTL_cons rfl fun w7 hb7 Q2 hQ2=>?_
  have hb37:=hb23.trans (hb7.mono hb23.size)
  have hs7:=Hd (hs'.out.stays (Stays.of hb37))
  have hcl:=Hd (hcls.out w7 hs7.out)
  go_wp2_with fail
  refine hcl.out.mono ?_
  rintro e w8 ⟨v8,rfl,ho8,hb8⟩
  have hb78:=hb7.trans (hb8.mono hb7.size)
  have hb38:=Hd (hb23.trans (hb78.mono hb23.size))
  go_wp2_with fail
  refine hQ2 _ _ rfl (fun w2 hb=>((hb78.trans (hb.mono hb78.size)).cell (p:=⟨W2.heap.size,0,none⟩) kG.lt).trans g0) ?_
  clear hQ2 hcl
  have hnat:=Hd (ho8.nats hcl0.out)
  have hR8:=Hd (RulesP.far (Q:=fun _=>True) hRP.out hb78 (fun _ _=>trivial))
  clear ho8 hb8
  intro w9 hb9
  have hb39:=Hd (hb38.out.trans (hb9.mono hb38.out.size))
  have hR9:=Hd (RulesP.far (Q:=fun _=>True) hRP.out (hb78.trans (hb9.mono hb78.size)) (fun _ _=>trivial))
  have hnat9 : Hid (NatsO .u16 (fun _=>False) w9 v8 (s.map fun t=>t.cls.toNat)):=Hd (by
   have h1:=hnat.out
   rw [List.map_map] at h1
   exact SlP.map h1 hb9.size (fun _ _ _=>fun h=>h) fun b off i hb _ _ hr=>(hb9.cell (p:=⟨b,off + i,none⟩) hb).trans hr)
  clear hnat hR8 hb9
  have htr:=Hd (trees_any (.slice Ar rs.length cr) v8 (gramR c) (s.map fun t=>t.cls.toNat) 64 w9 hR9.out hok.out hnat9.out (by rw [List.length_map]; exact hsl) htc.out (by decide) (by decide))
  refine any_pick [4] (by kernel_rfl) (by decide) (pick_cons ?_ pick_nil)
  refine op_list rfl (by kernel_rfl) fun Q2 hQ2=>?_
  clear hR9 hnat9
  go_wp2_with fail
  refine htr.out.mono ?_
  rintro e w10 ⟨v10,ms,rfl,hms0,hmt0,hb10⟩
  clear htr
  go_wp2_with fail
  refine hQ2 _ _ rfl ?_
  clear hQ2
  have hms:=Hd (hms0.base mtIn_inner hb39.out.size)
  have hmt : Hid (ms.map (·.t) = treesC c s):=Hd (by
   rw [hmt0,List.length_map]
   rfl)
  have hb4:=Hd (hb39.out.trans (hb10.mono hb39.out.size))
  clear hms0 hmt0 hb10
  refine any_pick [5] (by kernel_rfl) (by decide) (pick_cons ?_ pick_nil)
  refine op_list rfl (by kernel_rfl) fun Q2 hQ2=>?_
  go_wp2_with fail
  refine hQ2 _ _ rfl ?_
  clear hQ2
  refine any_pick [6,7] (by kernel_rfl) (by decide) (pick_cons ?b56 (pick_cons ?b57 pick_nil))
  case b56=>
   refine op_list rfl (by kernel_rfl) fun Q2 hQ2=>?_
   go_wp2_with fail
   refine hQ2 _ _ rfl ?_
   clear hQ2
   refine any_pick [7,8] (by kernel_rfl) (by decide) (pick_cons ?b567 (pick_cons ?b568 pick_nil))
   case b567=>
    refine op_list rfl (by kernel_rfl) fun Q2 hQ2=>?_
    go_wp2_with fail
    refine hQ2 _ _ rfl ?_
    clear hQ2
    refine any_pick [8] (by kernel_rfl) (by decide) (pick_cons ?_ pick_nil)
    refine op_list rfl (by kernel_rfl) fun Q2 hQ2=>?_
    go_wp2_with fail
    refine hQ2 _ _ rfl ?_
    clear hQ2
    refine any_pick [9] (by kernel_rfl) (by decide) (pick_cons ?_ pick_nil)
    refine op_list rfl (by kernel_rfl) fun Q2 hQ2=>?_
    go_wp2_with fail
    refine hQ2 _ _ rfl ?_
    clear hQ2
    refine any_done (by kernel_rfl) ?_
    exact hQ' v8 v10 _ ⟨ms,hms.out,hmt.out,hb4.out⟩
   case b568=>
    refine op_list rfl (by kernel_rfl) fun Q2 hQ2=>?_
    go_wp2_with fail
    refine hQ2 _ _ rfl ?_
    clear hQ2
    refine any_pick [7] (by kernel_rfl) (by decide) (pick_cons ?_ pick_nil)
    refine op_list rfl (by kernel_rfl) fun Q2 hQ2=>?_
    go_wp2_with fail
    refine hQ2 _ _ rfl ?_
    clear hQ2
    refine any_pick [9] (by kernel_rfl) (by decide) (pick_cons ?_ pick_nil)
    refine op_list rfl (by kernel_rfl) fun Q2 hQ2=>?_
    go_wp2_with fail
    refine hQ2 _ _ rfl ?_
    clear hQ2
    refine any_done (by kernel_rfl) ?_
    exact hQ' v8 v10 _ ⟨ms,hms.out,hmt.out,hb4.out⟩
  case b57=>
   refine op_list rfl (by kernel_rfl) fun Q2 hQ2=>?_
   go_wp2_with fail
   refine hQ2 _ _ rfl ?_
   clear hQ2
   refine any_pick [6] (by kernel_rfl) (by decide) (pick_cons ?_ pick_nil)
   refine op_list rfl (by kernel_rfl) fun Q2 hQ2=>?_
   go_wp2_with fail
   refine hQ2 _ _ rfl ?_
   clear hQ2
   refine any_pick [8] (by kernel_rfl) (by decide) (pick_cons ?_ pick_nil)
   refine op_list rfl (by kernel_rfl) fun Q2 hQ2=>?_
   go_wp2_with fail
   refine hQ2 _ _ rfl ?_
   clear hQ2
   refine any_pick [9] (by kernel_rfl) (by decide) (pick_cons ?_ pick_nil)
   refine op_list rfl (by kernel_rfl) fun Q2 hQ2=>?_
   go_wp2_with fail
   refine hQ2 _ _ rfl ?_
   clear hQ2
   refine any_done (by kernel_rfl) ?_
   exact hQ' v8 v10 _ ⟨ms,hms.out,hmt.out,hb4.out⟩
 rintro u4 v4 W4 ⟨ms,hms,hmt,hb4⟩
 have hml4 : Hid (MaxL W4):=Hd (by
  obtain ⟨m,hm⟩:=hml.out
  exact ⟨m,(hb4.cell (p:=⟨0,0,none⟩) h00).trans hm⟩)
 have hs4:=Hd (hs'.out.stays (Stays.of hb4))
 have hn:=Hd (congrArg List.length hmt)
 obtain ⟨A4,c4,rfl⟩:=hms.form_
 have hsub:=Hd (OwnTrees.sub hms (O:=fun _=>False) (fun _ h=>h.elim))
 have hsz4:=hb4.size
 have h04 : 0 < W4.heap.size:=by omega
 have hn64 : ms.length <= 64:=by
  have:=hn.out
  rw [List.length_map] at this
  unfold treesC at this
  rw [this,List.length_take]
  omega
 generalize hE : treesC c s = ts at *
 replace hE:=Hd hE
 replace hmt:=Hd hmt
 replace hb4:=Hd hb4
 clear hms hb2 hb3 hb23 kG g0 hRP hgr hW3 hrs hps hcls htc hcl0 hok
 obtain ⟨i0,hi0,hz0,hz1,hz2⟩:=info_parts info42'
 go_wp2_with fail
 go_loopw [5,10] (fun ov iv wr=>∃ (k : Nat) (o : List MRead),k <= ms.length /\ iv = .int .i64 k /\ Below W4.heap.size W4 wr /\ OwnReads W4.heap.size wr ov o /\ Hid (o.map MRead.read = ((ts).take k).flatMap (readsT c s 3)))
  (fun _ iv _=>ms.length - (intOf iv).toNat)
 case atStart=>exact ⟨0,[],by omega,rfl,Below.refl _ _,OwnL.nil_,Hd rfl⟩
 case round=>
  obtain ⟨k,o,hk,rfl,hbw,hown,ho⟩:=hrel
  rename World=>wr
  have n0 : (0 : Int) <= (k : Int):=by omega
  obtain ⟨A3,c3,rfl⟩:=hown.form_
  have hown':=Hd hown
  clear hown
  by_cases hlt : k < ms.length
  ·have n1 : (k : Int) < (ms.length : Int):=by omega
   obtain ⟨Ax,cx,ex,hnx,hcx,hat⟩:=hsub.out.nth
   rw [List.length_map] at hat hnx ex
   obtain ⟨rfl,-,rfl⟩:=Value.slice.inj ex
   clear ex
   obtain ⟨bl,off,v0,v1,v2,v3,rfl,-,d0,d1,d2,d3,hTr⟩:=hat k hlt
   clear hat
   have hbw':=Hd hbw
   have hwr : W4.heap.size <= wr.heap.size:=hbw.size
   obtain ⟨t,ht⟩ : ∃ t,(ms.map (·.t))[k]? = some t:=⟨_,List.getElem?_eq_getElem (by simpa using hlt)⟩
   have htg : (ms.map (·.t)).getD k PTree.zero = t:=by rw [List.getD_eq_getElem?_getD,ht]; rfl
   rw [htg] at hTr
   have hT2:=TrAt.keep (CKp.of_below hbw (fun _=>False)) (fun b h=>.inl h) _ _ hTr
   have ht' : ts[k]? = some t:=by rw [<- hmt.out]; exact ht
   have hmem : t ∈ ts:=List.mem_of_getElem? ht'
   have hst : Hid ((ts.take (k + 1)).flatMap (readsT c s 3) = o.map MRead.read ++ readsT c s 3 t):=Hd (by
    rw [ho.out,List.take_succ,ht',List.flatMap_append]
    congr 1
    simp only [Option.toList,List.flatMap_cons,List.flatMap_nil,List.append_nil])
   clear ht htg ht'
   obtain ⟨r,a,b,sub,sb,-,ev,hsb⟩:=hT2.sub
   simp only [Value.agg.injEq,Array.mk.injEq,List.cons.injEq,and_true] at ev
   obtain ⟨rfl,rfl,rfl,rfl⟩:=ev
   obtain ⟨As,cs,rfl,-⟩:=hsb
   have hbl : bl < W4.heap.size:=cell_lt d0
   have hblr : bl < wr.heap.size:=by omega
   have e0:=(hbw.cell (p:=⟨bl,off + k * 4,none⟩) hbl).trans d0
   have e1:=(hbw.cell (p:=⟨bl,off + k * 4 + 1,none⟩) hbl).trans d1
   have e2:=(hbw.cell (p:=⟨bl,off + k * 4 + 2,none⟩) hbl).trans d2
   have e3:=(hbw.cell (p:=⟨bl,off + k * 4 + 3,none⟩) hbl).trans d3
   have hcall:=Hd (hrd.out t _ wr (hs4.out.stays (Stays.of hbw)) hT2 (hts.out t hmem) (by
    obtain ⟨m,hm⟩:=hml4.out
    exact ⟨m,(hbw.cell (p:=⟨0,0,none⟩) h04).trans hm⟩))
   have hol : o.length <= 2560:=by
    have h1:=congrArg List.length ho.out
    rw [List.length_map] at h1
    rw [h1]
    have h2:=flat_len (n:=40) (readsT c s 3) ((ts).take k) (fun x _=>by unfold readsT; rw [List.length_map]; exact (readP_len _).2)
    rw [List.length_take] at h2
    omega
   clear d0 d1 d2 d3 hTr hT2 hmem hbw hnx hcx
   go_wp2_with fail
   refine hcall.out.mono ?_
   rintro e w5 ⟨v5,m5,rfl,ho5,hm5,hc5,hb5⟩
   clear hcall e0 e1 e2 e3
   have hl5:=congrArg List.length hm5
   rw [List.length_map] at hl5
   have hl5':=readP_len (gatherF (gramR c) (gramP c) s 3 t zeros11)
   rw [<- hl5] at hl5'
   have hst2 : Hid (((ts).take (k + 1)).flatMap (readsT c s 3) = (o ++ m5).map MRead.read):=Hd (by
    rw [hst.out,List.map_append]
    congr 1
    unfold readsT
    rw [<- hm5,List.map_map]
    refine List.map_congr_left fun x hx=>?_
    show (c,x.ps) = MRead.read x
    unfold MRead.read
    rw [hc5 x hx])
   clear hl5 hst hm5 hc5
   rcases ho5.1.2 with ⟨-,h0⟩ | ⟨g5,cap5,cur5,rfl,-⟩
   ·omega
   have hnews:=Hd (ho5.1.cells (g:=g5) rfl)
   have hlen5:=Hd ho5.1.1
   have hone : Hid (∀ u ∈ m5.flatMap rdCells,u.oneCell' = true):=Hd fun u hu=>by
    obtain ⟨m,hm,hu⟩:=List.mem_flatMap.1 hu
    obtain ⟨A,cm,hv,-⟩:=ho5.2 m hm
    unfold rdCells at hu
    rw [hv] at hu
    rcases List.mem_cons.1 hu with rfl | hu
    ·rfl
    ·rw [mS.1 hu]; rfl
   have ho5':=Hd ho5
   have hb5':=Hd hb5
   have hoA:=Hd (hown'.out.keep rdIn_inner (Keeps.of_below hb5 _))
   have hs5:=hb5.size
   have hm0 : 0 < m5.length:=hl5'.1
   have sd1 : o.length + m5.length <= maxLen:=by unfold maxLen; omega
   have sd4 : (o.length + m5.length) * 32 <= 140737488355328:=by omega
   replace hl5':=Hd hl5'
   clear ho5 hb5
   go_wp2_with (at_builtin; refine wpList_append_lies _ rfl (.tmp 42) (.tmp 43) 51 rfl W4.heap.size 42 i0 (.agg #[.int .u8 0,.slice none 0 0]) 2 32 Tryz.underlying51 hi0 hz0 hz1 hz2 rfl (by decide) (.slice A3 o.length c3) o.length (o.flatMap rdCells) rfl (by exact hoA.out.1) ⟨g5,0,none⟩ m5.length cap5 (m5.flatMap rdCells) rfl hlen5.out (by exact hnews.out) hone.out hm0 sd1 sd4 (by omega) w5.heap.size rfl ?_; intro g9 cap9 w9 hown9 hgr9 hat9 hlt9)
   have hR:=slot_appendL rdIn_inner hbw'.out hown'.out hb5'.out (lQ _) hwr hwr ho5'.out hown9 rfl hgr9 (hat9.imp_right (fun e=>by rw [e]; exact lQ _))
   clear hown9 hgr9 hat9 hlt9
   go_roundw
   case rel=>exact ⟨k + 1,o ++ m5,by omega,by go_num,hR.1,hR.2,Hd hst2.out.symm⟩
   case measure=>simp [intOf]; omega
  ·obtain rfl : k = ms.length:=by omega
   have hfin : Hid (∃ ms,OwnReads w.heap.size wr (.slice A3 o.length c3) ms /\ ms.map MRead.read = (ts).flatMap (readsT c s 3)):=Hd ⟨o,hown'.out.base rdIn_inner hb4.out.size,by
    have e:=ho.out
    have h1:=hn.out
    rw [List.length_map] at h1
    rw [h1,List.take_length] at e
    exact e⟩
   have hbb:=Hd (hb4.out.trans (hbw.mono hb4.out.size))
   go_wp2_with fail
   go_ret
   obtain ⟨ms',h1,h2⟩:=hfin.out
   exact ⟨_,ms',rfl,h1,by rw [hE.out]; exact h2,hbb.out⟩
end
end Go.Proofs.YteclineblddpbaaGreatDoorR
