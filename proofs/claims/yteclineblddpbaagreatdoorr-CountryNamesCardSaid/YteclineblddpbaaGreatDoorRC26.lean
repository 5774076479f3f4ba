import Derived.Test.YteclineblddpbaaGreatDoorRC01
import Derived.Test.YteclineblddpbaaGreatDoorRC21
import Derived.Test.YteclineblddpbaaGreatDoorRC25
import Derived.Laws.AppendOwnNone
set_option linter.all false
set_option maxRecDepth 100000
set_option maxHeartbeats 0
namespace Go.Proofs.YteclineblddpbaaGreatDoorR
section
open Go Go.RowKit Go.Maps
def ptrOf : Value -> Addr
 | .pointer (some a)=>a
 | _=>⟨0,0,none⟩
attribute [local go_sem] Oper.semAt_some
def TreeC (d : ChartD) (TB : Nat) (r a b : Int) (v : Value) (O : Nat -> Prop) (w : World) : Prop:=¬ OM d O TB /\ w.cell? ⟨TB,0,none⟩ = some (.int .i64 r) /\ w.cell? ⟨TB,1,none⟩ = some (.int .i64 a) /\ w.cell? ⟨TB,2,none⟩ = some (.int .i64 b) /\ w.cell? ⟨TB,3,none⟩ = some v
theorem TreeC.keep {d : ChartD} {TB : Nat} {r a b : Int} {v : Value} {O O' : Nat -> Prop} {w w' : World} (h : TreeC d TB r a b v O w) (hk : CKp (OM d O) w w') (hO : ∀ b,O' b -> O b \/ w.heap.size <= b) : TreeC d TB r a b v O' w':=
 ⟨notO (fun b hb=>hb.elim (fun hb=>(hO b hb).imp .inl id) fun hm=>.inl (.inr hm)) (cell_lt h.2.1) h.1,hk.cell _ _ _ h.1 h.2.1,hk.cell _ _ _ h.1 h.2.2.1,hk.cell _ _ _ h.1 h.2.2.2.1,hk.cell _ _ _ h.1 h.2.2.2.2⟩
theorem fin_marksP {d : ChartD} {l YB a b p1 p2 p3 p4 : Nat} {W A : World} {O O2 : Nat -> Prop} {J : List (List PTree) -> (Nat -> Prop) -> World -> Prop} {v : Value} {L : List Nat} {ys : List (List PTree)} {Ds : List Nat} {cs : List (Nat × Value)} {F : (Nat -> Prop) -> World -> Prop} {tmps : Array Value} {e : PEnd} (h : LT d l YB (csP d a b p2 p3 p4 ++ cs) W O J v L ys Ds O2 A)
  (hJ : ∀ pre O A B,J pre O A -> (∀ b,O b -> b < A.heap.size) -> KeepB (MM d) W.heap.size A B -> J pre O B) (hc : ChartInv d O2 A) (he : EP d p1 e O2 A) (hF : ∀ O3 W',J ys O3 W' -> F O3 W') :
  LeavesInM Fence.wide 0 Tryz.prog Tryz.f197 tmps (fun e' W'=>(∃ v,e' = Ending.returned v) /\ ∃ O',(∀ b,O' b -> O b \/ W.heap.size <= b) /\ (∀ b,O' b -> b < W'.heap.size) /\ KeepC (fun b=>O b \/ MM d b) W W' /\ InvP d e a b p1 p2 p3 p4 O' W' /\ F O' W') (marks Ds) .returning A:=
 leaves_marks Ds A h.nd (fun D hD=>(h.mks D hD).1) fun W' h1 h2 h3=>
  have ⟨m1,m2,m3,m4⟩:=h.marked hJ h1 h2 h3
  ⟨results_none rfl _ _ _,⟨_,rfl⟩,O2,m2,m3,m4,(InvP.still ..).keep O2 A W' (invP_of h hc he) h.lt (keepB_marks h1 h2 h3 (fun D hD=>(h.mks D hD).1) (fun _ _=>Nat.zero_le _) _),hF O2 W' m1⟩
theorem next_box {d : ChartD} {l YB a b p1 p2 p3 p4 MB k m : Nat} {W A : World} {O O2 : Nat -> Prop} {J : List (List PTree) -> (Nat -> Prop) -> World -> Prop} {v u : Value} {L : List Nat} {ys : List (List PTree)} {Ds : List Nat} {e : PEnd} (h : LT d l YB (csP d a b p2 p3 p4 ++ [(MB,u)]) W O J v L ys Ds O2 A) (hc : ChartInv d O2 A) (he : EP d p1 e O2 A)
  (hJ : ∀ pre O A B,J pre O A -> (∀ b,O b -> b < A.heap.size) -> KeepB (MM d) W.heap.size A B -> J pre O B) (hm : m = a + 1 + k) :
  LT d l YB (csP d a b p2 p3 p4 ++ [(A.heap.size,.int .i64 ((a + 1 + (k + 1) : Nat) : Int))]) W O J v L ys Ds O2 (A.alloc (.cells #[.int .i64 ((m : Int) + 1)] 3)) /\ ChartInv d O2 (A.alloc (.cells #[.int .i64 ((m : Int) + 1)] 3)) /\ EP d p1 e O2 (A.alloc (.cells #[.int .i64 ((m : Int) + 1)] 3)):=by
 have hB : Below A.heap.size A (A.alloc (.cells #[.int .i64 ((m : Int) + 1)] 3)):=(Below.refl _ _).alloc (lQ _) _
 have hci:=hc.below hB
 refine ⟨(h.unbox.keepM hJ (KeepM.of_below hB)).box (OneC.offM ⟨fun ho=>by have:=h.lt _ ho; omega,?_⟩ hci.noCells),hci,he.keep (CKp.of_below hB _) (fun b h=>.inl h)⟩
 have:=(Blk.new A 3 #[.int .i64 ((m : Int) + 1)]).cell 0
 rw [this,hm]
 simp
 omega
def BK (B0 : Nat) (A w : World) : Prop:=∀ k o,B0 <= k -> A.heap[k]? = some o -> bookO o = true -> w.heap[k]? = some o
theorem ChartInv.maps {d : ChartD} {O : Nat -> Prop} {w : World} (h : ChartInv d O w) {b : Nat} (hb : MM d b) : ∃ x,w.heap[b]? = some x /\ x.isCells = false /\ bookO x = false:=by
 obtain ⟨_,MS,MR,hm⟩:=h
 rcases hb with rfl | rfl
 ·obtain ⟨_,⟨es,clock,h3,_⟩,_⟩:=hm.hS
  exact ⟨_,h3,rfl,rfl⟩
 ·obtain ⟨_,⟨es,clock,h3,_⟩,_⟩:=hm.hR
  exact ⟨_,h3,rfl,rfl⟩
theorem KeepC.offM {d : ChartD} {O O' : Nat -> Prop} {A B : World} (h : KeepC (fun b=>O b \/ MM d b) A B) (hc : ChartInv d O' A) : KeepC O A B:=
 ⟨h.size,fun k o hk ho hn=>h.cells k o hk ho fun hm=>hm.elim hn fun hm=>(by
  obtain ⟨x,h1,h2,_⟩:=hc.maps hm
  rw [h1] at hk
  cases hk
  rw [h2] at ho
  cases ho),h.io⟩
theorem BK.keepB {d : ChartD} {O : Nat -> Prop} {B0 B1 : Nat} {A w w' : World} (h : BK B0 A w) (hc : ChartInv d O A) (hB : A.heap.size <= B1) (hk : KeepB (MM d) B1 w w') : BK B0 A w':=fun k o h1 h2 h3=>
 hk.same k o (h k o h1 h2 h3) (fun hm=>(by
  obtain ⟨x,e1,_,e3⟩:=hc.maps hm
  rw [e1] at h2
  cases h2
  rw [e3] at h3
  cases h3)) (fun hge=>(by have:=heap_lt h2; omega))
abbrev csX (d : ChartD) (a b p2 p3 p4 MB m q1 q2 q3 q4 s : Nat) : List (Nat × Value):=csP d a b p2 p3 p4 ++ [(MB,.int .i64 (m : Int))] ++ [(q1,.pointer (some ⟨d.C,0,none⟩))] ++ [(q2,.int .i64 (s : Int))] ++ [(q3,.int .i64 (a : Int))] ++ [(q4,.int .i64 (m : Int))]
theorem prefix_two {α β : Type} {fx : α -> List β} {pre : List α} {x : α} {L : List α} {zs : List β} (h : pre ++ [x] <+: L) (h2 : zs <+: fx x) : pre.flatMap fx ++ zs <+: L.flatMap fx:=by
 obtain ⟨t,rfl⟩:=h
 obtain ⟨u,hu⟩:=h2
 exact ⟨u ++ t.flatMap fx,by simp [<- hu]⟩
theorem partsF_len {sy : Nat -> Nat -> Nat -> Nat} {tk : List Nat} {tr : Nat -> Nat -> Nat -> List PTree} : ∀ (its : List PItem) (a b : Nat) (ts : List PTree),ts ∈ partsF sy tk tr its a b -> ts.length <= its.length
 | [],_,_,ts,h=>by
  rw [partsF,mS] at h
  rw [h]
  exact lQ _
 | i :: t,a,b,ts,h=>by
  rw [partsF] at h
  split at h
  ·have:=partsF_len t _ _ ts h
   rw [List.length_cons]
   omega
  ·obtain ⟨k,_,h⟩:=List.mem_flatMap.1 h
   split at h
   ·cases h
   ·obtain ⟨x,_,h⟩:=List.mem_flatMap.1 h
    obtain ⟨us,h1,rfl⟩:=List.mem_map.1 h
    have:=partsF_len t _ _ us h1
    simp only [List.length_cons]
    omega
theorem KeepM.keepC' {O : Nat -> Prop} {A B : World} (h : KeepM (fun _=>False) A B) : KeepC O A B:=⟨h.1,fun k _ hk _ _=>(h.2 k (heap_lt hk) (fun h=>h)).trans hk,h.io⟩
theorem info34 : (Tryz.prog.info? 34).map (fun i=>(i.zero,i.size,i.bytes)) = some (some (.agg #[.int .i64 0,.int .i64 0,.int .i64 0,.slice none 0 0]),4,48):=by kernel_rfl
abbrev tagg (tr1 ta tb : Int) (tv : Value) : Value:=.agg #[.int .i64 tr1,.int .i64 ta,.int .i64 tb,tv]
theorem parts_sym {d : ChartD} {rk : Nat -> Nat} (ok : ChartOK d rk) {D : Nat} {tr : Nat -> Nat -> Nat -> List PTree} (htr : TreesC d rk D tr) {i : PItem} {t : List PItem} {n a b p1 p2 p3 p4 : Nat} (hn : Chain d.E (i :: t) n) (hsuf : ∃ r,r < d.g.length /\ (i :: t) <:+ ruleOf d.g r) (hrk : ∀ j ∈ i :: t,j.cls = 0 -> rk j.sym < D) (hcl : i.cls = 0)
  (hab : a + (t.length + 1) <= b) (hbt : b <= d.tk.length)
  (ih : ∀ m q1 q2 q3 q4,a + 1 <= m -> m + t.length <= b -> SeqM Tryz.prog 197 (ptr4 q1 q2 q3 q4) (MM d) (InvP d (d.E.getD (d.E.getD n PEnd.zero).next PEnd.zero) m b q1 q2 q3 q4) VSub (fun _=>True) (partsF d.sy d.tk tr t m b)) :
  SeqM Tryz.prog 197 (ptr4 p1 p2 p3 p4) (MM d) (InvP d (d.E.getD n PEnd.zero) a b p1 p2 p3 p4) VSub (fun _=>True) (partsF d.sy d.tk tr (i :: t) a b):=by
 intro l J Jx O W hMl hl hinv _ hO hJ hJx hY h0
 rw [partsF,if_neg (by simpa using hcl)] at hY ⊢
 have htl:=ok.tlen
 have hel:=ok.elen
 obtain ⟨r0,hr0,hsuf0⟩:=hsuf
 have hi64 : i.sym < 64:=(ok.ecls r0 hr0 i (hsuf0.subset (List.mem_cons_self ..))).2
 have hsuft : t <:+ ruleOf d.g r0:=(List.suffix_cons i t).trans hsuf0
 have hrki : rk i.sym < D:=hrk i (List.mem_cons_self ..) hcl
 have hrkt : ∀ j ∈ t,j.cls = 0 -> rk j.sym < D:=fun j hj=>hrk j (List.mem_cons_of_mem _ hj)
 obtain ⟨cnt,hcnt⟩ : ∃ cnt,cnt = b - a - t.length:=⟨_,rfl⟩
 rw [<- hcnt] at hY ⊢
 generalize hf : (fun k=>if restN d.sy d.tk t (a + 1 + k) b = 0 then [] else (tr i.sym a (a + 1 + k)).flatMap fun x=>(partsF d.sy d.tk tr t (a + 1 + k) b).map (x :: ·)) = f at *
 generalize hxs : (List.range cnt).flatMap f = xs at *
 obtain ⟨e,he⟩ : ∃ e,e = d.E.getD n PEnd.zero:=⟨_,rfl⟩
 obtain ⟨W1,hW1⟩ : ∃ W1,W1 = W.alloc (.cells #[.func (.yield l) #[] #[]] 272):=⟨_,rfl⟩
 have hB1 : Below W.heap.size W W1:=by rw [hW1]; exact (Below.refl _ _).alloc (lQ _) _
 have kY : Blk W1 W.heap.size 272 #[.func (.yield l) #[] #[]]:=by rw [hW1]; exact Blk.new _ _ _
 have hek : e.item = i /\ e.items = t.length + 1 /\ Chain d.E t e.next:=by rw [he]; exact hn.2
 rw [<- he] at hinv hY ih ⊢
 obtain ⟨hs1,hs2,hs3⟩:=startP hinv h0 hO hJ hB1 kY
 obtain ⟨YB,hYB⟩ : ∃ YB,YB = W.heap.size:=⟨_,rfl⟩
 have hs1' : Hid (LT d l YB (csP d a b p2 p3 p4) W O J (.slice none 0 0) [] [] [] O W1):=Hd (by rw [hYB]; exact hs1)
 replace hs2:=Hd hs2
 replace hs3:=Hd hs3
 obtain ⟨he1,he2,he3⟩:=hek
 have hnx:=he3.lt
 replace he:=Hd he
 have x0 : W1.cell? ⟨p1,0,none⟩ = some (.int .u16 0):=by have:=hs2.out.2.c0; rw [he1,hcl] at this; exact this
 have x3 : W1.cell? ⟨p1,3,none⟩ = some (.int .i64 ((t.length + 1 : Nat) : Int)):=by have:=hs2.out.2.c3; rw [he2] at this; simpa using this
 have y3 : W1.cell? ⟨p3,0,none⟩ = some (.int .i64 (a : Int)):=(hs1'.out.bx (p3,_) (by simp)).2
 replace hJ:=Hd hJ
 replace hJx:=Hd hJx
 replace hY:=Hd hY
 replace hinv:=Hd hinv
 replace hB1:=Hd hB1
 replace hxs:=Hd hxs
 replace hf:=Hd hf
 replace ih:=Hd ih
 replace hn:=Hd hn
 replace he1:=Hd he1
 replace he2:=Hd he2
 replace hcnt:=Hd hcnt
 clear hs1 kY
 obtain ⟨q,hq⟩ : ∃ q,q = t.length + 1:=⟨_,rfl⟩
 rw [<- hq] at x3
 have hq0 : ¬ (q : Int) = 0:=by omega
 have hqb : q <= 41:=by omega
 replace hq:=Hd hq
 refine callsIn_wide.1 (callsIn_of_wp_marks (n:=0) Tryz.func197 rfl trivial (wpIn_wide.2 ?_))
 simp only [ptr4,Tryz.ntmps197,List.size_toArray,List.length_cons,List.length_nil,Nat.reduceAdd,Nat.reduceSub,Array.replicate_succ,Array.replicate_zero,List.push_toArray,List.append_toArray,List.nil_append,List.cons_append]
 go_upto_region 1 with fail
 rw [<- hW1,<- hYB]
 replace hYB:=Hd hYB
 clear hW1
 obtain ⟨W2,hW2⟩ : ∃ W2,W2 = W1.alloc (.cells #[.int .i64 ((a : Int) + 1)] 3):=⟨_,rfl⟩
 have hB2 : Below W1.heap.size W1 W2:=by rw [hW2]; exact (Below.refl _ _).alloc (lQ _) _
 have kM : Blk W2 W1.heap.size 3 #[.int .i64 ((a + 1 + 0 : Nat) : Int)]:=by rw [hW2]; exact Blk.new _ _ _
 obtain ⟨MB,hMB⟩ : ∃ MB,MB = W1.heap.size:=⟨_,rfl⟩
 have hc2:=Hd (hs3.out.below hB2)
 have hl2 : Hid (LT d l YB (csP d a b p2 p3 p4 ++ [(MB,.int .i64 ((a + 1 + 0 : Nat) : Int))]) W O J (.slice none 0 0) [] (((List.range 0)).flatMap f) [] O W2):=Hd ((hs1'.out.keepM hJ.out (KeepM.of_below hB2)).box (OneC.offM ⟨fun h=>by have:=hs1'.out.lt _ h; omega,by rw [hMB]; exact kM.cell 0⟩ hc2.out.noCells))
 have he2':=Hd (hs2.out.keep (CKp.of_below hB2 _) (fun b h=>.inl h))
 replace hMB:=Hd hMB
 replace hW2:=Hd hW2
 clear hB2 kM
 go_wp2_with fail
 rw [<- hW2.out,<- hMB.out]
 clear hW2 hMB x0 x3 y3
 refine wp_loop (fun a' w'=>∃ (k MB : Nat) (u : Nat -> Value) (Ds : List Nat) (O2 : Nat -> Prop),a' = ⟨#[.func (.yield l) #[] #[],.pointer (some ⟨p1,0,none⟩),.pointer (some ⟨p2,0,none⟩),.pointer (some ⟨p3,0,none⟩),.pointer (some ⟨p4,0,none⟩),.pointer (some ⟨YB,0,none⟩),.pointer (some ⟨MB,0,none⟩),undef,undef,(u 9),(u 10),(u 11),(u 12),(u 13),(u 14),(u 15),(u 16),(u 17),(u 18),(u 19),(u 20),(u 21),(u 22),(u 23),(u 24),(u 25),(u 26),(u 27),(u 28),(u 29),(u 30),(u 31),(u 32),(u 33),(u 34),(u 35),(u 36),(u 37),(u 38),(u 39),(u 40),(u 41),(u 42),(u 43),(u 44),(u 45),(u 46),(u 47),(u 48),(u 49),(u 50),(u 51),(u 52),undef,undef,undef,undef,undef,undef,undef,undef,undef,undef,undef,undef,undef,undef,undef,(u 68)],marks Ds⟩ /\ k <= cnt /\ Hid (LT d l YB (csP d a b p2 p3 p4 ++ [(MB,.int .i64 ((a + 1 + k : Nat) : Int))]) W O J (.slice none 0 0) [] ((List.range k).flatMap f) Ds O2 w') /\ Hid (ChartInv d O2 w') /\ Hid (EP d p1 e O2 w'))
  (fun a' w'=>b + 1 - (intOf ((w'.cell? (ptrOf (a'.tmps.getD 6 undef))).getD undef)).toNat) ?start ?round
 case start=>
  exact ⟨0,MB,(fun n=>([undef,undef,undef,undef,undef,undef,undef,undef,undef,_,_,_,_,_,_,_,_,_,_,_,_,_,_,_,_,_,_,_,_,_,_,_,_,_,_,_,_,_,_,_,_,_,_,_,_,_,_,_,_,_,_,_,_,undef,undef,undef,undef,undef,undef,undef,undef,undef,undef,undef,undef,undef,undef,undef,_] : List Value).getD n undef),[],O,rfl,Nat.zero_le _,hl2,hc2,he2'⟩
 case round=>
  rintro a' w' ⟨k,MB',u,Ds,O2,rfl,hk,hlp,hci,hep⟩
  rename World=>wr
  clear hl2 hc2 he2'
  have x3 : wr.cell? ⟨p1,3,none⟩ = some (.int .i64 ((t.length + 1 : Nat) : Int)):=by have:=hep.out.2.c3; rw [he2.out] at this; simpa using this
  rw [<- hq.out] at x3
  have x2 : wr.cell? ⟨p1,2,none⟩ = some (.int .i64 (e.next : Int)):=by have:=hep.out.2.c2; simpa using this
  have x1 : wr.cell? ⟨p1,1,none⟩ = some (.int .i64 (i.sym : Int)):=by have:=hep.out.2.c1; rw [he1.out] at this; simpa using this
  obtain ⟨m,hm⟩ : ∃ m,m = a + 1 + k:=⟨_,rfl⟩
  rw [<- hm] at hlp
  have y2 : wr.cell? ⟨p2,0,none⟩ = some (.pointer (some ⟨d.C,0,none⟩)):=(hlp.out.bx (p2,_) (by simp)).2
  have y3 : wr.cell? ⟨p3,0,none⟩ = some (.int .i64 (a : Int)):=(hlp.out.bx (p3,_) (by simp)).2
  have y4 : wr.cell? ⟨p4,0,none⟩ = some (.int .i64 (b : Int)):=(hlp.out.bx (p4,_) (by simp)).2
  have y5 : wr.cell? ⟨YB,0,none⟩ = some (.func (.yield l) #[] #[]):=hlp.out.yb.2
  have y6 : wr.cell? ⟨MB',0,none⟩ = some (.int .i64 (m : Int)):=(hlp.out.bx (MB',_) (by simp)).2
  have hmq : k < cnt ↔ (m : Int) <= (b : Int) - (q : Int) + 1:=by have:=hcnt.out; have:=hq.out; omega
  by_cases hlt : k < cnt
  ·have hm1:=hmq.1 hlt
   have hmb : m + t.length <= b:=by have:=hcnt.out; omega
   have hma : a + 1 <= m:=by omega
   replace hm:=Hd hm
   have hrest:=Hd (rest_any ok D t e.next m b O2 wr he3 ⟨r0,hr0,hsuft⟩ hrkt (by omega) hbt hci.out hlp.out.lt)
   go_wp2_with fail
   refine hrest.out.mono ?_
   rintro e3 w3 ⟨v3,rfl,hv3,hc3,hk3⟩
   have hl3:=Hd (hlp.out.keepM hJ.out hk3)
   have hep3:=Hd (hep.out.keep (w':=w3) (CKp.of_keepM hk3 hci.out.noCells _) (fun b h=>.inl h))
   replace hc3:=Hd hc3
   have hy6:=Hd y6
   clear hrest hlp hci hep hk3 x1 x2 x3 y2 y3 y4 y5 y6 hmq
   have hfr : Hid (f k = if restN d.sy d.tk t m b = 0 then [] else (tr i.sym a m).flatMap fun x=>(partsF d.sy d.tk tr t m b).map (x :: ·)):=Hd (by rw [<- hf.out,hm.out])
   have hys : Hid ((List.range (k + 1)).flatMap f = (List.range k).flatMap f ++ f k):=Hd (by rw [List.range_succ,List.flatMap_append]; simp)
   have x2 : w3.cell? ⟨p1,2,none⟩ = some (.int .i64 (e.next : Int)):=by have:=hep3.out.2.c2; simpa using this
   have x1 : w3.cell? ⟨p1,1,none⟩ = some (.int .i64 (i.sym : Int)):=by have:=hep3.out.2.c1; rw [he1.out] at this; simpa using this
   have y2 : w3.cell? ⟨p2,0,none⟩ = some (.pointer (some ⟨d.C,0,none⟩)):=(hl3.out.bx (p2,_) (by simp)).2
   have y3 : w3.cell? ⟨p3,0,none⟩ = some (.int .i64 (a : Int)):=(hl3.out.bx (p3,_) (by simp)).2
   have y4 : w3.cell? ⟨p4,0,none⟩ = some (.int .i64 (b : Int)):=(hl3.out.bx (p4,_) (by simp)).2
   have y6 : w3.cell? ⟨MB',0,none⟩ = some (.int .i64 (m : Int)):=(hl3.out.bx (MB',_) (by simp)).2
   have lM:=cell_lt y6
   rcases hv3 with ⟨h0,A3,c3,rfl,_⟩ | ⟨h0,hl0,b3,off3,c3,rfl,_⟩
   ·have hf0 : f k = []:=by rw [hfr.out,if_pos h0]
    rw [hf0,List.append_nil] at hys
    go_wp2_with fail
    obtain ⟨n1,n2,n3⟩:=next_box (k:=k) hl3.out hc3.out hep3.out hJ.out hm.out
    rw [<- hys.out] at n1
    replace n1:=Hd n1
    replace n2:=Hd n2
    replace n3:=Hd n3
    refine ⟨⟨k + 1,w3.heap.size,(fun n=>([undef,undef,undef,undef,undef,undef,undef,undef,undef,_,_,_,_,_,_,_,_,_,_,_,_,_,_,_,_,_,_,_,_,_,_,_,_,_,_,_,_,_,_,_,_,_,_,_,_,_,_,_,_,_,_,_,_,undef,undef,undef,undef,undef,undef,undef,undef,undef,undef,undef,undef,undef,undef,undef,_] : List Value).getD n undef),Ds,O2,rfl,by omega,n1,n2,n3⟩,?_⟩
    ·have e1:=(n1.out.bx (w3.heap.size,.int .i64 ((a + 1 + (k + 1) : Nat) : Int)) (List.mem_append_right _ (mS.2 rfl))).2
     simp only at e1
     show b + 1 - (intOf (((w3.alloc (.cells #[.int .i64 ((m : Int) + 1)] 3)).cell? ⟨w3.heap.size,0,none⟩).getD undef)).toNat < b + 1 - (intOf ((wr.cell? ⟨MB',0,none⟩).getD undef)).toNat
     rw [e1,hy6.out]
     have:=hm.out
     simp [intOf]; omega
   ·have hmake:=Hd (treesMake d.C i.sym a m w3)
    go_wp2_with fail
    refine hmake.out.mono ?_
    rintro e4 w4 ⟨q1,q2,q3,q4,rfl,hqs,kq1,kq2,kq3,kq4,hb4⟩
    clear hmake x1 x2 y2 y3 y4 y6
    have hl4:=Hd (hl3.out.keepM hJ.out (KeepM.of_below hb4))
    have hc4:=Hd (hc3.out.below hb4)
    have hep4:=Hd (hep3.out.keep (CKp.of_below hb4 _) (fun b h=>.inl h))
    have hqO : Hid (∀ q,w3.heap.size <= q -> ¬ O2 q):=Hd fun q h1 h2=>by have:=hl3.out.lt q h2; omega
    have hinvT : Hid (InvT d i.sym a m q1 q2 q3 q4 O2 w4):=Hd ⟨hc4.out,⟨hqO.out _ hqs.1,kq1.cell 0⟩,⟨hqO.out _ hqs.2.1,kq2.cell 0⟩,⟨hqO.out _ hqs.2.2.1,kq3.cell 0⟩,⟨hqO.out _ hqs.2.2.2,kq4.cell 0⟩⟩
    have hWs : Hid (W.heap.size <= w4.heap.size):=Hd hl4.out.kc.size
    have hDlt : Hid (∀ D' ∈ Ds,D' < w4.heap.size):=Hd fun D' h=>heap_lt (hl4.out.mks D' h).1
    clear hl3 hc3 hep3 hqO kq1 kq2 kq3 kq4 hb4
    obtain ⟨fx,hfx⟩ : ∃ fx : PTree -> List (List PTree),fx = fun x=>(partsF d.sy d.tk tr t m b).map (x :: ·):=⟨_,rfl⟩
    rw [if_neg h0,<- hfx] at hfr
    replace hfx:=Hd hfx
    have hpfx : Hid (∀ zs,zs <+: f k -> (List.range k).flatMap f ++ zs <+: xs):=Hd (fun zs hz=>by
     have h1 : (List.range cnt).flatMap f = xs:=hxs.out
     have h2 : (List.range (k + 1)).flatMap f <+: xs:=by
      rw [<- h1]
      have h3 : List.range cnt = List.range (k + 1) ++ (List.range (cnt - (k + 1))).map (k + 1 + ·):=by
       have:=List.range_add (n:=k + 1) (m:=cnt - (k + 1))
       rwa [show k + 1 + (cnt - (k + 1)) = cnt by omega] at this
      rw [h3,List.flatMap_append]
      exact List.prefix_append _ _
     rw [hys.out] at h2
     exact List.IsPrefix.trans (by rw [List.prefix_append_right_inj]; exact hz) h2)
    have hl4' : Hid (LT d l YB (csP d a b p2 p3 p4 ++ [(MB',.int .i64 (m : Int))]) W O J (.slice none 0 0) [] ((List.range k).flatMap f ++ ([] : List PTree).flatMap fx) Ds O2 w4):=Hd (by rw [List.flatMap_nil,List.append_nil]; exact hl4.out)
    go_wp2_with fail
    refine (wpIn_wide (n:=0)).1 (range_M (gf:=176) (lb:=ptr4 q1 q2 q3 q4) rfl (enters_of Tryz.func176 (by kernel_rfl) rfl) (htr i.sym a m q1 q2 q3 q4 hi64 hrki (by omega) (by omega)) trivial
     (fun _ _ _ _=>trivial) (fun b h=>hc4.out.MM_lt h) (InvT.still ..) VTree.still (fun O x vs W h=>by obtain ⟨v,h,_⟩:=h; rw [h]; rfl)
     (fun pre O3 w'=>LT d l YB (csP d a b p2 p3 p4 ++ [(MB',.int .i64 (m : Int))]) W O J (.slice none 0 0) [] ((List.range k).flatMap f ++ pre.flatMap fx) Ds O3 w' /\ EP d p1 e O3 w')
     (fun c' pre O3 w'=>c' = .ret /\ ∃ ys,ys <+: xs /\ LT d l YB (csP d a b p2 p3 p4 ++ [(MB',.int .i64 (m : Int))]) W O Jx (.slice none 0 0) [] ys Ds O3 w' /\ EP d p1 e O3 w')
     (fun pre=>⟨fun O3 A B h hb hk=>⟨h.1.calm hJ.out hWs.out hDlt.out hk,h.2.keep (CKp.of_keepB_ hk) (fun b h=>.inl h)⟩⟩) (fun c' pre=>⟨fun O3 A B h hb hk=>let ⟨h1,ys,h2,h3,h4⟩:=h; ⟨h1,ys,h2,h3.calm hJx.out hWs.out hDlt.out hk,h4.keep (CKp.of_keepB_ hk) (fun b h=>.inl h)⟩⟩)
     O2 hl4.out.lt hinvT.out ⟨hl4'.out,hep4.out⟩
     (fun x vs O3 a' w'=>∃ (TB : Nat) (tr1 ta tb : Int) (tv : Value) (u : Nat -> Value),vs = #[.agg #[.int .i64 tr1,.int .i64 ta,.int .i64 tb,tv]] /\ a' = ⟨#[.func (.yield l) #[] #[],.pointer (some ⟨p1,0,none⟩),.pointer (some ⟨p2,0,none⟩),.pointer (some ⟨p3,0,none⟩),.pointer (some ⟨p4,0,none⟩),.pointer (some ⟨YB,0,none⟩),.pointer (some ⟨MB',0,none⟩),.pointer (some ⟨TB,0,none⟩),u 8,u 9,u 10,u 11,u 12,u 13,u 14,u 15,u 16,u 17,u 18,u 19,u 20,u 21,u 22,u 23,u 24,u 25,u 26,u 27,u 28,u 29,u 30,u 31,u 32,u 33,u 34,u 35,u 36,u 37,u 38,u 39,u 40,u 41,u 42,u 43,u 44,u 45,u 46,u 47,u 48,u 49,u 50,u 51,u 52,.agg #[.int .i64 tr1,.int .i64 ta,.int .i64 tb,tv],u 54,u 55,u 56,u 57,u 58,u 59,u 60,u 61,u 62,u 63,u 64,u 65,u 66,u 67,u 68],[]⟩ /\ TreeC d TB tr1 ta tb tv O3 w') (fun _ _ _=>⟨fun O3 A B h _ hk=>by
      obtain ⟨TB,tr1,ta,tb,tv,u,h1,h2,h3⟩:=h
      exact ⟨TB,tr1,ta,tb,tv,u,h1,h2,h3.keep (CKp.of_keepB_ hk) (fun b h=>.inl h)⟩⟩) ?assign ?body ?done ?stop)
    case assign=>
     rintro l' pre x vs O4 W4 K hi hv hvx hO4 hK
     obtain ⟨vv,rfl,hvt⟩:=hvx
     have hvt0:=hvt
     obtain ⟨tr1,ta,tb,sub,tv,rfl,rfl,hsub⟩:=hvt.sub
     obtain ⟨At,ct,rfl,hsub2⟩:=hsub
     have hB5 : Below W4.heap.size W4 (W4.alloc (.cells #[.int .i64 tr1,.int .i64 ta,.int .i64 tb,.slice At sub.length ct] 34)):=(Below.refl _ _).alloc (lQ _) _
     have kT:=Blk.new W4 34 #[.int .i64 tr1,.int .i64 ta,.int .i64 tb,.slice At sub.length ct]
     gi_wp2_with (fail)
     have hci5:=hv.1.below hB5
     have hkc5:=CKp.of_below hB5 O4
     refine hK _ O4 _ (fun b h=>.inl h) (fun b h=>Nat.lt_of_lt_of_le (hO4 b h) hB5.size) (KeepC.alloc _ _) ⟨hci5,hv.2.1.keep hkc5 (fun b h=>.inl h),hv.2.2.1.keep hkc5 (fun b h=>.inl h),hv.2.2.2.1.keep hkc5 (fun b h=>.inl h),hv.2.2.2.2.keep hkc5 (fun b h=>.inl h)⟩ ⟨_,rfl,TrAt.keep hkc5 (fun b h=>.inl h) _ _ hvt0⟩
      ⟨hi.1.keepM hJ.out (KeepM.of_below hB5),hi.2.keep (CKp.of_below hB5 _) (fun b h=>.inl h)⟩ (fun k' o _ h _=>(Below.heap_alloc W4 _ k' (heap_lt h)).trans h) ?_
     have hT5 : TreeC d W4.heap.size tr1 ta tb (.slice At sub.length ct) O4 (W4.alloc (.cells #[.int .i64 tr1,.int .i64 ta,.int .i64 tb,.slice At sub.length ct] 34)):=
      ⟨fun h=>h.elim (fun h=>by have:=hO4 _ h; omega) (fun h=>hci5.noCells _ h _ _ (kT.cell 0)),kT.cell 0,kT.cell 1,kT.cell 2,kT.cell 3⟩
     exact ⟨W4.heap.size,tr1,ta,tb,.slice At sub.length ct,(fun n=>([undef,undef,undef,undef,undef,undef,undef,undef,_,_,_,_,_,_,_,_,_,_,_,_,_,_,_,_,_,_,_,_,_,_,_,_,_,_,_,_,_,_,_,_,_,_,_,_,_,_,_,_,_,_,_,_,_,undef,_,_,_,_,_,_,_,_,_,_,_,_,_,_,_] : List Value).getD n undef),rfl,rfl,hT5⟩
    case body=>
     rintro l' pre x vs O4 a' W4 ⟨TB,tr1,ta,tb,tv,u,rfl,rfl,hT⟩ hl' ⟨rr,hr⟩ hpre ⟨hi,hep⟩ hv hvx hO4
     have hlw:=heap_lt hr
     have x2 : W4.cell? ⟨p1,2,none⟩ = some (.int .i64 (e.next : Int)):=by have:=hep.2.c2; simpa using this
     have y2 : W4.cell? ⟨p2,0,none⟩ = some (.pointer (some ⟨d.C,0,none⟩)):=(hi.bx (p2,_) (by simp)).2
     have y4 : W4.cell? ⟨p4,0,none⟩ = some (.int .i64 (b : Int)):=(hi.bx (p4,_) (by simp)).2
     have y6 : W4.cell? ⟨MB',0,none⟩ = some (.int .i64 (m : Int)):=(hi.bx (MB',_) (by simp)).2
     obtain ⟨ve,hec,hen⟩:=hv.1.1.cend
     obtain ⟨Ae,ce,rfl,hen1,hen2,hAe⟩:=hen
     obtain ⟨bE,oE,rfl,hbE,_,hei⟩:=hAe (by omega)
     have hee : EndAt W4 bE (oE + e.next * 4) (d.E.getD e.next PEnd.zero):=hei e.next hnx
     have hmake:=Hd (partsMake d.C e.next m b (d.E.getD e.next PEnd.zero) W4 _ d.E.length ce hnx hec ⟨bE,oE,rfl,hee⟩)
     replace hi:=Hd hi
     replace hep:=Hd hep
     replace hv:=Hd hv
     replace hT:=Hd hT
     clear hec hee hei hAe
     gi_wp2_with (fail)
     refine ⟨trivial,rfl,(callsIn_wide.2 hmake.out).mono ?_⟩
     rintro e5 w5 ⟨z1,z2,z3,z4,rfl,hzs,kz1,kz2,kz3,kz4,hb5⟩
     clear hmake x2 y2 y4 y6
     obtain ⟨vx,ex,hxt⟩:=hvx
     cases ex
     have hk5:=CKp.of_below hb5 O4
     have hi5:=Hd (hi.out.keepM hJ.out (KeepM.of_below hb5))
     have hep5:=Hd (hep.out.keep (CKp.of_below hb5 _) (fun b h=>.inl h))
     have hT5:=Hd (hT.out.keep (CKp.of_below hb5 _) (fun b h=>.inl h))
     have hc5:=Hd (hv.out.1.below hb5)
     have hzO : Hid (∀ z,W4.heap.size <= z -> ¬ O4 z):=Hd fun z h1 h2=>by have:=hO4 z h2; omega
     have hinvP5 : Hid (InvP d (d.E.getD e.next PEnd.zero) m b z1 z2 z3 z4 O4 w5):=Hd ⟨hc5.out,⟨hzO.out _ hzs.1,kz1⟩,⟨hzO.out _ hzs.2.1,kz2.cell 0⟩,⟨hzO.out _ hzs.2.2.1,kz3.cell 0⟩,⟨hzO.out _ hzs.2.2.2,kz4.cell 0⟩⟩
     have hnc5:=Hd hc5.out.noCells
     have hlX : Hid (LT d l YB (csX d a b p2 p3 p4 MB' m q1 q2 q3 q4 i.sym) W O J (.slice none 0 0) [] (((List.range k).flatMap f ++ pre.flatMap fx) ++ ([] : List (List PTree)).map (x :: ·)) Ds O4 w5):=Hd (by
      rw [List.map_nil,List.append_nil]
      exact (((hi5.out.box (x:=(q1,.pointer (some ⟨d.C,0,none⟩))) ((hv.out.2.1.keep hk5 (fun b h=>.inl h)).offM hnc5.out)).box (x:=(q2,.int .i64 (i.sym : Int))) ((hv.out.2.2.1.keep hk5 (fun b h=>.inl h)).offM hnc5.out)).box (x:=(q3,.int .i64 (a : Int))) ((hv.out.2.2.2.1.keep hk5 (fun b h=>.inl h)).offM hnc5.out)).box (x:=(q4,.int .i64 (m : Int))) ((hv.out.2.2.2.2.keep hk5 (fun b h=>.inl h)).offM hnc5.out))
     have hbk5 : Hid (BK W.heap.size W4 w5):=Hd fun k' o _ h _=>(hb5.block k' (heap_lt h)).trans h
     have htr5 : Hid (TrAt (OM d O4) w5 x (tagg tr1 ta tb tv)):=Hd ((TrAt.keep hk5 (fun b h=>.inl h) x _ hxt).offM hnc5.out)
     have hr5:=Hd ((hb5.block l' hlw).trans hr)
     have hlt5 : Hid (∀ b,O4 b -> b < w5.heap.size):=Hd fun b h=>Nat.lt_of_lt_of_le (hO4 b h) hb5.size
     have hW5 : Hid (W.heap.size <= w5.heap.size):=Hd hi5.out.kc.size
     have hD5 : Hid (∀ D' ∈ Ds,D' < w5.heap.size):=Hd fun D' h=>heap_lt (hi5.out.mks D' h).1
     have hsz5:=Hd hb5.size
     have hkc5 : Hid (KeepC O4 W4 w5):=Hd ⟨hb5.size,fun k' o h _ _=>(hb5.block k' (heap_lt h)).trans h,hb5.os,hb5.tape,hb5.output⟩
     have hcW4:=Hd hv.out.1
     have hppx : Hid (∀ zs,zs <+: fx x -> ((List.range k).flatMap f ++ pre.flatMap fx) ++ zs <+: xs):=Hd fun zs hz=>by
      rw [List.append_assoc]
      refine hpfx.out _ ?_
      rw [hfr.out]
      exact prefix_two hpre hz
     have hfxx : Hid (fx x = (partsF d.sy d.tk tr t m b).map (x :: ·)):=Hd (by rw [hfx.out])
     clear hi hep hv hT hk5 kz1 kz2 kz3 kz4 hb5 hxt hi5 hr hlw
     gi_wp2_with (fail)
     refine range_N hr5.out (gf:=197) (lb:=ptr4 z1 z2 z3 z4) rfl (enters_of Tryz.func197 (by kernel_rfl) rfl) (ih.out m z1 z2 z3 z4 hma hmb) trivial (fun _ _ _ _=>trivial) (fun b h=>hc5.out.MM_lt h) (InvP.still ..) VSub.still (fun O x vs W h=>by obtain ⟨v,h,_⟩:=h; rw [h]; rfl)
      (fun pre2 O3 w'=>LT d l YB (csX d a b p2 p3 p4 MB' m q1 q2 q3 q4 i.sym) W O J (.slice none 0 0) [] (((List.range k).flatMap f ++ pre.flatMap fx) ++ pre2.map (x :: ·)) Ds O3 w' /\ EP d p1 e O3 w' /\ TreeC d TB tr1 ta tb tv O3 w' /\ TrAt (OM d O3) w' x (tagg tr1 ta tb tv) /\ BK W.heap.size W4 w')
      (fun c' pre2 O3 w'=>c' = .ret /\ (∃ ys,ys <+: xs /\ LT d l YB (csX d a b p2 p3 p4 MB' m q1 q2 q3 q4 i.sym) W O Jx (.slice none 0 0) [] ys Ds O3 w') /\ EP d p1 e O3 w' /\ BK W.heap.size W4 w')
      (fun pre2=>⟨fun O3 A B h hb hk=>⟨h.1.calm hJ.out hW5.out hD5.out hk,h.2.1.keep (CKp.of_keepB_ hk) (fun b h=>.inl h),h.2.2.1.keep (CKp.of_keepB_ hk) (fun b h=>.inl h),TrAt.keep (CKp.of_keepB_ hk) (fun b h=>.inl h) x _ h.2.2.2.1,h.2.2.2.2.keepB hcW4.out hsz5.out hk⟩⟩)
      (fun c' pre2=>⟨fun O3 A B h hb hk=>let ⟨h1,⟨ys,h2,h3⟩,h4,h5⟩:=h; ⟨h1,⟨ys,h2,h3.calm hJx.out hW5.out hD5.out hk⟩,h4.keep (CKp.of_keepB_ hk) (fun b h=>.inl h),h5.keepB hcW4.out hsz5.out hk⟩⟩)
      O4 hlt5.out hinvP5.out ⟨hlX.out,hep5.out,hT5.out,htr5.out,hbk5.out⟩
      (fun y vs O3 a' w'=>∃ (sv : Value) (u2 : Nat -> Value),vs = #[sv] /\ a' = ⟨#[.func (.yield l) #[] #[],.pointer (some ⟨p1,0,none⟩),.pointer (some ⟨p2,0,none⟩),.pointer (some ⟨p3,0,none⟩),.pointer (some ⟨p4,0,none⟩),.pointer (some ⟨YB,0,none⟩),.pointer (some ⟨MB',0,none⟩),.pointer (some ⟨TB,0,none⟩),sv,u2 9,u2 10,u2 11,u2 12,u2 13,u2 14,u2 15,u2 16,u2 17,u2 18,u2 19,u2 20,u2 21,u2 22,u2 23,u2 24,u2 25,u2 26,u2 27,u2 28,u2 29,u2 30,u2 31,u2 32,u2 33,u2 34,u2 35,u2 36,u2 37,u2 38,u2 39,u2 40,u2 41,u2 42,u2 43,u2 44,u2 45,u2 46,u2 47,u2 48,u2 49,u2 50,u2 51,u2 52,u2 53,u2 54,u2 55,u2 56,u2 57,u2 58,u2 59,sv,u2 61,u2 62,u2 63,u2 64,u2 65,u2 66,u2 67,u2 68],[]⟩) (fun _ _ _=>⟨fun _ _ _ h _ _=>h⟩) ?assign2 ?body2 ?done2 ?stop2
     case assign2=>
      rintro l2 pre2 y vs O6 W6 K hi2 hv2 hvy hO6 hK
      obtain ⟨sv,rfl,hsv⟩:=hvy
      gi_wp2_with (fail)
      refine hK _ O6 W6 (fun b h=>.inl h) hO6 (KeepC.refl _ _) hv2 ⟨sv,rfl,hsv⟩ hi2 (fun k o _ h _=>h) ?_
      exact ⟨sv,(fun n=>([undef,undef,undef,undef,undef,undef,undef,undef,undef,_,_,_,_,_,_,_,_,_,_,_,_,_,_,_,_,_,_,_,_,_,_,_,_,_,_,_,_,_,_,_,_,_,_,_,_,_,_,_,_,_,_,_,_,_,_,_,_,_,_,_,undef,_,_,_,_,_,_,_,_] : List Value).getD n undef),rfl,rfl⟩
     case body2=>
      rintro l2 pre2 y vs O6 a' W6 ⟨sv,u2,rfl,rfl⟩ hl2 ⟨rr2,hr2⟩ hpre2 ⟨hi2,hep2,hT2,htr2,hbk2⟩ hv2 hvy hO6
      obtain ⟨sv',ey,hsv⟩:=hvy
      cases ey
      obtain ⟨Asv,csv,cls,rfl,hsn,hcl,hsa⟩:=hsv.cells
      have hlw2:=heap_lt hr2
      have i0:=hi2.yb.2
      obtain ⟨hTo,t0,t1,t2,t3⟩:=hT2
      have hyt : tv.oneCell' = true:=by have:=htr2.one; exact this tv (by simp)
      have hpre3 : Hid (((((List.range k).flatMap f ++ pre.flatMap fx) ++ pre2.map (x :: ·)) ++ [x :: y]) <+: xs):=Hd (by
       have h:=hppx.out ((pre2 ++ [y]).map (x :: ·)) (by rw [hfxx.out]; exact List.IsPrefix.map _ hpre2)
       simpa using h)
      have hylen : y.length <= 40:=by
       have h1 : y ∈ partsF d.sy d.tk tr t m b:=hpre2.subset (by simp)
       have:=partsF_len t m b y h1
       omega
      have hcll:=hcl.len
      have hcl1:=Hd hcl.one
      have hi2':=Hd hi2
      have hep2':=Hd hep2
      have htr2':=Hd htr2
      have hbk2':=Hd hbk2
      have hv2':=Hd hv2
      have hcl':=Hd hcl
      have hsv':=Hd hsv
      have hO6':=Hd hO6
      have hTo':=Hd hTo
      have j0:=Hd i0
      have g0:=Hd t0
      have g1:=Hd t1
      have g2:=Hd t2
      have g3:=Hd t3
      have lT:=cell_lt t0
      have lY:=cell_lt i0
      clear hi2 hep2 htr2 hbk2 hv2 hcl hsv hO6 hTo i0 t0 t1 t2 t3 hpre2 hr2
      obtain ⟨i34,hi34,hz0,hz1,hz2⟩:=info_parts info34
      have hl5le : Hid (w5.heap.size <= W6.heap.size):=Hd (Nat.le_of_lt (Nat.lt_of_le_of_lt hl2 hlw2))
      gi_wp2_with (fail)
      rcases Asv with _ | ad
      ·obtain ⟨rfl,rfl⟩:=hsn rfl
       obtain rfl : cls = []:=hcl'.out
       simp only [List.length_nil]
       refine wpIn_region_flowT (C:=fun w2=>w2.cell? ⟨YB,0,none⟩ = some (.func (.yield l) #[] #[]) /\ (w2.cell? ⟨TB,0,none⟩ = some (.int .i64 tr1) /\ w2.cell? ⟨TB,1,none⟩ = some (.int .i64 ta)) /\ (w2.cell? ⟨TB,2,none⟩ = some (.int .i64 tb) /\ w2.cell? ⟨TB,3,none⟩ = some tv)) [true,true,false,true,false] [2,4] (by kernel_rfl) (by kernel_rfl) (by kernel_rfl) (by kernel_rfl) rfl (by kernel_rfl) (by kernel_rfl)
        (fun w2 hb=>⟨(hb.cell (p:=⟨YB,0,none⟩) lY).trans j0.out,⟨(hb.cell (p:=⟨TB,0,none⟩) lT).trans g0.out,(hb.cell (p:=⟨TB,1,none⟩) lT).trans g1.out⟩,⟨(hb.cell (p:=⟨TB,2,none⟩) lT).trans g2.out,(hb.cell (p:=⟨TB,3,none⟩) lT).trans g3.out⟩⟩) ?Av1 ?qv1 (fun ⟨_,_,h⟩=>h) ?tv1
       case qv1=>
        intro S' hS hSC hne
        have s0:=fun (u : UpsC S')=>(hSC u.wld u.mem).1
        have s1:=fun (u : UpsC S')=>(hSC u.wld u.mem).2.1.1
        have s2:=fun (u : UpsC S')=>(hSC u.wld u.mem).2.1.2
        have s3:=fun (u : UpsC S')=>(hSC u.wld u.mem).2.2.1
        have s4:=fun (u : UpsC S')=>(hSC u.wld u.mem).2.2.2
        simp only [pickB,if_true,if_false,Bool.false_eq_true]
        repeat (go_big_quiet_step (fail))
        refine wpQuiet_nil ?_
        rfl
       simp only [pickB,if_true,if_false,Bool.false_eq_true,Bool.true_eq_false]
       refine mkTL_cons rfl fun w7 hb7 Q2 hQ2=>?_
       obtain ⟨w8,hw8⟩ : ∃ w8,w8 = w7.alloc (.cells #[.int .i64 tr1,.int .i64 ta,.int .i64 tb,tv] 34):=⟨_,rfl⟩
       have hb8 : Hid (Below W6.heap.size W6 w8):=Hd (by rw [hw8]; exact hb7.alloc hb7.size _)
       have hn8 : Hid (Blk w8 w7.heap.size 34 #[.int .i64 tr1,.int .i64 ta,.int .i64 tb,tv]):=Hd (by rw [hw8]; exact Blk.new _ _ _)
       have hG8 : Hid (W6.heap.size <= w7.heap.size):=Hd hb7.size
       clear hb7
       go_wp2_with fail
       rw [<- hw8]
       clear hw8
       generalize w7.heap.size = G8 at *
       refine hQ2 _ _ rfl (fun w2 h2=>have hb:=hb8.out.trans (h2.mono hb8.out.size); ⟨(hb.cell (p:=⟨YB,0,none⟩) lY).trans j0.out,⟨(hb.cell (p:=⟨TB,0,none⟩) lT).trans g0.out,(hb.cell (p:=⟨TB,1,none⟩) lT).trans g1.out⟩,⟨(hb.cell (p:=⟨TB,2,none⟩) lT).trans g2.out,(hb.cell (p:=⟨TB,3,none⟩) lT).trans g3.out⟩⟩) ?_
       clear hQ2
       refine mkTL_cons rfl fun w9 hb9 Q2 hQ2=>?_
       have hb9':=Hd (hb8.out.trans (hb9.mono hb8.out.size))
       have hn9:=Hd (hn8.out.below hb9 hn8.out.lt)
       have hG9:=hn9.out.lt
       have hown : Hid (w9.ownsRow W6.heap.size 34 4 (.slice (some ⟨G8,0,none⟩) 1 1) 1 [.int .i64 tr1,.int .i64 ta,.int .i64 tb,tv]):=Hd ⟨rfl,.inr ⟨G8,1,#[.int .i64 tr1,.int .i64 ta,.int .i64 tb,tv],rfl,hG8.out,hn9.out,lQ _,by decide,rfl,rfl⟩⟩
       have hsW:=hb9'.out.size
       clear hb9 hb8 hn8
       (refine wpList_append_own_none rfl (.tmp 63) (.tmp 64) 30 rfl W6.heap.size 34 i34 4 Tryz.underlying30 hi34 (.slice (some ⟨G8,0,none⟩) 1 1) 1 [.int .i64 tr1,.int .i64 ta,.int .i64 tb,tv] rfl (by exact hown.out) rfl ?_)
       have hB10 : Hid (Below W6.heap.size W6 w9):=Hd hb9'.out
       have hO10 : Hid (w9.ownsRow W6.heap.size 34 4 (.slice (some ⟨G8,0,none⟩) 1 1) 1 ([.int .i64 tr1,.int .i64 ta,.int .i64 tb,tv])):=Hd (by simpa using hown.out)
       have hg10 : Hid (W6.heap.size <= G8):=Hd (hO10.out.lt G8 rfl).1
       apply wpList_nil
       refine hQ2 _ _ rfl (fun w2 h2=>have hb:=hB10.out.trans (h2.mono hB10.out.size); ⟨(hb.cell (p:=⟨YB,0,none⟩) lY).trans j0.out,⟨(hb.cell (p:=⟨TB,0,none⟩) lT).trans g0.out,(hb.cell (p:=⟨TB,1,none⟩) lT).trans g1.out⟩,⟨(hb.cell (p:=⟨TB,2,none⟩) lT).trans g2.out,(hb.cell (p:=⟨TB,3,none⟩) lT).trans g3.out⟩⟩) ?_
       clear hQ2
       intro w11 hb11
       have hB11:=Hd (hB10.out.trans (hb11.mono hB10.out.size))
       have hO11:=Hd (row_below hO10.out hb11)
       clear hb11 hO10 hB10
       have hk11:=Hd (CKp.of_below hB11.out O6)
       have hl11:=Hd (hi2'.out.keepM hJ.out (KeepM.of_below hB11.out))
       have hep11:=Hd (hep2'.out.keep (CKp.of_below hB11.out _) (fun b h=>.inl h))
       have hT11 : Hid (TreeC d TB tr1 ta tb tv O6 w11):=Hd (TreeC.keep ⟨hTo'.out,g0.out,g1.out,g2.out,g3.out⟩ (CKp.of_below hB11.out _) (fun b h=>.inl h))
       have htr11:=Hd (TrAt.keep (CKp.of_below hB11.out (OM d O6)) (fun b h=>.inl h) x _ htr2'.out)
       have hbk11 : Hid (BK W.heap.size W4 w11):=Hd fun k' o h1 h2 h3=>have h4:=hbk2'.out k' o h1 h2 h3; (hB11.out.block k' (heap_lt h4)).trans h4
       have hiv11 : Hid (InvP d (d.E.getD e.next PEnd.zero) m b z1 z2 z3 z4 O6 w11):=Hd ((InvP.still ..).keep O6 W6 w11 hv2'.out hO6'.out ((KeepM.of_below hB11.out).keepB 0))
       have hsub11 : Hid (SubV O6 w11 (x :: ([] : List PTree)) (.slice (some ⟨G8,0,none⟩) 1 1)):=Hd (SubV.cons htr11.out.on (TrsL.keep hk11.out (fun b h=>.inl h) ([] : List PTree) ([] : List Value) hcl'.out) hO11.out rfl (fun h=>by have:=hO6'.out G8 h; have:=hg10.out; omega))
       have hlt11 : Hid (∀ b,O6 b -> b < w11.heap.size):=Hd fun b h=>Nat.lt_of_lt_of_le (hO6'.out b h) hB11.out.size
       have hsW11:=Hd hB11.out.size
       have hkc11 : Hid (KeepC O6 W6 w11):=Hd (KeepM.of_below (M:=fun _=>False) hB11.out).keepC'
       obtain ⟨fn,tmps,assign,bdy,hy,hR⟩:=hY.out _ (x :: ([] : List PTree)) #[.slice (some ⟨G8,0,none⟩) 1 1] O6 w11 hpre3.out hl11.out.j (invP_of (cs:=[(MB',.int .i64 (m : Int))] ++ [(q1,.pointer (some ⟨d.C,0,none⟩))] ++ [(q2,.int .i64 (i.sym : Int))] ++ [(q3,.int .i64 (a : Int))] ++ [(q4,.int .i64 (m : Int))]) (by simpa [csX] using hl11.out) hiv11.out.1 hep11.out) ⟨_,rfl,hsub11.out⟩ hlt11.out (Nat.le_trans hW5.out (Nat.le_trans hl5le.out hsW11.out))
       clear hsub11 hO11 hk11
       simp only [List.length_cons,List.length_nil,dS,dZ]
       gi_wp2_with (fail)
       refine ⟨rfl,(roundIn_in hR).mono ?_⟩
       clear hR hy
       rintro e12 w12 ⟨O9,k1,k2,k3,k4,k5,hcase⟩
       have hinv12 : Hid (InvP d (d.E.getD e.next PEnd.zero) m b z1 z2 z3 z4 O9 w12):=Hd ⟨k4.1,⟨notO k1 (cell_lt hiv11.out.2.1.2.c0) hiv11.out.2.1.1,hiv11.out.2.1.2.ckp hiv11.out.2.1.1 (CKp.of_keepC k3)⟩,hiv11.out.2.2.1.keep (CKp.of_keepC k3) k1,hiv11.out.2.2.2.1.keep (CKp.of_keepC k3) k1,hiv11.out.2.2.2.2.keep (CKp.of_keepC k3) k1⟩
       have hep12:=Hd (hep11.out.keep (CKp.of_keepC_ k3) k1)
       have hT12:=Hd (hT11.out.keep (CKp.of_keepC_ k3) k1)
       have htr12 : Hid (TrAt (OM d O9) w12 x (tagg tr1 ta tb tv)):=Hd (TrAt.keep (CKp.of_keepC_ k3) (fun b hb=>hb.elim (fun hb=>(k1 b hb).imp .inl id) fun hm=>.inl (.inr hm)) x _ htr11.out)
       have hbk12 : Hid (BK W.heap.size W4 w12):=Hd fun k' o h1 h2 h3=>k5 k' o h1 (hbk11.out k' o h1 h2 h3) h3
       have hsub12 : Hid (∀ b,O9 b -> O6 b \/ W6.heap.size <= b):=Hd fun b h=>(k1 b h).imp id (Nat.le_trans hsW11.out)
       have hkc12 : Hid (KeepC O6 W6 w12):=Hd (hkc11.out.trans (fun b h=>.inl h) k3)
       have hbo12 : Hid (∀ k' o,w5.heap.size <= k' -> W6.heap[k']? = some o -> bookO o = true -> w12.heap[k']? = some o):=Hd fun k' o h1 h2 h3=>k5 k' o (Nat.le_trans hW5.out h1) ((hB11.out.block k' (heap_lt h2)).trans h2) h3
       rcases hcase with ⟨rfl,hj⟩ | ⟨rfl,hj⟩
       ·have hl12:=hl11.out.yielded k1 k2 k3 k5 (J':=J) (ys':=((List.range k).flatMap f ++ pre.flatMap fx) ++ (pre2 ++ [([] : List PTree)]).map (x :: ·)) (by simpa using hj)
        gi_wp2_with (fail)
        exact ⟨O9,hsub12.out,k2,hkc12.out,hinv12.out,hbo12.out,hl12,hep12.out,hT12.out,htr12.out,hbk12.out⟩
       ·have hl12:=hl11.out.yielded k1 k2 k3 k5 hj
        gi_wp2_with (fail)
        exact ⟨O9,hsub12.out,k2,hkc12.out,hinv12.out,hbo12.out,rfl,⟨_,hpre3.out,hl12⟩,hep12.out,hbk12.out⟩
      ·clear hsn
       refine wpIn_region_flowT (C:=fun w2=>w2.cell? ⟨YB,0,none⟩ = some (.func (.yield l) #[] #[]) /\ (w2.cell? ⟨TB,0,none⟩ = some (.int .i64 tr1) /\ w2.cell? ⟨TB,1,none⟩ = some (.int .i64 ta)) /\ (w2.cell? ⟨TB,2,none⟩ = some (.int .i64 tb) /\ w2.cell? ⟨TB,3,none⟩ = some tv)) [true,true,false,true,false] [2,4] (by kernel_rfl) (by kernel_rfl) (by kernel_rfl) (by kernel_rfl) rfl (by kernel_rfl) (by kernel_rfl)
        (fun w2 hb=>⟨(hb.cell (p:=⟨YB,0,none⟩) lY).trans j0.out,⟨(hb.cell (p:=⟨TB,0,none⟩) lT).trans g0.out,(hb.cell (p:=⟨TB,1,none⟩) lT).trans g1.out⟩,⟨(hb.cell (p:=⟨TB,2,none⟩) lT).trans g2.out,(hb.cell (p:=⟨TB,3,none⟩) lT).trans g3.out⟩⟩) ?Av2 ?qv2 (fun ⟨_,_,h⟩=>h) ?tv2
       case qv2=>
        intro S' hS hSC hne
        have s0:=fun (u : UpsC S')=>(hSC u.wld u.mem).1
        have s1:=fun (u : UpsC S')=>(hSC u.wld u.mem).2.1.1
        have s2:=fun (u : UpsC S')=>(hSC u.wld u.mem).2.1.2
        have s3:=fun (u : UpsC S')=>(hSC u.wld u.mem).2.2.1
        have s4:=fun (u : UpsC S')=>(hSC u.wld u.mem).2.2.2
        simp only [pickB,if_true,if_false,Bool.false_eq_true]
        repeat (go_big_quiet_step (fail))
        refine wpQuiet_nil ?_
        rfl
       simp only [pickB,if_true,if_false,Bool.false_eq_true,Bool.true_eq_false]
       refine mkTL_cons rfl fun w7 hb7 Q2 hQ2=>?_
       obtain ⟨w8,hw8⟩ : ∃ w8,w8 = w7.alloc (.cells #[.int .i64 tr1,.int .i64 ta,.int .i64 tb,tv] 34):=⟨_,rfl⟩
       have hb8 : Hid (Below W6.heap.size W6 w8):=Hd (by rw [hw8]; exact hb7.alloc hb7.size _)
       have hn8 : Hid (Blk w8 w7.heap.size 34 #[.int .i64 tr1,.int .i64 ta,.int .i64 tb,tv]):=Hd (by rw [hw8]; exact Blk.new _ _ _)
       have hG8 : Hid (W6.heap.size <= w7.heap.size):=Hd hb7.size
       clear hb7
       go_wp2_with fail
       rw [<- hw8]
       clear hw8
       generalize w7.heap.size = G8 at *
       refine hQ2 _ _ rfl (fun w2 h2=>have hb:=hb8.out.trans (h2.mono hb8.out.size); ⟨(hb.cell (p:=⟨YB,0,none⟩) lY).trans j0.out,⟨(hb.cell (p:=⟨TB,0,none⟩) lT).trans g0.out,(hb.cell (p:=⟨TB,1,none⟩) lT).trans g1.out⟩,⟨(hb.cell (p:=⟨TB,2,none⟩) lT).trans g2.out,(hb.cell (p:=⟨TB,3,none⟩) lT).trans g3.out⟩⟩) ?_
       clear hQ2
       refine mkTL_cons rfl fun w9 hb9 Q2 hQ2=>?_
       have hb9':=Hd (hb8.out.trans (hb9.mono hb8.out.size))
       have hn9:=Hd (hn8.out.below hb9 hn8.out.lt)
       have hG9:=hn9.out.lt
       have hown : Hid (w9.ownsRow W6.heap.size 34 4 (.slice (some ⟨G8,0,none⟩) 1 1) 1 [.int .i64 tr1,.int .i64 ta,.int .i64 tb,tv]):=Hd ⟨rfl,.inr ⟨G8,1,#[.int .i64 tr1,.int .i64 ta,.int .i64 tb,tv],rfl,hG8.out,hn9.out,lQ _,by decide,rfl,rfl⟩⟩
       have hsW:=hb9'.out.size
       clear hb9 hb8 hn8
       have sd1 : 1 + y.length <= maxLen:=by unfold maxLen; omega
       have sd4 : (1 + y.length) * 48 <= 140737488355328:=by omega
       have hnews9 : Hid (∀ j u,cls[j]? = some u -> w9.cell? (ad.add j) = some u):=Hd fun j u hu=>(by
        have h0 : 0 < y.length:=by
         have : j < cls.length:=(List.getElem?_eq_some_iff.1 hu).1
         omega
        obtain ⟨bl,off,e1,hbl,hcs⟩:=hsa h0
        cases e1
        have h2 : (⟨bl,off,none⟩ : Addr).add j = ⟨bl,off + j,none⟩:=by unfold Addr.add; split <;> simp_all
        rw [h2]
        exact (hb9'.out.cell (p:=⟨bl,off + j,none⟩) hbl).trans (hcs j u hu))
       (refine wpList_append_own_at _ rfl (.tmp 63) (.tmp 64) 30 rfl W6.heap.size 34 i34 (.agg #[.int .i64 0,.int .i64 0,.int .i64 0,.slice none 0 0]) 4 48 Tryz.underlying30 hi34 hz0 hz1 hz2 rfl (by decide) (.slice (some ⟨G8,0,none⟩) 1 1) 1 [.int .i64 tr1,.int .i64 ta,.int .i64 tb,tv] rfl (by exact hown.out) ad y.length csv cls rfl hcll (by exact hnews9.out) hcl1.out sd1 sd4 hsW ?_; intro v10 w10 hown10 hgr10 hnil10 hat10)
       obtain ⟨g,cap,rfl,-,-⟩:=hown10.form (by omega)
       have hB10 : Hid (Below W6.heap.size W6 w10):=Hd (below_grown hb9'.out (lQ _) hgr10 (fun b e=>by simp only [Value.ownBlock,Option.some.injEq] at e; have:=hG8.out; omega))
       have hO10 : Hid (w10.ownsRow W6.heap.size 34 4 (.slice (some ⟨g,0,none⟩) (1 + y.length) cap) (1 + y.length) ([.int .i64 tr1,.int .i64 ta,.int .i64 tb,tv] ++ cls)):=Hd hown10
       have hg10 : Hid (W6.heap.size <= g):=Hd (hO10.out.lt g rfl).1
       clear hown10 hgr10 hnil10 hat10
       apply wpList_nil
       refine hQ2 _ _ rfl (fun w2 h2=>have hb:=hB10.out.trans (h2.mono hB10.out.size); ⟨(hb.cell (p:=⟨YB,0,none⟩) lY).trans j0.out,⟨(hb.cell (p:=⟨TB,0,none⟩) lT).trans g0.out,(hb.cell (p:=⟨TB,1,none⟩) lT).trans g1.out⟩,⟨(hb.cell (p:=⟨TB,2,none⟩) lT).trans g2.out,(hb.cell (p:=⟨TB,3,none⟩) lT).trans g3.out⟩⟩) ?_
       clear hQ2
       intro w11 hb11
       have hB11:=Hd (hB10.out.trans (hb11.mono hB10.out.size))
       have hO11:=Hd (row_below hO10.out hb11)
       clear hb11 hO10 hB10
       have hk11:=Hd (CKp.of_below hB11.out O6)
       have hl11:=Hd (hi2'.out.keepM hJ.out (KeepM.of_below hB11.out))
       have hep11:=Hd (hep2'.out.keep (CKp.of_below hB11.out _) (fun b h=>.inl h))
       have hT11 : Hid (TreeC d TB tr1 ta tb tv O6 w11):=Hd (TreeC.keep ⟨hTo'.out,g0.out,g1.out,g2.out,g3.out⟩ (CKp.of_below hB11.out _) (fun b h=>.inl h))
       have htr11:=Hd (TrAt.keep (CKp.of_below hB11.out (OM d O6)) (fun b h=>.inl h) x _ htr2'.out)
       have hbk11 : Hid (BK W.heap.size W4 w11):=Hd fun k' o h1 h2 h3=>have h4:=hbk2'.out k' o h1 h2 h3; (hB11.out.block k' (heap_lt h4)).trans h4
       have hiv11 : Hid (InvP d (d.E.getD e.next PEnd.zero) m b z1 z2 z3 z4 O6 w11):=Hd ((InvP.still ..).keep O6 W6 w11 hv2'.out hO6'.out ((KeepM.of_below hB11.out).keepB 0))
       have hsub11 : Hid (SubV O6 w11 (x :: y) (.slice (some ⟨g,0,none⟩) (1 + y.length) cap)):=Hd (SubV.cons htr11.out.on (TrsL.keep hk11.out (fun b h=>.inl h) y cls hcl'.out) hO11.out rfl (fun h=>by have:=hO6'.out g h; have:=hg10.out; omega))
       have hlt11 : Hid (∀ b,O6 b -> b < w11.heap.size):=Hd fun b h=>Nat.lt_of_lt_of_le (hO6'.out b h) hB11.out.size
       have hsW11:=Hd hB11.out.size
       have hkc11 : Hid (KeepC O6 W6 w11):=Hd (KeepM.of_below (M:=fun _=>False) hB11.out).keepC'
       obtain ⟨fn,tmps,assign,bdy,hy,hR⟩:=hY.out _ (x :: y) #[.slice (some ⟨g,0,none⟩) (1 + y.length) cap] O6 w11 hpre3.out hl11.out.j (invP_of (cs:=[(MB',.int .i64 (m : Int))] ++ [(q1,.pointer (some ⟨d.C,0,none⟩))] ++ [(q2,.int .i64 (i.sym : Int))] ++ [(q3,.int .i64 (a : Int))] ++ [(q4,.int .i64 (m : Int))]) (by simpa [csX] using hl11.out) hiv11.out.1 hep11.out) ⟨_,rfl,hsub11.out⟩ hlt11.out (Nat.le_trans hW5.out (Nat.le_trans hl5le.out hsW11.out))
       clear hsub11 hO11 hk11
       simp only [List.length_cons,List.length_nil,dS,dZ]
       gi_wp2_with (fail)
       refine ⟨rfl,(roundIn_in hR).mono ?_⟩
       clear hR hy
       rintro e12 w12 ⟨O9,k1,k2,k3,k4,k5,hcase⟩
       have hinv12 : Hid (InvP d (d.E.getD e.next PEnd.zero) m b z1 z2 z3 z4 O9 w12):=Hd ⟨k4.1,⟨notO k1 (cell_lt hiv11.out.2.1.2.c0) hiv11.out.2.1.1,hiv11.out.2.1.2.ckp hiv11.out.2.1.1 (CKp.of_keepC k3)⟩,hiv11.out.2.2.1.keep (CKp.of_keepC k3) k1,hiv11.out.2.2.2.1.keep (CKp.of_keepC k3) k1,hiv11.out.2.2.2.2.keep (CKp.of_keepC k3) k1⟩
       have hep12:=Hd (hep11.out.keep (CKp.of_keepC_ k3) k1)
       have hT12:=Hd (hT11.out.keep (CKp.of_keepC_ k3) k1)
       have htr12 : Hid (TrAt (OM d O9) w12 x (tagg tr1 ta tb tv)):=Hd (TrAt.keep (CKp.of_keepC_ k3) (fun b hb=>hb.elim (fun hb=>(k1 b hb).imp .inl id) fun hm=>.inl (.inr hm)) x _ htr11.out)
       have hbk12 : Hid (BK W.heap.size W4 w12):=Hd fun k' o h1 h2 h3=>k5 k' o h1 (hbk11.out k' o h1 h2 h3) h3
       have hsub12 : Hid (∀ b,O9 b -> O6 b \/ W6.heap.size <= b):=Hd fun b h=>(k1 b h).imp id (Nat.le_trans hsW11.out)
       have hkc12 : Hid (KeepC O6 W6 w12):=Hd (hkc11.out.trans (fun b h=>.inl h) k3)
       have hbo12 : Hid (∀ k' o,w5.heap.size <= k' -> W6.heap[k']? = some o -> bookO o = true -> w12.heap[k']? = some o):=Hd fun k' o h1 h2 h3=>k5 k' o (Nat.le_trans hW5.out h1) ((hB11.out.block k' (heap_lt h2)).trans h2) h3
       rcases hcase with ⟨rfl,hj⟩ | ⟨rfl,hj⟩
       ·have hl12:=hl11.out.yielded k1 k2 k3 k5 (J':=J) (ys':=((List.range k).flatMap f ++ pre.flatMap fx) ++ (pre2 ++ [y]).map (x :: ·)) (by simpa using hj)
        gi_wp2_with (fail)
        exact ⟨O9,hsub12.out,k2,hkc12.out,hinv12.out,hbo12.out,hl12,hep12.out,hT12.out,htr12.out,hbk12.out⟩
       ·have hl12:=hl11.out.yielded k1 k2 k3 k5 hj
        gi_wp2_with (fail)
        exact ⟨O9,hsub12.out,k2,hkc12.out,hinv12.out,hbo12.out,rfl,⟨_,hpre3.out,hl12⟩,hep12.out,hbk12.out⟩
     case done2=>
      rintro O6 W6 hO1 hO2 hkc hinv6 ⟨hi6,hep6,hT6,htr6,hbk6⟩
      have hce : Hid (((List.range k).flatMap f ++ pre.flatMap fx) ++ (partsF d.sy d.tk tr t m b).map (x :: ·) = (List.range k).flatMap f ++ (pre ++ [x]).flatMap fx):=Hd (by rw [<- hfxx.out]; simp)
      rw [hce.out] at hi6
      gi_wp2_with (fail)
      exact ⟨O6,fun b h=>(hO1 b h).imp id (Nat.le_trans hsz5.out),hO2,hkc5.out.trans (fun b h=>.inl h) (hkc.offM hc5.out),⟨hinv6.1,(hi6.bx (q1,_) (by simp)).on,(hi6.bx (q2,_) (by simp)).on,(hi6.bx (q3,_) (by simp)).on,(hi6.bx (q4,_) (by simp)).on⟩,fun k' o h1 h2 h3=>hbk6 k' o (Nat.le_trans hWs.out h1) h2 h3,hi6.unbox.unbox.unbox.unbox,hep6⟩
     case stop2=>
      rintro c' pre2 O6 W6 hO1 hO2 hkc hinv6 hpre2 ⟨rfl,⟨ys,hys2,hlt2⟩,hep6,hbk6⟩
      gi_wp2_with (fail)
      exact ⟨O6,fun b h=>(hO1 b h).imp id (Nat.le_trans hsz5.out),hO2,hkc5.out.trans (fun b h=>.inl h) (hkc.offM hc5.out),⟨hinv6.1,(hlt2.bx (q1,_) (by simp)).on,(hlt2.bx (q2,_) (by simp)).on,(hlt2.bx (q3,_) (by simp)).on,(hlt2.bx (q4,_) (by simp)).on⟩,fun k' o h1 h2 h3=>hbk6 k' o (Nat.le_trans hWs.out h1) h2 h3,rfl,ys,hys2,hlt2.unbox.unbox.unbox.unbox,hep6⟩
    case done=>
     rintro D' O' W4 hD hO1 hO2 hkc hinv' ⟨hi,hep⟩ hdf
     have hM:=hinv'.1.MM_deferred hdf
     have hl6:=Hd (hi.push hdf hWs.out hD hDlt.out hM)
     rw [show (tr i.sym a m).flatMap fx = f k from hfr.out.symm,<- hys.out] at hl6
     have hc6:=Hd hinv'.1
     replace hep:=Hd hep
     have y6 : W4.cell? ⟨MB',0,none⟩ = some (.int .i64 (m : Int)):=(hl6.out.bx (MB',_) (by simp)).2
     have lM:=cell_lt y6
     clear hi hinv' hkc
     simp only
     go_wp2_with fail
     obtain ⟨n1,n2,n3⟩:=next_box (k:=k) hl6.out hc6.out hep.out hJ.out hm.out
     replace n1:=Hd n1
     replace n2:=Hd n2
     replace n3:=Hd n3
     refine ⟨⟨k + 1,W4.heap.size,(fun n=>([undef,undef,undef,undef,undef,undef,undef,undef,undef,_,_,_,_,_,_,_,_,_,_,_,_,_,_,_,_,_,_,_,_,_,_,_,_,_,_,_,_,_,_,_,_,_,_,_,_,_,_,_,_,_,_,_,_,undef,undef,undef,undef,undef,undef,undef,undef,undef,undef,undef,undef,undef,undef,undef,_] : List Value).getD n undef),D' :: Ds,O',rfl,by omega,n1,n2,n3⟩,?_⟩
     ·have e1:=(n1.out.bx (W4.heap.size,.int .i64 ((a + 1 + (k + 1) : Nat) : Int)) (List.mem_append_right _ (mS.2 rfl))).2
      simp only at e1
      show b + 1 - (intOf (((W4.alloc (.cells #[.int .i64 ((m : Int) + 1)] 3)).cell? ⟨W4.heap.size,0,none⟩).getD undef)).toNat < b + 1 - (intOf ((wr.cell? ⟨MB',0,none⟩).getD undef)).toNat
      rw [e1,hy6.out]
      have:=hm.out
      simp [intOf]; omega
    case stop=>
     rintro D' c' pre O' W4 hD hO1 hO2 hkc hinv' hpre ⟨rfl,ys,hys2,hlt2,hep2⟩ hdf
     have hM:=hinv'.1.MM_deferred hdf
     have hl6:=Hd (hlt2.push hdf hWs.out hD hDlt.out hM)
     have hc6:=Hd hinv'.1
     refine wpIn_wide.2 ?_
     simp only
     go_wp2_with fail
     exact fin_marksP hl6.out hJx.out hc6.out hep2 fun O3 W' h=>.inr ⟨ys,hys2,h⟩
  ·have hm1 : ¬ (m : Int) <= (b : Int) - (q : Int) + 1:=fun h=>hlt (hmq.2 h)
   obtain rfl : k = cnt:=by omega
   rw [hxs.out] at hlp
   go_wp2_with fail
   exact fin_marksP hlp.out hJ.out hci.out hep.out fun O3 W' h=>.inl h
end
end Go.Proofs.YteclineblddpbaaGreatDoorR
