import Derived.Test.YtggimnndflkjkaaGreatDoorR01
import Derived.Test.YtggimnndflkjkaaGreatDoorR36
set_option linter.all false
set_option maxRecDepth 100000
set_option maxHeartbeats 0
namespace Go.Proofs.YtggimnndflkjkaaGreatDoor
section
open Go.RowKit
structure zeC where
 point : Int
 cost : Int
 notes : List zP
def leM (a b : zeC) : Bool:=decide (a.cost < b.cost) || (decide (a.cost = b.cost) && decide (a.point <= b.point))
theorem zvc (a b : zeC) : leM a b = true \/ leM b a = true:=by unfold leM; simp; omega
theorem zxN (a b c : zeC) (h1 : leM a b = true) (h2 : leM b c = true) : leM a c = true:=by unfold leM at *; simp at *; omega
def zhg (f : zw) (c : Int) (ps : List zu) (p : zh) : Option zeC:=(zaU f c ps p).map fun ns=>⟨p.id,zO ns,ns⟩
def zcq (f : zw) (c : Int) (ps : List zu) (l : List zh) : List zeC:=l.filterMap (zhg f c ps)
def ziF (f : zw) (c : Int) (ps : List zu) : List zeC:=zvQ leM (zcq f c ps f.points)
theorem zkS (f : zw) (c : Int) (ps : List zu) (l : List zh) (k : Nat) (h : k < l.length) : zcq f c ps (l.take (k + 1)) = zcq f c ps (l.take k) ++ (zhg f c ps (l.getD k zh.zero)).toList:=by
 unfold zcq;rw [zaO l zh.zero k h,List.filterMap_append];congr 1
theorem zmx (f : zw) (c : Int) (ps : List zu) (l : List zh) : (zcq f c ps l).length <= l.length:=List.length_filterMap_le ..
theorem zgy (f : zw) (c : Int) (ps : List zu) : ∀ l : List zh,l.Pairwise (fun a b=>a.id ≠ b.id) -> (zcq f c ps l).Pairwise fun a b=>a.point ≠ b.point
 | [],_=>List.Pairwise.nil
 | p :: t,h=>by
  rw [List.pairwise_cons] at h;have ih:=zgy f c ps t h.2;unfold zcq at *;rw [List.filterMap_cons]
  split
  ·exact ih
  ·rename_i m hm
   refine List.pairwise_cons.2 ⟨fun x hx=>?_,ih⟩;obtain ⟨q,hq,hqx⟩:=List.mem_filterMap.1 hx
   have e1 : m.point = p.id:=by
    unfold zhg at hm
    cases h1 : zaU f c ps p with
    | none=>rw [h1] at hm; cases hm
    | some ns=>rw [h1] at hm; cases hm; rfl
   have e2 : x.point = q.id:=by
    unfold zhg at hqx
    cases h1 : zaU f c ps q with
    | none=>rw [h1] at hqx; cases hqx
    | some ns=>rw [h1] at hqx; cases hqx; rfl
   rw [e1,e2];exact h.1 q hq
theorem zky {l : List zeC} (h : l.Pairwise fun a b=>a.point ≠ b.point) {a b : zeC} (ha : a ∈ l) (hb : b ∈ l) (e : a.point = b.point) : a = b:=by
 induction l with
 | nil=>cases ha
 | cons x t ih=>
  rw [List.pairwise_cons] at h;rcases List.mem_cons.1 ha with e1 | ha
  ·rcases List.mem_cons.1 hb with e2 | hb
   ·rw [e1,e2]
   ·exact absurd (e1 ▸ e) (h.1 b hb)
  ·rcases List.mem_cons.1 hb with e2 | hb
   ·exact absurd (e2 ▸ e).symm (h.1 a ha)
   ·exact ih h.2 ha hb
theorem zya {f : zw} {c : Int} {ps : List zu} {l : List zeC} (hid : f.points.Pairwise fun a b=>a.id ≠ b.id) (hp : l.Perm (zcq f c ps f.points)) (hs : l.Pairwise fun a b=>a.cost < b.cost \/ (a.cost = b.cost /\ a.point <= b.point)) : l = ziF f c ps:=by
 have hap:=zgy f c ps f.points hid;refine zjc leM l _ (hp.trans (zfB leM _).symm) (hs.imp fun h=>by unfold leM; simpa using h) (zfg leM zvc zxN _) fun a ha b hb h1 h2=>?_;refine zky hap (hp.mem_iff.1 ha) (hp.mem_iff.1 hb) ?_;unfold leM at h1 h2;simp at h1 h2;omega
end
section
open Go.RowKit Go.Maps
section
variable {w0 w w' : World} {D : zeA} {C T S n : Nat} {MT MS : List (Int × Value)}
theorem zbd.grown (h : zbd w0 D C T S n w MT MS) {row : Option Nat} (hg : w.grownBy w' row) (hr : ∀ k,row = some k -> D.X k /\ w0.heap.size <= k /\ C ≠ k /\ T ≠ k /\ S ≠ k) : zbd w0 D C T S n w' MT MS where
 hf:=h.hf
 hC:=h.hC
 hT:=h.hT
 hS:=h.hS
 CT:=h.CT
 CS:=h.CS
 TS:=h.TS
 below:=h.below.grown hg h.below.size fun k hk=>(hr k hk).2.1
 blk:=h.blk.grown hg fun e=>(hr C e.symm).2.2.1 rfl
 mt:=h.mt.kept hg fun e=>(hr T e.symm).2.2.2.1 rfl
 ms:=h.ms.kept hg fun e=>(hr S e.symm).2.2.2.2 rfl
 vt:=fun p hp=>(h.vt p hp).keep (zc.of_grown hg fun b hb e=>hb.2 (hr b e.symm).1) fun _ _ x=>x
 vs:=fun p hp=>(h.vs p hp).keep (zc.of_grown hg fun b hb e=>hb.2 (hr b e.symm).1) fun _ _ x=>x
end
def zcl.plain (m : zcl) : zeC:=⟨m.point,m.cost,m.notes⟩
structure ztT (w0 : World) (D : zeA) (C T S B : Nat) (f : zw) (c : Int) (ps : List zu) (k : Nat) (v : Value) (w : World) : Prop where
 own : ∃ ms : List zcl,zes B w v ms /\ ms.map zcl.plain = zcq f c ps (f.points.take k)
 cmp : ∃ MT MS,zbd w0 (D.with_ fun b=>some b = v.ownBlock) C T S (2 * k) w MT MS
 hC : C < B
 hT : T < B
 hS : S < B
 h0 : w0.heap.size <= B
variable {w0 w w' : World} {D : zeA} {C T S B : Nat} {f : zw} {c : Int} {ps : List zu} {k : Nat} {v : Value}
theorem ztT.skip {MT MS : List (Int × Value)} (h : ztT w0 D C T S B f c ps k v w) (hk : k < f.points.length) (hcmp : zbd w0 (D.with_ fun b=>some b = v.ownBlock) C T S (2 * k + 2) w' MT MS) (hkeep : zc (zaB T S) w w') (hno : zaU f c ps (f.points.getD k zh.zero) = none) : ztT w0 D C T S B f c ps (k + 1) v w':=by
 obtain ⟨ms,h1,h2⟩:=h.own;refine ⟨⟨ms,zaw.keep zbX h1 (hkeep.weaken fun b hb=>⟨by have:=h.hT; omega,by have:=h.hS; omega⟩),?_⟩,⟨_,_,hcmp⟩,h.hC,h.hT,h.hS,h.h0⟩;rw [h2,zkS f c ps f.points k hk];unfold zhg;rw [hno];simp
theorem ztT.start {MT MS : List (Int × Value)} (h : zbd w0 D C T S 0 w MT MS) (hB : w.heap.size = B) : ztT w0 D C T S B f c ps 0 (.slice none 0 0) w:=
 ⟨⟨[],zaw.nil_,by simp [zcq]⟩,⟨_,_,h.reset _ fun b _ e=>by cases e⟩,by rw [<- hB]; exact h.blk.lt,by rw [<- hB]; exact h.mt.lt,by rw [<- hB]; exact h.ms.lt,by rw [<- hB]; exact h.below.size⟩
theorem zzv : (Tryz.prog.info? 43).map (fun i=>(i.zero,i.size,i.bytes)) = some (some (.agg #[.int .i64 0,.int .i64 0,.slice none 0 0]),3,40):=by kernel_rfl
theorem ztT.add {MT MS : List (Int × Value)} {wA wB wC : World} {m : zcl} {v' : Value} (h : ztT w0 D C T S B f c ps k v w) (hB : B <= w.heap.size) (hk : k < f.points.length) (hcmp : zbd w0 (D.with_ fun b=>some b = v.ownBlock) C T S (2 * k + 2) wA MT MS) (hkeep : zc (zaB T S) w wA)
  (hyes : zhg f c ps (f.points.getD k zh.zero) = some m.plain) (hn : zbw (fun b=>w.heap.size <= b) wA m.value m.notes) (hbA : Below wA.heap.size wA wB) (ms : List zcl) (hms : zes B w v ms) (hpl : ms.map zcl.plain = zcq f c ps (f.points.take k))
  (hown : wC.ownsRow B 43 3 v' (ms.length + 1) (ms.flatMap zgi ++ zgi m)) (hg : wB.grownBy wC v.ownBlock) (hat : v'.ownBlock = v.ownBlock \/ v'.ownBlock = some wB.heap.size) : ztT w0 D C T S B f c ps (k + 1) v' wC:=by
 have hkB : zc (fun b=>B <= b) w wB:=(hkeep.weaken fun b hb=>⟨by have:=h.hT; omega,by have:=h.hS; omega⟩).trans (zc.of_below hbA _);have hlt : ∀ g,v.ownBlock = some g -> B <= g /\ g < w.heap.size:=fun g hg=>hms.block_lt hg;refine ⟨⟨ms ++ [m],zaw.append zbX (zaw.keep zbX hms hkB) ?_ hown hg ?_,?_⟩,⟨MT,MS,?_⟩,h.hC,h.hT,h.hS,h.h0⟩
 ·exact zbw.keep hn (zc.of_below hbA _) fun b _ hb=>⟨Nat.le_trans hB hb,fun e=>by have:=(hlt b e.symm).2; omega⟩
 ·rcases hat with e | e
  ·exact .inl e
  ·exact .inr ⟨_,e,lQ _⟩
 ·rw [List.map_append,hpl,zkS f c ps f.points k hk,hyes]
  rfl
 ·have h1:=(hcmp.up hbA).reset (fun b=>some b = v.ownBlock \/ some b = v'.ownBlock) fun b hb e=>by
   rcases e with e | e
   ·exact e
   ·rcases hat with e2 | e2
    ·rw [e2] at e; exact e
    ·rw [e2] at e; injection e with e; omega
  have h2:=h1.grown hg fun g hg=>⟨.inl hg.symm,by
   have:=hlt g hg;have:=h.hC;have:=h.hT;have:=h.hS;have:=h.h0
   omega⟩
  have h3:=h2.reset (fun b=>some b = v'.ownBlock) fun b _ e=>.inr e;have e : 2 * (k + 1) = 2 * k + 2:=by omega
  rw [e];exact h3
end
section
open Go.RowKit Go.Maps
def ztS (ok : Bool) (l : List zeC) (B : Nat) (e : Ending) (w' : World) : Prop:=
 (ok = false /\ e = .returned (.tuple #[.slice none 0 0,.int .i64 2])) \/ (ok = true /\ ∃ v ms,e = .returned (.tuple #[v,.int .i64 0]) /\ zes B w' v ms /\ ms.map zcl.plain = l)
theorem zsz (vt vs vr vp : Value) (f : zw) (c : Int) (pv : Value) (ps : List zu) (w : World) (hf : zaf w vt vs vr vp f) (hv : zav w pv ps) (hps : zH ps) (hg : zrv f) (htab : zbz w) (hlen : f.points.length <= 64) (hids : f.points.Pairwise fun a b=>a.id ≠ b.id) :
  Calls Tryz.prog 35 #[.agg #[vt,vs,vr,vp],.agg #[.int .u8 c,pv]] w fun e w'=>ztS (zR c ps) (ziF f c ps) w.heap.size e w' /\ Below w.heap.size w w':=by
 have hf':=Hd hf;have hv':=Hd hv;have hps':=Hd hps;have hg':=Hd hg;have htab':=Hd htab;have hids':=Hd hids;have hlen':=Hd hlen;obtain ⟨⟨tA,tn,tc,rfl⟩,⟨sA,sn,sc,rfl⟩,⟨rA,rn,rc,rfl⟩,-⟩:=hf.forms;obtain ⟨pA,pc,rfl,p1,p2,p3⟩:=hf.p;obtain ⟨qA,qc,rfl,-⟩:=hv;have p3':=Hd p3;clear hf hps hg htab hids p3 hlen;unfold maxLen at p2;have hb1 : Hid (Below w.heap.size w ((w.alloc (.cells #[.slice tA tn tc,.slice sA sn sc,.slice rA rn rc,.slice pA f.points.length pc] 89)).alloc (.cells #[.int .u8 c,.slice qA ps.length qc] 39))):=Hd (((Below.refl _ _).alloc (lQ _) _).alloc (by simp) _);have k2:=Hd ((Blk.new w 89 #[.slice tA tn tc,.slice sA sn sc,.slice rA rn rc,.slice pA f.points.length pc]).alloc (.cells #[.int .u8 c,.slice qA ps.length qc] 39));have k3:=Hd (Blk.new_at (w.alloc (.cells #[.slice tA tn tc,.slice sA sn sc,.slice rA rn rc,.slice pA f.points.length pc] 89)) 39 #[.int .u8 c,.slice qA ps.length qc] (w.heap.size + 1) (by simp));have hright:=Hd (zeo c (.slice qA ps.length qc) ps _ (hv'.out.stays (zo.of hb1.out)) hps'.out.fine);generalize hal : ziF f c ps = al at *;have hal':=Hd hal;clear hal;generalize hrp : zR c ps = rp at *;have hrp':=Hd hrp;clear hrp;go_enter Tryz.func35,Tryz.ntmps35;go_upto_region 1 with fail;generalize (w.alloc (.cells #[.slice tA tn tc,.slice sA sn sc,.slice rA rn rc,.slice pA f.points.length pc] 89)).alloc (.cells #[.int .u8 c,.slice qA ps.length qc] 39) = W at *;generalize hK : w.heap.size + 1 = K3 at *;have c30:=k3.out.cell 0;have c31:=k3.out.cell 1;have l3:=k3.out.lt;simp at c30 c31;go_wp2_with fail;refine hright.out.mono ?_;rintro e w1 ⟨rfl,hb⟩;have hb2:=Hd (hb1.out.trans (hb.mono hb1.out.size));have k21:=Hd (k2.out.below hb k2.out.lt);have k31:=Hd (k3.out.below hb k3.out.lt);clear hright hb1 k2 k3 hb c30 c31 l3
 cases rp with
 | false=>
  go_wp2
  go_ret2
  exact ⟨.inl ⟨rfl,rfl⟩,hb2.out⟩
 | true=>
  have c0:=k21.out.cell 0;have c1:=k21.out.cell 1;have c2:=k21.out.cell 2;have c3:=k21.out.cell 3;have l1:=k21.out.lt;have c30:=k31.out.cell 0;have c31:=k31.out.cell 1;have l3:=k31.out.lt;simp at c0 c1 c2 c3 c30 c31;have hnew:=Hd (zdJ (.slice tA tn tc) (.slice sA sn sc) (.slice rA rn rc) (.slice pA f.points.length pc) f c (.slice qA ps.length qc) ps w1 (hf'.out.stays (zo.of hb2.out)) (hv'.out.stays (zo.of hb2.out)) (zfX hrp'.out) (fun p hp=>(hps'.out p hp).1) (fun _=>False));go_wp2_with fail;refine hnew.out.mono ?_;rintro e w2 ⟨C,T,S,rfl,hn⟩;have hcmp:=Hd (hn.cmp (hf'.out.stays (zo.of hb2.out)));have hb3:=Hd (hb2.out.trans (hn.below.mono hb2.out.size));have k22:=Hd (k21.out.below hn.below k21.out.lt);clear hnew hn k21 k31 c0 c1 c2 c3 l1 c30 c31 l3;have c3:=k22.out.cell 3;have l1:=k22.out.lt;simp at c3;have hr0:=Hd (ztT.start (f:=f) (c:=c) (ps:=ps) hcmp.out rfl);have hB : w1.heap.size <= w2.heap.size:=hcmp.out.below.size;generalize hD : zmn (.slice tA tn tc) (.slice sA sn sc) (.slice rA rn rc) (.slice pA f.points.length pc) f c ps (fun _=>False) = D at *;have hD':=Hd hD;clear hD;go_wp2;clear c3 l1 k22;obtain ⟨i0,hi0,hz0,hz1,hz2⟩:=info_parts zzv
  go_loopw [7,23] (fun v iv wr=>∃ k : Nat,k <= f.points.length /\ iv = .int .i64 k /\ Hid (ztT w1 D C T S w2.heap.size f c ps k v wr /\ w2.heap.size <= wr.heap.size /\ Below w.heap.size w wr)) (fun _ iv _=>f.points.length - (intOf iv).toNat)
  case atStart=>exact ⟨0,by omega,rfl,Hd ⟨hr0.out,lQ _,hb3.out⟩⟩
  case round=>
   obtain ⟨k,hk,rfl,hr⟩:=hrel;rename World=>wr;have n0 : (0 : Int) <= (k : Int):=by omega
   obtain ⟨ms,hms,hpl⟩:=hr.out.1.own;obtain ⟨MT,MS,hc1⟩:=hr.out.1.cmp;have hms':=Hd hms;have hpl':=Hd hpl;have hc1':=Hd hc1;obtain ⟨vA,vc,rfl⟩:=hms.form_;clear hms hpl hc1;by_cases hlt : k < f.points.length
   ·have n1 : (k : Int) < (f.points.length : Int):=by omega
    obtain ⟨b,off,rfl,hb,hi⟩:=p3'.out (by omega);have hpk:=hi k hlt;have hmem : Hid (f.points.getD k zh.zero ∈ f.points):=Hd (by rw [zD _ _ _ hlt]; exact List.getElem_mem hlt);have hgp : Hid (∃ q,q = f.points.getD k zh.zero):=Hd ⟨_,rfl⟩;clear hi;obtain ⟨q,hq⟩:=hgp.out;have hq':=Hd hq;rw [<- hq] at hpk hmem;clear hq hgp;obtain ⟨z0,z1,z2,z3,z4,z5,z6,z7⟩:=q;obtain ⟨a0,a1,a2,a3,a4,a5,a6,a7⟩:=hpk;simp only at a0 a1 a2 a3 a4 a5 a6 a7;have hbw:=hr.out.2.2;rw [<- hbw.cell (p:=⟨b,off + k * 8,none⟩) hb] at a0;rw [<- hbw.cell (p:=⟨b,off + k * 8 + 1,none⟩) hb] at a1;rw [<- hbw.cell (p:=⟨b,off + k * 8 + 2,none⟩) hb] at a2;rw [<- hbw.cell (p:=⟨b,off + k * 8 + 3,none⟩) hb] at a3;rw [<- hbw.cell (p:=⟨b,off + k * 8 + 4,none⟩) hb] at a4;rw [<- hbw.cell (p:=⟨b,off + k * 8 + 5,none⟩) hb] at a5;rw [<- hbw.cell (p:=⟨b,off + k * 8 + 6,none⟩) hb] at a6;rw [<- hbw.cell (p:=⟨b,off + k * 8 + 7,none⟩) hb] at a7;have hbr : b < wr.heap.size:=Nat.lt_of_lt_of_le hb hbw.size;have hba:=Hd ((Below.refl wr.heap.size wr).alloc (lQ _) (.cells #[.int .i64 z0,.int .i64 z1,.int .i64 z2,.int .i64 z3,.string z4,.string z5,.int .i64 z6,.int .i64 z7] 33));have kp:=Hd (Blk.new wr 33 #[.int .i64 z0,.int .i64 z1,.int .i64 z2,.int .i64 z3,.string z4,.string z5,.int .i64 z6,.int .i64 z7]);clear hbw;go_upto_region 8 with fail;clear a0 a1 a2 a3 a4 a5 a6 a7 hbr;generalize wr.alloc (.cells #[.int .i64 z0,.int .i64 z1,.int .i64 z2,.int .i64 z3,.string z4,.string z5,.int .i64 z6,.int .i64 z7] 33) = W5 at *;have hgr5 : wr.heap.size <= W5.heap.size:=hba.out.size
    have hpt:=Hd (zkD (hc1'.out.up hba.out) ((hD'.out ▸ zuv hg'.out hps'.out : zkr D).with_ _) (htab'.out.below hb2.out) ⟨z0,z1,z2,z3,z4,z5,z6,z7⟩ (by rw [<- hD'.out]; exact zAi hg'.out hmem.out) (by have:=hlen'.out; omega) fun x hx e=>by
     have:=(hms'.out.block_lt e.symm).2
     omega)
    generalize hmo : zeb _ _ = mo at hpt;have hmo' : Hid (zaU f c ps (f.points.getD k zh.zero) = mo):=Hd (by rw [<- hq'.out,<- hmo,<- hD'.out]; rfl);clear hmo;unfold zaz at hpt;simp only at hpt;have r0:=kp.out.cell 0;have r1:=kp.out.cell 1;have r2:=kp.out.cell 2;have r3:=kp.out.cell 3;have r4:=kp.out.cell 4;have r5:=kp.out.cell 5;have r6:=kp.out.cell 6;have r7:=kp.out.cell 7;have lp:=kp.out.lt;simp at r0 r1 r2 r3 r4 r5 r6 r7;go_wp2_with fail;refine hpt.out.mono ?_;rintro e w7 ⟨hres0,⟨MT',MS',hc70⟩,hk70⟩;obtain ⟨x,y,A,m,d,ob,rfl,hres1⟩:=hres0.res;have hres:=Hd hres1;have hc7:=Hd (hc70.up ((Below.refl w7.heap.size w7).alloc (lQ _) (.cells #[.int .i64 x,.int .i64 y,.slice A m d] 43)));have hb78:=Hd ((Below.refl w7.heap.size w7).alloc (lQ _) (.cells #[.int .i64 x,.int .i64 y,.slice A m d] 43));have hk7 : Hid (zc (zaB T S) wr (w7.alloc (.cells #[.int .i64 x,.int .i64 y,.slice A m d] 43))):=Hd (((zc.of_below hba.out (zaB T S)).trans hk70).trans (zc.of_below hb78.out _));have hn7:=Hd (hres.out.keep (zc.of_below hb78.out _) fun _ _ z=>z);have km:=Hd (Blk.new w7 43 #[.int .i64 x,.int .i64 y,.slice A m d]);have hk75:=hk70.size;clear hres0 hres1 hc70 hk70 hpt r0 r1 r2 r3 r4 r5 r6 r7 lp kp hres;go_upto_region 9 with fail;generalize hw8 : w7.alloc (.cells #[.int .i64 x,.int .i64 y,.slice A m d] 43) = w8 at *;have hsz8 : w7.heap.size <= w8.heap.size:=hb78.out.size;clear hw8 hb78;generalize w7.heap.size = NM at *;have hwB : Hid (w2.heap.size <= wr.heap.size):=Hd hr.out.2.1;have hbw8 : Hid (Below w.heap.size w w8):=Hd (hb2.out.trans (hc7.out.below.mono hb2.out.size))
    cases ob with
    | false=>
     have hno : Hid (zaU f c ps (f.points.getD k zh.zero) = none):=Hd (by
      rw [hmo'.out];rcases hn7.out with h | ⟨ns,h1,h2,h3⟩
      ·exact h.1
      ·cases h2)
     have hnext:=Hd (hr.out.1.skip hlt hc7.out hk7.out hno.out);clear hn7 hmo' hno hc7 km;go_wp2;go_roundw
     case rel=>exact ⟨k + 1,by omega,by go_num,Hd ⟨hnext.out,by have:=hwB.out; have:=hk7.out.size; omega,hbw8.out⟩⟩
     case measure=>simp [intOf]; omega
    | true=>
     have hyes : Hid (∃ ns,zhg f c ps (f.points.getD k zh.zero) = some ⟨x,y,ns⟩ /\ zbw (fun b=>W5.heap.size <= b) w8 (.slice A m d) ns):=Hd (by
      rcases hn7.out with h | ⟨ns,h1,h2,h3,h4,h5⟩
      ·cases h.2
      ·refine ⟨ns,?_,h5⟩
       unfold zhg;rw [hmo'.out,h1,h3,h4,<- hq'.out]
       rfl)
     have hml : Hid (ms.length <= k):=Hd (by
      have:=congrArg List.length hpl'.out;rw [List.length_map] at this;rw [this]
      exact Nat.le_trans (zmx ..) (by rw [List.length_take]; omega))
     have m0:=km.out.cell 0;have m1:=km.out.cell 1;have m2:=km.out.cell 2;have lM:=km.out.lt;simp at m0 m1 m2;have h64 : ((ms.length : Int) == 64) = false:=by have:=hml.out; have:=hlen'.out; simp; omega
     have hb89:=Hd ((Below.refl w8.heap.size w8).alloc (lQ _) (.cells #[.int .i64 x,.int .i64 y,.slice A m d] 43));have kx:=Hd (Blk.new w8 43 #[.int .i64 x,.int .i64 y,.slice A m d]);have hown9:=Hd ((zaw.keep zbX hms'.out ((hk7.out.weaken (Q:=fun b=>w2.heap.size <= b) fun b hb=>⟨by have:=hr.out.1.hT; omega,by have:=hr.out.1.hS; omega⟩).trans (zc.of_below hb89.out _))).1);clear hn7 hmo' km;have hl3 : Hid (ms.length + 1 <= 1000):=Hd (by have:=hml.out; have:=hlen'.out; omega);go_upto_region 12 with fail;clear h64;obtain ⟨ns,hy1,hy2⟩:=hyes.out;have hy1':=Hd hy1;have hy2':=Hd (hy2.weaken (Q:=fun b=>wr.heap.size <= b) fun b _ hb=>Nat.le_trans hgr5 hb);clear hy1 hy2 hyes;have sd1 : ms.length + 1 <= maxLen:=by have:=hl3.out; unfold maxLen; omega
     have sd2 : (ms.length + 1) * 40 <= 140737488355328:=by have:=hl3.out; omega
     have sd3 : w2.heap.size <= (w8.alloc (.cells #[.int .i64 x,.int .i64 y,.slice A m d] 43)).heap.size:=by have:=hb89.out.size; have:=hk7.out.size; have:=hwB.out; omega
     have hA:=Hd (fun (ops : Array Oper) (rest : List Oper) (o : Oper) (a : Act) (Q : Exit -> Act -> World -> Prop) hgd ho hs hx h=>wpList_append_own_at (P:=Tryz.prog) (ops:=ops) (rest:=rest) (o:=o) (a:=a) (Q:=Q) (w8.alloc (.cells #[.int .i64 x,.int .i64 y,.slice A m d] 43)) hgd (.tmp 38) (.tmp 40) 51 ho w2.heap.size 43 i0 (.agg #[.int .i64 0,.int .i64 0,.slice none 0 0]) 3 40 Tryz.underlying51 hi0 hz0 hz1 hz2 rfl (by decide) (.slice vA ms.length vc) ms.length (ms.flatMap zgi) hs hown9.out ⟨w8.heap.size,0,none⟩ 1 1 [.int .i64 x,.int .i64 y,.slice A m d] hx rfl (znJ fun j u hu=>by
      rw [kx.out.cell]
      match j,hu with
      | 0,hu=>simpa using hu
      | 1,hu=>simpa using hu
      | 2,hu=>simpa using hu
      | j + 3,hu=>simp at hu) (zmA ⟨x,y,A,m,d,ns⟩) sd1 sd2 sd3 h)
     have hadd:=Hd (fun (wC : World) (v' : Value) h1 h2 h3=>ztT.add (m:=⟨x,y,A,m,d,ns⟩) (wC:=wC) (v':=v') hr.out.1 hwB.out hlt hc7.out hk7.out hy1'.out hy2'.out hb89.out ms hms'.out hpl'.out h1 h2 h3)
     have hbl : Hid (∀ (wC : World),(w8.alloc (.cells #[.int .i64 x,.int .i64 y,.slice A m d] 43)).grownBy wC (Value.ownBlock (.slice vA ms.length vc)) -> w2.heap.size <= wC.heap.size /\ Below w.heap.size w wC):=Hd fun wC h=>⟨Nat.le_trans sd3 h.size,(hbw8.out.trans (hb89.out.mono hbw8.out.size)).grown h (by have:=hbw8.out.size; have:=hb89.out.size; omega) fun g hg=>by
      have:=(hms'.out.block_lt hg).1;have:=hb2.out.size
      omega⟩
     clear sd1 sd2 sd3 hown9 kx hy1' hy2' hb89;go_wp2_with (at_builtin; refine hA.out _ _ _ _ _ rfl rfl rfl rfl ?_; intro v' wC hownC hgrC hnilC hatC);have hx1:=Hd (hadd.out wC v' hownC hgrC hatC);have hx2:=Hd (hbl.out wC hgrC);clear hA hadd hbl hownC hgrC hnilC hatC;go_roundw
     case rel=>exact ⟨k + 1,by omega,by go_num,Hd ⟨hx1.out,hx2.out⟩⟩
     case measure=>simp [intOf]; omega
   ·obtain rfl : k = f.points.length:=by omega
    have hml : Hid (ms.length < 1000000):=Hd (by
     have:=congrArg List.length hpl'.out;rw [List.length_map] at this;rw [this];refine Nat.lt_of_le_of_lt (zmx ..) ?_;have:=hlen'.out
     rw [List.length_take]; omega)
    have hsort:=Hd (zme hms'.out hml.out);clear hlt;go_wp2_with fail;refine hsort.out.mono ?_;rintro e w9 ⟨rfl,ns,hperm,hsrt,hown,hgr⟩
    have hfin : Hid (zes w.heap.size w9 (.slice vA ms.length vc) ns /\ ns.map zcl.plain = ziF f c ps /\ Below w.heap.size w w9):=Hd (by
     refine ⟨zaw.base zbX hown (by have:=hb2.out.size; omega),zya hids'.out ?_ ?_,hr.out.2.2.grown hgr (by have:=hr.out.2.2.size; omega) fun g hg=>by
      have:=(hms'.out.block_lt hg).1;have:=hb2.out.size
      omega⟩
     ·have h1:=hperm.map zcl.plain
      rw [hpl'.out,List.take_length] at h1;exact h1
     ·rw [List.pairwise_map]
      exact hsrt)
    clear hsort hperm hsrt hown hgr;go_wp2
    go_ret2
    exact ⟨.inr ⟨rfl,_,ns,rfl,hfin.out.1,by rw [<- hal'.out]; exact hfin.out.2.1⟩,hfin.out.2.2⟩
end
section
open Go.RowKit Go.Maps
theorem zfP (vt vs vr vp : Value) (f : zw) (c : Int) (pv : Value) (ps : List zu) (w : World) (hf : zaf w vt vs vr vp f) (hfine : zks f) (hv : zav w pv ps) (hps : zH ps) (hg : zae f = true -> zrv f) (htab : zbz w) (hlen : f.points.length <= 64) (hids : zae f = true -> f.points.Pairwise fun a b=>a.id ≠ b.id) :
  Calls Tryz.prog 14 #[.agg #[vt,vs,vr,vp],.agg #[.int .u8 c,pv]] w fun e w'=>ztS (zae f && zR c ps) (ziF f c ps) w.heap.size e w' /\ Below w.heap.size w w':=by
 have hf':=Hd hf;have hv':=Hd hv;have hcall:=Hd (fun (h : zae f = true) W h1 h2 (h3 : Below w.heap.size w W)=>zsz vt vs vr vp f c pv ps W h1 h2 hps (hg h) (htab.below h3) hlen (hids h));obtain ⟨⟨tA,tn,tc,rfl⟩,⟨sA,sn,sc,rfl⟩,⟨rA,rn,rc,rfl⟩,⟨pA,pn,pc,rfl⟩⟩:=hf.forms;obtain ⟨qA,qc,rfl,-⟩:=hv;clear hf;have hb1 : Hid (Below w.heap.size w ((w.alloc (.cells #[.slice tA tn tc,.slice sA sn sc,.slice rA rn rc,.slice pA pn pc] 31)).alloc (.cells #[.int .u8 c,.slice qA ps.length qc] 39))):=Hd (((Below.refl _ _).alloc (lQ _) _).alloc (by simp) _);have k2:=Hd ((Blk.new w 31 #[.slice tA tn tc,.slice sA sn sc,.slice rA rn rc,.slice pA pn pc]).alloc (.cells #[.int .u8 c,.slice qA ps.length qc] 39));have k3:=Hd (Blk.new_at (w.alloc (.cells #[.slice tA tn tc,.slice sA sn sc,.slice rA rn rc,.slice pA pn pc] 31)) 39 #[.int .u8 c,.slice qA ps.length qc] (w.heap.size + 1) (by simp));have hon:=Hd (zxj (.slice tA tn tc) (.slice sA sn sc) (.slice rA rn rc) (.slice pA pn pc) f _ (hf'.out.stays (zo.of hb1.out)) hfine);generalize zae f = vb at *;generalize (ziF f c ps) = al at *;generalize zR c ps = rp at *;clear hfine hps hg htab hlen hids;go_enter Tryz.func14,Tryz.ntmps14;go_upto_region 1 with fail;generalize (w.alloc (.cells #[.slice tA tn tc,.slice sA sn sc,.slice rA rn rc,.slice pA pn pc] 31)).alloc (.cells #[.int .u8 c,.slice qA ps.length qc] 39) = W at *;generalize hK : w.heap.size + 1 = K3 at *;have c0:=k2.out.cell 0;have c1:=k2.out.cell 1;have c2:=k2.out.cell 2;have c3:=k2.out.cell 3;have l1:=k2.out.lt;simp at c0 c1 c2 c3;go_wp2_with fail;refine hon.out.mono ?_;rintro e w1 ⟨rfl,hb⟩;have hb2:=Hd (hb1.out.trans (hb.mono hb1.out.size));have k31:=Hd (k3.out.below hb k3.out.lt);clear hon hb1 k2 k3 c0 c1 c2 c3 l1 hb
 cases vb with
 | false=>
  have hb3:=Hd (hb2.out.alloc hb2.out.size (.cells #[.slice none 0 0,.slice none 0 0,.slice none 0 0,.slice none 0 0] 89));unfold onA;simp only [Bool.false_eq_true,if_false];go_upto_region 2 with fail;generalize w1.alloc (.cells #[.slice none 0 0,.slice none 0 0,.slice none 0 0,.slice none 0 0] 89) = W1 at *;go_wp2
  go_ret2
  exact ⟨.inl ⟨rfl,rfl⟩,hb3.out⟩
 | true=>
  have hb3:=Hd (hb2.out.alloc hb2.out.size (.cells #[.slice tA tn tc,.slice sA sn sc,.slice rA rn rc,.slice pA pn pc] 89));have k8:=Hd (Blk.new w1 89 #[.slice tA tn tc,.slice sA sn sc,.slice rA rn rc,.slice pA pn pc]);have k33:=Hd (k31.out.alloc (.cells #[.slice tA tn tc,.slice sA sn sc,.slice rA rn rc,.slice pA pn pc] 89));unfold onA;simp only [if_true];go_upto_region 2 with fail;generalize w1.alloc (.cells #[.slice tA tn tc,.slice sA sn sc,.slice rA rn rc,.slice pA pn pc] 89) = W1 at *;generalize w1.heap.size = N8 at *;have c0:=k8.out.cell 0;have c1:=k8.out.cell 1;have c2:=k8.out.cell 2;have c3:=k8.out.cell 3;have l1:=k8.out.lt;have d0:=k33.out.cell 0;have d1:=k33.out.cell 1;have l3:=k33.out.lt;simp at c0 c1 c2 c3 d0 d1;have hc:=Hd (hcall.out rfl W1 (hf'.out.stays (zo.of hb3.out)) (hv'.out.stays (zo.of hb3.out)) hb3.out);clear hcall;go_wp2_with fail;refine hc.out.mono ?_;rintro e w5 ⟨hres,hb5⟩;have hb6:=Hd (hb3.out.trans (hb5.mono hb3.out.size));have hle:=hb3.out.size;clear hc hb5 c0 c1 c2 c3 l1 d0 d1 l3 k8 k33 k31 hb2 hb3;rcases hres with ⟨rfl,rfl⟩ | ⟨rfl,v,ms,rfl,h1,h2⟩
  ·go_wp2
   go_ret2
   exact ⟨.inl ⟨rfl,rfl⟩,hb6.out⟩
  ·obtain ⟨vA,vc,rfl⟩:=h1.form_
   have h1':=Hd h1;have h2':=Hd h2;clear h1 h2;go_wp2
   go_ret2
   exact ⟨.inr ⟨rfl,_,ms,rfl,zaw.base zbX h1'.out hle,h2'.out⟩,hb6.out⟩
end
section
open Go.RowKit Go.Maps
def zcy (read : ByteArray) : List ByteArray -> Int × Bool
 | []=>(0,false)
 | x :: t=>if (zaq read x).2 then ((zaq read x).1,true) else zcy read t
def zbL (read : ByteArray) (codes : List ByteArray) : Int × Bool:=if read.size = 0 then (3,true) else if zcg read codes then (0,true) else zcy read codes
theorem znf (read : ByteArray) (l : List ByteArray) (k : Nat) (h : k < l.length) : zcy read (l.drop k) = if (zaq read (l.getD k ByteArray.empty)).2 then ((zaq read (l.getD k ByteArray.empty)).1,true) else zcy read (l.drop (k + 1)):=by
 rw [zaI l ByteArray.empty k h,zcy]
def zzj (p : Int × Bool) (e : Ending) : Prop:=e = .returned (.tuple #[.int .i64 p.1,.bool p.2])
variable {w0 w : World} {D : zeA} {C T S n : Nat} {MT MS : List (Int × Value)}
theorem zpT (h : zbd w0 D C T S n w MT MS) (v : Value) (codes : List ByteArray) (hx : zan w v codes) : Calls Tryz.prog 110 #[.pointer (some ⟨C,0,none⟩),v] w fun e w'=>zzj (zbL (zab D.fd 10) codes) e /\ Below w.heap.size w w':=by
 have h':=Hd h;have hx':=Hd hx;obtain ⟨A,c,rfl,x1,x2,x3⟩:=hx;have x3':=Hd x3;unfold maxLen at x2;have c15 : w.cell? ⟨C,15,none⟩ = some (.string (zab D.fd 10)):=h.blk.cell 15;have lC:=h.blk.lt;have hcc : Hid (zbL (zab D.fd 10) codes = if (zab D.fd 10).size = 0 then (3,true) else if zcg (zab D.fd 10) codes then (0,true) else zcy (zab D.fd 10) codes):=Hd rfl;generalize zbL (zab D.fd 10) codes = cc at *;generalize zab D.fd 10 = read at *;clear h x3;by_cases hz : read.size = 0
 ·have e0:=zcc hz
  have hr : Hid (cc = (3,true)):=Hd (by rw [hcc.out,if_pos hz]);have hz':=Hd hz;clear hz;go_enter Tryz.func110,Tryz.ntmps110;go_wp2
  go_ret2
  exact ⟨by rw [hr.out]; rfl,Below.refl _ _⟩
 ·have e0:=zcS hz
  have hcon:=Hd (zbE (.slice A codes.length c) codes read w hx'.out);have hr : Hid (cc = if zcg read codes then (0,true) else zcy read codes):=Hd (by rw [hcc.out,if_neg hz]);have hz':=Hd hz;clear hz hcc;generalize hmm : zcg read codes = mm at *;clear hmm
  cases mm with
  | true=>
   go_enter Tryz.func110,Tryz.ntmps110;go_wp2_with fail;refine hcon.out.mono ?_;rintro e w1 ⟨rfl,rfl⟩;go_wp2
   go_ret2
   exact ⟨by rw [hr.out]; rfl,Below.refl _ _⟩
  | false=>
   go_enter Tryz.func110,Tryz.ntmps110;go_wp2_with fail;refine hcon.out.mono ?_;rintro e w1 ⟨rfl,rfl⟩;clear hcon c15 lC;go_wp2
   go_loopw [23] (fun iv wr=>∃ k : Nat,k <= codes.length /\ iv = .int .i64 k /\ Hid (Below w1.heap.size w1 wr) /\ Hid (cc = zcy read (codes.drop k))) (fun iv _=>codes.length - (intOf iv).toNat)
   case atStart=>exact ⟨0,by omega,rfl,Hd (Below.refl _ _),hr⟩
   case round=>
    obtain ⟨k,hk,rfl,hbw,hcd⟩:=hrel;rename World=>wr;have n0 : (0 : Int) <= (k : Int):=by omega
    by_cases hlt : k < codes.length
    ·have n1 : (k : Int) < (codes.length : Int):=by omega
     obtain ⟨b,off,rfl,hb,hi⟩:=x3'.out (by omega);have hik:=(hi k hlt).1;rw [<- hbw.out.cell (p:=⟨b,off + k,none⟩) hb] at hik;have hbr : b < wr.heap.size:=Nat.lt_of_lt_of_le hb hbw.out.size;have hst : Hid (cc = if (zaq read (codes.getD k ByteArray.empty)).2 then ((zaq read (codes.getD k ByteArray.empty)).1,true) else zcy read (codes.drop (k + 1))):=Hd (by rw [hcd.out,znf read codes k hlt]);clear hi;generalize codes.getD k ByteArray.empty = x at *;have hed:=Hd (zjl read x wr);generalize zaq read x = ed at *;obtain ⟨co,ok⟩:=ed;simp only at hed hst;go_wp2_with fail;refine hed.out.mono ?_;rintro e w3 ⟨rfl,hb3⟩;have hb4:=Hd (za hbw.out hb3);clear hed hb3 hik hbr
     cases ok with
     | true=>
      go_wp2
      go_ret2
      exact ⟨by rw [hst.out]; rfl,hb4.out⟩
     | false=>
      go_wp2;go_roundw
      case rel=>exact ⟨k + 1,by omega,by go_num,hb4,Hd (by rw [hst.out]; rfl)⟩
      case measure=>simp [intOf]; omega
    ·obtain rfl : k = codes.length:=by omega
     go_wp2
     go_ret2
     exact ⟨by rw [hcd.out,List.drop_length]; rfl,hbw.out⟩
end
section
open Go.RowKit Go.Maps
theorem zc.grown {P : Nat -> Prop} {a b c : World} {row : Option Nat} (h : zc P a b) (hg : b.grownBy c row) (hr : ∀ k,row = some k -> a.heap.size <= k) : zc P a c:=
 ⟨Nat.le_trans h.size hg.size,fun x hx hp=>(hg.block x (Nat.lt_of_lt_of_le hx h.size) fun e=>by have:=hr x e.symm; omega).trans (h.block x hx hp)⟩
structure zdM (w0 : World) (D : zeA) (C T S n : Nat) (wB : World) (v : Value) (pl : List zby) (w : World) : Prop where
 own : zco wB.heap.size w v pl
 cmp : ∃ MT MS,zbd w0 (D.with_ fun b=>D.X b \/ some b = v.ownBlock) C T S n w MT MS
 hC : C < wB.heap.size
 hT : T < wB.heap.size
 hS : S < wB.heap.size
 h0 : w0.heap.size <= wB.heap.size
 keep : zc (zaB T S) wB w
variable {w0 wB w w' : World} {D : zeA} {C T S n n' : Nat} {v : Value} {pl : List zby}
theorem zdM.start {MT MS : List (Int × Value)} (h : zbd w0 D C T S n w MT MS) : zdM w0 D C T S n w (.slice none 0 0) [] w:=
 ⟨zaw.nil_,⟨_,_,h.reset _ fun b _ e=>e.resolve_right fun x=>by cases x⟩,h.blk.lt,h.mt.lt,h.ms.lt,h.below.size,zc.refl _ _⟩
theorem zdM.newer (h : zdM w0 D C T S n wB v pl w) {W : World} (hW : w.heap.size <= W.heap.size) (hX : ∀ b,wB.heap.size <= b -> ¬ D.X b) : ∀ b,W.heap.size <= b -> ¬ (D.X b \/ some b = v.ownBlock):=by
 intro b hb e;rcases e with e | e
 ·exact hX b (by have:=h.keep.size; omega) e
 ·have:=(h.own.block_lt e.symm).2
  omega
theorem zdM.skip {MT MS : List (Int × Value)} (h : zdM w0 D C T S n wB v pl w) (hcmp : zbd w0 (D.with_ fun b=>D.X b \/ some b = v.ownBlock) C T S n' w' MT MS) (hkeep : zc (zaB T S) w w') : zdM w0 D C T S n' wB v pl w':=
 ⟨zaw.keep ze h.own (hkeep.weaken fun b hb=>⟨by have:=h.hT; omega,by have:=h.hS; omega⟩),⟨_,_,hcmp⟩,h.hC,h.hT,h.hS,h.h0,h.keep.trans hkeep⟩
theorem zxL : (Tryz.prog.info? 69).map (fun i=>(i.zero,i.size,i.bytes)) = some (some (.agg #[.int .i64 0,.int .i64 0,.int .i64 0]),3,24):=by kernel_rfl
theorem zdM.add {MT MS : List (Int × Value)} {wA wC : World} {p : zby} {v' : Value} (h : zdM w0 D C T S n wB v pl w) (hcmp : zbd w0 (D.with_ fun b=>D.X b \/ some b = v.ownBlock) C T S n' wA MT MS) (hkeep : zc (zaB T S) w wA)
  (hown : wC.ownsRow wB.heap.size 69 3 v' (pl.length + 1) (pl.flatMap zgF ++ zgF p)) (hg : wA.grownBy wC v.ownBlock) (hat : v'.ownBlock = v.ownBlock \/ v'.ownBlock = some wA.heap.size) : zdM w0 D C T S n' wB v' (pl ++ [p]) wC:=by
 have hkB : zc (fun b=>wB.heap.size <= b) w wA:=hkeep.weaken fun b hb=>⟨by have:=h.hT; omega,by have:=h.hS; omega⟩;have hlt : ∀ g,v.ownBlock = some g -> wB.heap.size <= g /\ g < w.heap.size:=fun g hg=>h.own.block_lt hg;refine ⟨zaw.append ze (zaw.keep ze h.own hkB) trivial hown hg ?_,⟨MT,MS,?_⟩,h.hC,h.hT,h.hS,h.h0,(h.keep.trans hkeep).grown hg fun g hg=>(hlt g hg).1⟩
 ·rcases hat with e | e
  ·exact .inl e
  ·exact .inr ⟨_,e,lQ _⟩
 ·have h1:=hcmp.reset (fun b=>(D.X b \/ some b = v.ownBlock) \/ some b = v'.ownBlock) fun b hb e=>by
   rcases e with e | e
   ·exact e
   ·rcases hat with e2 | e2
    ·rw [e2] at e; exact .inr e
    ·rw [e2] at e; injection e with e; omega
  have h2:=h1.grown hg fun g hg=>⟨.inl (.inr hg.symm),by
   have:=hlt g hg;have:=h.hC;have:=h.hT;have:=h.hS;have:=h.h0
   omega⟩
  exact h2.reset (fun b=>D.X b \/ some b = v'.ownBlock) fun b _ e=>by
   rcases e with e | e
   ·exact .inl (.inl e)
   ·exact .inr e
def zjA (D : zeA) (t : zJ) : Option zby:=
 match zax D.f D.cty D.fd t.id with
 | none=>none
 | some ns=>if (zbL (zab D.fd 10) t.codes).2 then some ⟨t.id,0,zO ns + (zbL (zab D.fd 10) t.codes).1⟩ else none
def zch (D : zeA) (l : List zJ) : List zby:=l.filterMap (zjA D)
theorem zhj {α β : Type} (g : α -> Option β) (l : List α) (d : α) (k : Nat) (h : k < l.length) : (l.take (k + 1)).filterMap g = (l.take k).filterMap g ++ (g (l.getD k d)).toList:=by
 rw [zaO l d k h,List.filterMap_append];congr 1
theorem zhi (read : ByteArray) : ∀ l,0 <= (zcy read l).1 /\ (zcy read l).1 <= 1000
 | []=>by simp [zcy]
 | x :: t=>by
  unfold zcy
  split
  ·rename_i h
   exact zge read x h
  ·exact zhi read t
theorem zgt (read : ByteArray) (l : List ByteArray) : 0 <= (zbL read l).1 /\ (zbL read l).1 <= 1000:=by
 unfold zbL
 split
 ·simp
 ·split
  ·simp
  ·exact zhi read l
theorem ziE.notes_at {P : Nat -> Prop} {w : World} {A : Option Addr} {m c : Nat} {b : Bool} {ns : List zP} (h : ziE P w (.agg #[.slice A m c,.bool b]) (some ns)) : zbw P w (.slice A m c) ns:=by
 rcases h with ⟨e,-⟩ | ⟨ns',nv,e1,e2,h⟩
 ·cases e
 ·cases e1; cases e2; exact h
end
end Go.Proofs.YtggimnndflkjkaaGreatDoor
