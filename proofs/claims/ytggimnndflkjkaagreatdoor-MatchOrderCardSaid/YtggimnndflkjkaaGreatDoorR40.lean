import Derived.Test.YtggimnndflkjkaaGreatDoorR01
import Derived.Test.YtggimnndflkjkaaGreatDoorR39
set_option linter.all false
set_option maxRecDepth 100000
set_option maxHeartbeats 0
namespace Go.Proofs.YtggimnndflkjkaaGreatDoor
section
open Go.RowKit Go.Maps
theorem zlT (vt vs vr vp : Value) (f : zw) (c : Int) (pv : Value) (ps : List zu) (w : World) (hf : zaf w vt vs vr vp f) (hfine : zks f) (hv : zav w pv ps) (hps : zH ps) (hg : zrv f) (hlen : f.towns.length <= 1000) (hlen2 : f.streets.length <= 1000) :
  Calls Tryz.prog 37 #[.agg #[vt,vs,vr,vp],.agg #[.int .u8 c,pv]] w fun e w'=>zhN (zR c ps) (zfi f c ps) w.heap.size e w' /\ Below w.heap.size w w':=by
 have hf':=Hd hf;have hv':=Hd hv;have hps':=Hd hps;have hg':=Hd hg;have hlen':=Hd hlen;have hlen2':=Hd hlen2;have hfine':=Hd hfine;obtain ⟨⟨tA,tn,tc,rfl⟩,⟨sA,sn,sc,rfl⟩,⟨rA,rn,rc,rfl⟩,⟨pA,pn,pc,rfl⟩⟩:=hf.forms;obtain ⟨qA,qc,rfl,-⟩:=hv;clear hf hps hg hlen hlen2 hfine;have hb1 : Hid (Below w.heap.size w ((w.alloc (.cells #[.slice tA tn tc,.slice sA sn sc,.slice rA rn rc,.slice pA pn pc] 89)).alloc (.cells #[.int .u8 c,.slice qA ps.length qc] 39))):=Hd (((Below.refl _ _).alloc (lQ _) _).alloc (by simp) _);have k2:=Hd ((Blk.new w 89 #[.slice tA tn tc,.slice sA sn sc,.slice rA rn rc,.slice pA pn pc]).alloc (.cells #[.int .u8 c,.slice qA ps.length qc] 39));have k3:=Hd (Blk.new_at (w.alloc (.cells #[.slice tA tn tc,.slice sA sn sc,.slice rA rn rc,.slice pA pn pc] 89)) 39 #[.int .u8 c,.slice qA ps.length qc] (w.heap.size + 1) (by simp));have hright:=Hd (zeo c (.slice qA ps.length qc) ps _ (hv'.out.stays (zo.of hb1.out)) hps'.out.fine);generalize htp : zfi f c ps = tp at *;have htp':=Hd htp;clear htp;generalize hrp : zR c ps = rp at *;have hrp':=Hd hrp;clear hrp;go_enter Tryz.func37,Tryz.ntmps37;go_upto_region 1 with fail;generalize (w.alloc (.cells #[.slice tA tn tc,.slice sA sn sc,.slice rA rn rc,.slice pA pn pc] 89)).alloc (.cells #[.int .u8 c,.slice qA ps.length qc] 39) = W at *;generalize hK : w.heap.size + 1 = K3 at *;have c30:=k3.out.cell 0;have c31:=k3.out.cell 1;have l3:=k3.out.lt;simp at c30 c31;go_wp2_with fail;refine hright.out.mono ?_;rintro e w1 ⟨rfl,hb⟩;have hb2:=Hd (hb1.out.trans (hb.mono hb1.out.size));have k21:=Hd (k2.out.below hb k2.out.lt);have k31:=Hd (k3.out.below hb k3.out.lt);clear hright hb1 k2 k3 hb c30 c31 l3
 cases rp with
 | false=>
  go_wp2
  go_ret2
  exact ⟨.inl ⟨rfl,rfl⟩,hb2.out⟩
 | true=>
  have c0:=k21.out.cell 0;have c1:=k21.out.cell 1;have c2:=k21.out.cell 2;have c3:=k21.out.cell 3;have l1:=k21.out.lt;have c30:=k31.out.cell 0;have c31:=k31.out.cell 1;have l3:=k31.out.lt;simp at c0 c1 c2 c3 c30 c31;have hnew:=Hd (zdJ (.slice tA tn tc) (.slice sA sn sc) (.slice rA rn rc) (.slice pA pn pc) f c (.slice qA ps.length qc) ps w1 (hf'.out.stays (zo.of hb2.out)) (hv'.out.stays (zo.of hb2.out)) (zfX hrp'.out) (fun p hp=>(hps'.out p hp).1) (fun _=>False));go_wp2_with fail;refine hnew.out.mono ?_;rintro e w2 ⟨C,T,S,rfl,hn⟩;have hcmp:=Hd (hn.cmp (hf'.out.stays (zo.of hb2.out)));have k22:=Hd (k21.out.below hn.below k21.out.lt);have hb3:=Hd (hb2.out.trans (hn.below.mono hb2.out.size));have c12 : w2.cell? ⟨C,12,none⟩ = some (.string (zab (zv ps) 7)):=hcmp.out.blk.cell 12;have lC:=hcmp.out.blk.lt;clear hnew hn k31 c0 c1 c2 c3 l1 c30 c31 l3;by_cases hbox : (zab (zv ps) 7).size = 0
  ·have hsp : Hid (tp = f.streets.filterMap (zfh (zjN f c ps) (zfv (zfE f c ps)))):=Hd (by rw [<- htp'.out]; unfold zfi; rw [if_pos hbox])
   have e0:=zcc hbox;clear hbox htp';generalize zab (zv ps) 7 = bx at *;go_upto_region 6 with fail;clear c12 lC e0;have hmm:=Hd (zbc.made Tryz.prog 3 zY zY w2);have hcm:=Hd ((hcmp.out.reset (fun b=>b = w2.heap.size) fun b hb e=>by omega).up ((Below.refl w2.heap.size w2).alloc (lQ _) (.map #[] 0)));have hMb : Hid (C < w2.heap.size /\ T < w2.heap.size /\ S < w2.heap.size /\ w1.heap.size <= w2.heap.size):=Hd ⟨hcmp.out.blk.lt,hcmp.out.mt.lt,hcmp.out.ms.lt,hcmp.out.below.size⟩
   have hpl:=Hd (ziz hcm.out (zuv hg'.out hps'.out) (fun t ht=>(hfine'.out.t t ht).1) hlen'.out (by omega) fun b hb e=>by
    have : b = w2.heap.size:=e;simp at hb
    omega)
   have k2m:=Hd (k22.out.alloc (.map #[] 0));have hb3m:=Hd (hb3.out.alloc hb3.out.size (.map #[] 0));clear hcmp k22 hcm hb3;have hmk:=@run_makeMap Tryz.prog;go_upto_region 7 with fail;clear hmk;have hszm : w2.heap.size < (w2.alloc (.map #[] 0)).heap.size:=by simp
   generalize w2.alloc (.map #[] 0) = w3 at *;generalize w2.heap.size = Mb at *;go_wp2_with fail;refine hpl.out.mono ?_;rintro e w4 ⟨v,rfl,hfd⟩;have hfd':=Hd hfd;have hfits:=Hd (zqL (D:=zjN f c ps) (l:=f.towns) fun t ht=>(hfine'.out.t t ht).1);have hpe : Hid (zch (zjN f c ps) f.towns = zfE f c ps):=Hd rfl;have hpn : Hid ((zfE f c ps).length <= 1000):=Hd (Nat.le_trans (List.length_filterMap_le ..) hlen'.out);rw [hpe.out] at hfits;have hfd2 : Hid (zdM w1 ((zmn (.slice tA tn tc) (.slice sA sn sc) (.slice rA rn rc) (.slice pA pn pc) f c ps fun _=>False).with_ fun b=>b = Mb) C T S (0 + f.towns.length) w3 v (zfE f c ps) w4):=Hd hfd'.out;clear hpl hfd hfd' hpe;generalize zfE f c ps = pl at *;have hput0 : Hid (zzd w1 (zmn (.slice tA tn tc) (.slice sA sn sc) (.slice rA rn rc) (.slice pA pn pc) f c ps fun _=>False) C T S Mb (0 + f.towns.length) w3.heap.size v pl 0 w4):=Hd ⟨hfd2.out.own,hfd2.out.cmp,hmm.out.same (hfd2.out.keep.block Mb hszm ⟨by have:=hMb.out; omega,by have:=hMb.out; omega⟩),by have:=hMb.out; omega⟩
   have hb4 : Hid (Below w.heap.size w w4):=Hd (by
    obtain ⟨MT,MS,hc⟩:=hfd2.out.cmp
    exact hb2.out.trans (hc.below.mono hb2.out.size))
   obtain ⟨vA,vc,rfl⟩:=hfd2.out.own.form_;clear hfd2 hmm;go_wp2
   go_loopw [33] (fun iv wr=>∃ k : Nat,k <= pl.length /\ iv = .int .i64 k /\ Hid (zzd w1 (zmn (.slice tA tn tc) (.slice sA sn sc) (.slice rA rn rc) (.slice pA pn pc) f c ps fun _=>False) C T S Mb (0 + f.towns.length) w3.heap.size (.slice vA pl.length vc) pl k wr /\ Below w.heap.size w wr)) (fun iv _=>pl.length - (intOf iv).toNat)
   case atStart=>exact ⟨0,by omega,rfl,Hd ⟨hput0.out,hb4.out⟩⟩
   case round=>
    obtain ⟨k,hk,rfl,hr⟩:=hrel;rename World=>wr;have n0 : (0 : Int) <= (k : Int):=by omega
    by_cases hlt : k < pl.length
    ·have n1 : (k : Int) < (pl.length : Int):=by omega
     obtain ⟨A',c',e',g1,g2,g3⟩:=zaw.sl hr.out.1.own (fun _=>rfl);obtain ⟨b,off,rfl,hb,-,hi⟩:=g3 (by omega);have hvA : Hid (vA = some ⟨b,off,none⟩ /\ pl.length <= vc /\ vc <= maxLen):=Hd (by cases e'; exact ⟨rfl,g1,g2⟩);obtain ⟨rfl,g4,g5⟩:=hvA.out;have hcell:=(hi k hlt).2.2 hlt;have a0:=hcell 0 (by omega);have a1:=hcell 1 (by omega);have a2:=hcell 2 (by omega);have hq:=Hd (zD pl ⟨0,0,0⟩ k hlt);have hfk:=Hd (hfits.out (pl.getD k ⟨0,0,0⟩) (by rw [hq.out]; exact List.getElem_mem hlt));have hnx:=Hd (fun (wA wC : World) h1 h2 h3=>zzd.next (wA:=wA) (wC:=wC) hr.out.1 hlt h1 h2 h3);have hmp:=Hd hr.out.1.map;rw [<- hq.out] at a0 a1 a2;clear hcell hi e' g1 g2 g3 hvA hq;generalize pl.getD k ⟨0,0,0⟩ = p at *;obtain ⟨t0,s0,c0⟩:=p;simp only [zgF,List.getElem?_cons_zero,List.getElem?_cons_succ,Nat.add_zero] at a0 a1 a2 hfk hnx;unfold maxLen at g5;have hba:=Hd ((Below.refl wr.heap.size wr).alloc (lQ _) (.cells #[.int .i64 t0,.int .i64 s0,.int .i64 c0] 69));obtain ⟨wM,hput,hmv,hgr⟩:=(hmp.out.alloc (.cells #[.int .i64 t0,.int .i64 s0,.int .i64 c0] 69)).put zdf Tryz.underlying67 (by unfold maxLen; have:=hpn.out; omega) zbm t0 c0 (zaJ t0 hfk.out.1);simp only [zY] at hput;have hnx2:=Hd (hnx.out _ _ hba.out hmv hgr)
     have hbM : Hid (Below w.heap.size w wM):=Hd ((hr.out.2.trans (hba.out.mono hr.out.2.size)).grown hgr (by have:=hr.out.2.size; have:=hba.out.size; omega) fun g hg=>by
      injection hg with hg;have:=hMb.out;have:=hb2.out.size
      omega)
     clear hnx hmv hgr hba hmp;go_wp2;go_roundw
     case rel=>exact ⟨k + 1,by omega,by go_num,Hd ⟨hnx2.out,hbM.out⟩⟩
     case measure=>simp [intOf]; omega
    ·obtain rfl : k = pl.length:=by omega
     clear hlt;obtain ⟨MT,MS,hcr⟩:=hr.out.1.cmp;have hlk : Hid (zmU w1 (zmn (.slice tA tn tc) (.slice sA sn sc) (.slice rA rn rc) (.slice pA pn pc) f c ps fun _=>False) C T S Mb (0 + f.towns.length + 0) pl.length (zfv pl) wr (.slice none 0 0) [] wr):=Hd ⟨zdM.start (hcr.reset (fun b=>b = Mb) fun b _ e=>.inl e),by have:=hr.out.1.map; rw [List.take_length] at this; exact this,by have:=hr.out.1.hM; omega,by have:=hr.out.1.hM; omega,hr.out.1.map.lt⟩;have k2r:=Hd (k21.out.below hcr.below k21.out.lt);have hwr1 : w1.heap.size <= wr.heap.size:=hcr.below.size;have hss:=hf'.out.s;obtain ⟨sA',sc',e',g1,g2,g3⟩:=hss;obtain ⟨rfl,rfl,rfl⟩ : sA = sA' /\ sn = f.streets.length /\ sc = sc':=by cases e'; exact ⟨rfl,rfl,rfl⟩
     have g3':=Hd g3;have hcb:=Hd (fun (a x : Int) (hx : zbR a (zfv pl) = some x)=>zod hfits.out hx);unfold maxLen at g2;clear hcr e' g3 hr hfits;obtain ⟨i0,hi0,hz0,hz1,hz2⟩:=info_parts zxL;have c1:=k2r.out.cell 1;have l2:=k2r.out.lt;simp at c1;go_wp2;clear c1 l2 k2r;generalize zfv pl = M at *;generalize pl.length = nM at *;generalize hDe : zmn (.slice tA tn tc) (.slice sA f.streets.length sc) (.slice rA rn rc) (.slice pA pn pc) f c ps (fun _=>False) = D at *
     have hDf : Hid (D.f = f /\ (∀ s,zfh (zjN f c ps) M s = match zbR s.town M with
      | none=>none
      | some cost=>match zZ D.f D.fd D.tx s.id with
       | none=>none
       | some ns=>some ⟨s.town,s.id,cost + zO ns⟩) /\ zkr D):=Hd (by rw [<- hDe]; exact ⟨rfl,fun _=>rfl,zuv hg'.out hps'.out⟩)
     clear hDe
     go_loopw [10,47] (fun v iv wq=>∃ k : Nat,k <= f.streets.length /\ iv = .int .i64 k /\ Hid (zmU w1 D C T S Mb (0 + f.towns.length + k) nM M wr v ((f.streets.take k).filterMap (zfh (zjN f c ps) M)) wq)) (fun _ iv _=>f.streets.length - (intOf iv).toNat)
     case atStart=>exact ⟨0,by omega,rfl,hlk⟩
     case round=>
      obtain ⟨k,hk,rfl,hr⟩:=hrel;rename World=>wq;have n0 : (0 : Int) <= (k : Int):=by omega
      obtain ⟨MT',MS',hc1⟩:=hr.out.fnd.cmp;have hc1':=Hd hc1;have hbq : Hid (Below w.heap.size w wq):=Hd (hb2.out.trans (hc1.below.mono hb2.out.size));obtain ⟨vA2,vc2,rfl⟩:=hr.out.fnd.own.form_;clear hc1;by_cases hlt : k < f.streets.length
      ·have n1 : (k : Int) < (f.streets.length : Int):=by omega
       obtain ⟨b,off,rfl,hb,hi⟩:=g3'.out (by omega);obtain ⟨cv,hti⟩:=hi k hlt;have hmem : Hid (f.streets.getD k zz.zero ∈ f.streets):=Hd (by rw [zD _ _ _ hlt]; exact List.getElem_mem hlt);have htk:=Hd (zhj (zfh (zjN f c ps) M) f.streets zz.zero k hlt);have hpq:=Hd (hDf.out.2.1 (f.streets.getD k zz.zero));have hft:=Hd (hfine'.out.s _ hmem.out);clear hi;obtain ⟨cA,cn,cc,rfl⟩:=hti.tx.form;have a0:=hti.c0;have a1:=hti.c1;have a2:=hti.c2;have a3:=hti.c3;have a4:=hti.c4;have a5:=hti.c5;rw [<- hbq.out.cell (p:=⟨b,off + k * 6,none⟩) hb] at a0;rw [<- hbq.out.cell (p:=⟨b,off + k * 6 + 1,none⟩) hb] at a1;rw [<- hbq.out.cell (p:=⟨b,off + k * 6 + 2,none⟩) hb] at a2;rw [<- hbq.out.cell (p:=⟨b,off + k * 6 + 3,none⟩) hb] at a3;rw [<- hbq.out.cell (p:=⟨b,off + k * 6 + 4,none⟩) hb] at a4;rw [<- hbq.out.cell (p:=⟨b,off + k * 6 + 5,none⟩) hb] at a5;have hbr : b < wq.heap.size:=Nat.lt_of_lt_of_le hb hbq.out.size;obtain ⟨pl2,hpl2⟩ : ∃ pl2,pl2 = (f.streets.take k).filterMap (zfh (zjN f c ps) M):=⟨_,rfl⟩;have hpl':=Hd hpl2;rw [<- hpl2] at hr htk hc1' ⊢;clear hpl2;have hpll : Hid (pl2.length <= 1000):=Hd (by rw [hpl'.out]; exact Nat.le_trans (List.length_filterMap_le ..) (by rw [List.length_take]; have:=hlen2'.out; omega));generalize zfh (zjN f c ps) M (f.streets.getD k zz.zero) = pq at *;generalize f.streets.getD k zz.zero = q at *;obtain ⟨t0,t1,t2,t3,t4,t5⟩:=q;simp only at a0 a1 a2 a3 a4 a5 hft hpq;have hba:=Hd ((Below.refl wq.heap.size wq).alloc (lQ _) (.cells #[.int .i64 t0,.int .i64 t1,.string t2,.string t3,.string t4,.slice cA cn cc] 83));have k5:=Hd (Blk.new wq 83 #[.int .i64 t0,.int .i64 t1,.string t2,.string t3,.string t4,.slice cA cn cc]);clear hti hmem;go_upto_region 16 with fail;clear a0 a1 a2 a3 a4 a5 hbr;generalize wq.alloc (.cells #[.int .i64 t0,.int .i64 t1,.string t2,.string t3,.string t4,.slice cA cn cc] 83) = W5 at *;have hsz5 : wq.heap.size <= W5.heap.size:=hba.out.size;have hT5 : T < wq.heap.size /\ S < wq.heap.size:=⟨hc1'.out.mt.lt,hc1'.out.ms.lt⟩;have hlook:=(hr.out.map.below hba.out hr.out.map.lt).look_ok zdf Tryz.underlying67 (zzb _) t1 (zaJ t1 hft.out.2.1);simp only [zY] at hlook;have r0:=k5.out.cell 0;have r1:=k5.out.cell 1;have l5:=k5.out.lt;simp at r0 r1;have hk1 : k + 1 <= f.streets.length:=hlt
       cases hgm : zbR t1 M with
       | none=>
        rw [hgm] at hlook;simp only [orV,Option.isSome_none] at hlook;have hno : Hid (pq = none):=Hd (by rw [hpq.out,hgm]);have hnext:=Hd (hr.out.skip ((hc1'.out.up hba.out).mono (n':=0 + f.towns.length + (k + 1)) (by omega)) (zc.of_below hba.out _));clear hpq hgm;go_wp2;go_roundw
        case rel=>exact ⟨k + 1,by omega,by go_num,Hd (by rw [htk.out,hno.out]; simpa using hnext.out)⟩
        case measure=>simp [intOf]; omega
       | some cst=>
        rw [hgm] at hlook;simp only [orV,zY,Option.isSome_some] at hlook;rw [hgm] at hpq;have hcst:=Hd (hcb.out t1 cst hgm);clear hgm
        have htw:=Hd (zjk (hc1'.out.up hba.out) ((hDf.out.2.2.with_ _).with_ _) t0 hft.out.1 (by have:=hlen'.out; have:=hlen2'.out; omega) (hr.out.fnd.newer hsz5 fun b hb e=>by
         have : b = Mb:=e;have:=hr.out.hM
         omega))
        go_wp2_with fail;refine htw.out.mono ?_;rintro e w7 ⟨v,MT7,rfl,hv,h7,hk7⟩;obtain ⟨uA,um,uc,ub,rfl,hub⟩:=hv.form;have hub' : Hid (ub = (zZ D.f D.fd D.tx t0).isSome):=Hd hub;have hv7:=Hd (hv.keep (zc.of_below ((Below.refl w7.heap.size w7).alloc (lQ _) (.cells #[.slice uA um uc,.bool ub] 130)) _) fun _ _ x=>x);have h77:=Hd (h7.up ((Below.refl w7.heap.size w7).alloc (lQ _) (.cells #[.slice uA um uc,.bool ub] 130)));have k57:=Hd ((k5.out.keep hk7 ⟨by omega,by omega⟩).alloc (.cells #[.slice uA um uc,.bool ub] 130));have k6:=Hd (Blk.new w7 130 #[.slice uA um uc,.bool ub]);have hk77 : Hid (zc (zaB T S) wq (w7.alloc (.cells #[.slice uA um uc,.bool ub] 130))):=Hd (((zc.of_below hba.out (zaB T S)).trans hk7).trans (zc.of_below ((Below.refl w7.heap.size w7).alloc (lQ _) _) _));have hsz7 : Hid (W5.heap.size <= w7.heap.size):=Hd hk7.size;clear hv hub h7 hk7 htw r0 r1 l5 k5 hba hlook;go_upto_region 19 with fail;generalize w7.alloc (.cells #[.slice uA um uc,.bool ub] 130) = w9 at *;have hN6r : wq.heap.size <= w7.heap.size:=Nat.le_trans hsz5 hsz7.out;generalize w7.heap.size = N6 at *;have r1:=k6.out.cell 1;have l6:=k6.out.lt;simp at r1
        cases ub with
        | false=>
         have hno : Hid (pq = none):=Hd (by
          have h0:=hub'.out;rw [hpq.out]
          cases hq : zZ D.f D.fd D.tx t0 with
          | none=>rfl
          | some ns=>rw [hq] at h0; cases h0)
         have hnext:=Hd (hr.out.skip h77.out hk77.out);clear hpq hv7 h77 hub';go_wp2;go_roundw
         case rel=>exact ⟨k + 1,by omega,by go_num,Hd (by rw [htk.out,hno.out]; simpa [Nat.add_assoc] using hnext.out)⟩
         case measure=>simp [intOf]; omega
        | true=>
         have hyes : Hid (∃ ns,zZ D.f D.fd D.tx t0 = some ns /\ zbw (fun b=>some b ≠ Value.ownBlock (.slice vA2 pl2.length vc2)) w9 (.slice uA um uc) ns):=Hd (by
          have h0:=hub'.out
          cases hq : zZ D.f D.fd D.tx t0 with
          | none=>rw [hq] at h0; cases h0
          | some ns=>
           have h1 : ziE _ w9 (.agg #[.slice uA um uc,.bool true]) (zZ D.f D.fd D.tx t0):=hv7.out;rw [hq] at h1
           exact ⟨ns,rfl,h1.notes_at.weaken fun _ _ x e=>x.2 (.inr e)⟩)
         obtain ⟨ns,hy1,hn9⟩:=hyes.out;have hch:=Hd (zdL hy1);rw [hy1] at hpq;have hn9':=Hd hn9;have hp1 : Hid (pq = some ⟨t1,t0,cst + zO ns⟩):=Hd (by rw [hpq.out]);have htt:=zbD ns hch.out.1;have hlen3:=hch.out.2;have hct:=Hd (fun W (h : zc (fun b=>some b ≠ Value.ownBlock (.slice vA2 pl2.length vc2)) w9 W)=>zko (.slice uA um uc) ns W (hn9'.out.keep h fun _ _ x=>x).notes hch.out.1 (by omega));have ht0 : 0 <= zO ns:=htt.1;have ht1 : zO ns <= 3000000:=by omega
         have hc0:=hcst.out.1;have hc1x:=hcst.out.2;clear htt hlen3 hpq hch hv7 hub' hy1 hn9 hyes;generalize zO ns = tot at *;have hw : IntKind.i64.wrap (cst + tot) = cst + tot:=by simp [IntKind.wrap,IntKind.bits,IntKind.signed]; omega
         clear ht0 ht1 hc0 hc1x;have hown:=Hd (hr.out.skip h77.out hk77.out).fnd.own;have hne5 : some wq.heap.size ≠ Value.ownBlock (.slice vA2 pl2.length vc2):=fun e=>by have:=(hr.out.fnd.own.block_lt e.symm).2; omega
         have hne6 : some N6 ≠ Value.ownBlock (.slice vA2 pl2.length vc2):=fun e=>by have:=(hr.out.fnd.own.block_lt e.symm).2; omega
         go_upto_region 20 with fail;clear r1 l6;refine zcw (C:=fun w1=>zc (fun b=>some b ≠ Value.ownBlock (.slice vA2 pl2.length vc2)) w9 w1) [true,true,true,true,true,true,true,true,true,true,true,false,false] [11,12] (by kernel_rfl) (by kernel_rfl) (by kernel_rfl) (fun _ h=>zc.of_below h _) ?A9 ?q9 ?t9
         case q9=>
          intro S1 hS1 hSC hne;have y0:=fun (u : zaP S1)=>(k57.out.keep (hSC u.wld u.mem) hne5).cell 0;have y1:=fun (u : zaP S1)=>(k57.out.keep (hSC u.wld u.mem) hne5).cell 1;have y6:=fun (u : zaP S1)=>(k6.out.keep (hSC u.wld u.mem) hne6).cell 0;simp at y0 y1 y6;have hcu:=Hd fun (u : zaP S1)=>hct.out u.wld (hSC u.wld u.mem);simp only [zbM,if_true,if_false,Bool.false_eq_true]
          repeat (go_big_quiet_step ((go_at_call 61; exact zdd hS1 (hcu.out _))))
          refine wpQuiet_nil ?_;rfl
         clear hct k57 k6 hn9';refine zaR [11] (by kernel_rfl) fun i hi wa hba=>?_;obtain rfl:=mS.1 hi;refine ⟨_,rfl,zy (ops:=#[]) (K:=fun a' w'=>(∀ w2,Below w'.heap.size w' w2 -> zc (fun b=>some b ≠ Value.ownBlock (.slice vA2 pl2.length vc2)) w9 w2) /\ mkZ Tryz.prog _ _ (fun w1=>zc (fun b=>some b ≠ Value.ownBlock (.slice vA2 pl2.length vc2)) w9 w1) _ 1 [12] a' w') rfl fun Q' hQ=>?_⟩;simp only [gX,gQ,gZ];have kx:=Hd (Blk.new wa 69 #[.int .i64 t1,.int .i64 t0,.int .i64 (cst + tot)]);have hbx:=Hd (zq hba (.cells #[.int .i64 t1,.int .i64 t0,.int .i64 (cst + tot)] 69));clear hba;go_wp2;refine hQ _ _ rfl ⟨fun w4 h4=>zc.of_below (za hbx.out h4) _,?_⟩;clear hQ;generalize wa.alloc (.cells #[.int .i64 t1,.int .i64 t0,.int .i64 (cst + tot)] 69) = wx at *;generalize wa.heap.size = NX at *;refine zaR [12] (by kernel_rfl) fun i hi wb hbb=>?_;obtain rfl:=mS.1 hi;have hbw:=Hd (za hbx.out hbb);have kb:=Hd (kx.out.below hbb kx.out.lt);have ho:=Hd ((zaw.keep ze hown.out (zc.of_below hbw.out _)).1);have hcbb:=Hd (h77.out.up hbw.out);have hkb:=Hd (hk77.out.trans (zc.of_below hbw.out (zaB T S)));have sd1 : pl2.length + 1 <= maxLen:=by have:=hpll.out; unfold maxLen; omega
         have sd2 : (pl2.length + 1) * 24 <= 140737488355328:=by have:=hpll.out; omega
         have sd3 : wr.heap.size <= wb.heap.size:=by have:=hr.out.fnd.keep.size; have:=hkb.out.size; omega
         have hA:=Hd (fun (ops : Array Oper) (rest : List Oper) (o : Oper) (a : Act) (Q : Exit -> Act -> World -> Prop) hgd ho' hs hx h=>wpList_append_own_at (P:=Tryz.prog) (ops:=ops) (rest:=rest) (o:=o) (a:=a) (Q:=Q) wb hgd (.tmp 66) (.tmp 77) 64 ho' wr.heap.size 69 i0 (.agg #[.int .i64 0,.int .i64 0,.int .i64 0]) 3 24 Tryz.underlying64 hi0 hz0 hz1 hz2 rfl (by decide) (.slice vA2 pl2.length vc2) pl2.length (pl2.flatMap zgF) hs ho.out ⟨NX,0,none⟩ 1 1 [.int .i64 t1,.int .i64 t0,.int .i64 (cst + tot)] hx rfl (znJ fun j u hu=>by
          rw [kb.out.cell]
          match j,hu with
          | 0,hu=>simpa using hu
          | 1,hu=>simpa using hu
          | 2,hu=>simpa using hu
          | j + 3,hu=>simp at hu) (ziW ⟨t1,t0,cst + tot⟩) sd1 sd2 sd3 h)
         have hadd:=Hd (fun (wC : World) (v' : Value) h1 h2 h3=>zmU.add (p:=⟨t1,t0,cst + tot⟩) (wC:=wC) (v':=v') hr.out hcbb.out hkb.out h1 h2 h3);have hbg : Hid (∀ (wC : World),wb.grownBy wC (Value.ownBlock (.slice vA2 pl2.length vc2)) -> zc (fun b=>some b ≠ Value.ownBlock (.slice vA2 pl2.length vc2)) w9 wC):=Hd fun wC hg=>(zc.of_below hbw.out _).trans (zc.of_grown hg fun _ hb=>hb);clear sd1 sd2 sd3 hcbb hkb ho kb kx hbx hbb hbw;refine ⟨_,rfl,zy (ops:=#[]) (K:=fun a' w'=>(∀ w2,Below w'.heap.size w' w2 -> zc (fun b=>some b ≠ Value.ownBlock (.slice vA2 pl2.length vc2)) w9 w2) /\ mkZ Tryz.prog _ _ (fun w1=>zc (fun b=>some b ≠ Value.ownBlock (.slice vA2 pl2.length vc2)) w9 w1) _ 0 [] a' w') rfl fun Q' hQ=>?_⟩;simp only [gX,gQ,gZ];go_wp2_with (at_builtin; refine hA.out _ _ _ _ _ rfl rfl rfl rfl ?_; intro v' wC hownC hgrC hnilC hatC);have hx1:=Hd (hadd.out wC v' hownC hgrC hatC);have hx2:=Hd (hbg.out wC hgrC);clear hA hadd hbg hownC hgrC hnilC hatC;refine hQ _ _ rfl ⟨fun w4 h4=>hx2.out.trans (zc.of_below h4 _),?_⟩;clear hQ;refine zii rfl [] [] _ _ rfl (fun j hj=>by cases hj) rfl ?_;intro we hbe;obtain ⟨MTe,MSe,hce⟩:=hx1.out.fnd.cmp;have hx3:=Hd (hx1.out.skip (hce.up hbe) (zc.of_below hbe _));clear hx1 hx2 hce hbe;go_wp2;go_roundw
         case rel=>exact ⟨k + 1,by omega,by go_num,Hd (by rw [htk.out,hp1.out]; exact hx3.out)⟩
         case measure=>simp [intOf]; omega
      ·obtain rfl : k = f.streets.length:=by omega
       simp only [List.take_length] at hr ⊢;have hso:=Hd (zmy hr.out.fnd.own (Nat.lt_of_le_of_lt (List.length_filterMap_le ..) (by have:=hlen2'.out; omega)));clear hlt;go_wp2_with fail;refine hso.out.mono ?_;rintro e w4 ⟨rfl,plx,hperm,hown,hgr⟩
       have hfin : Hid (zco w.heap.size w4 _ plx /\ plx.Perm tp /\ Below w.heap.size w w4):=Hd (by
        have h1:=hb2.out.size;have h2:=hr.out.fnd.h0
        refine ⟨zaw.base ze hown (by omega),?_,hbq.out.grown hgr hbq.out.size fun g hg=>by
         have:=(hr.out.fnd.own.block_lt hg).1
         omega⟩
        rw [hsp.out]
        exact hperm)
       clear hso hperm hown hgr;go_wp2
       go_ret2
       exact ⟨.inr ⟨rfl,_,plx,rfl,hfin.out.1,hfin.out.2.1⟩,hfin.out.2.2⟩
  ·have hsp : Hid (tp = []):=Hd (by rw [<- htp'.out]; unfold zfi; rw [if_neg hbox])
   have e0:=zcS hbox;clear hbox htp';generalize zab (zv ps) 7 = bx at *;go_wp2
   go_ret2
   exact ⟨.inr ⟨rfl,_,[],rfl,zaw.nil_,by rw [hsp.out]⟩,hb3.out⟩
end
section
open Go.RowKit Go.Maps
theorem zig (vt vs vr vp : Value) (f : zw) (c : Int) (pv : Value) (ps : List zu) (w : World) (hf : zaf w vt vs vr vp f) (hfine : zks f) (hv : zav w pv ps) (hps : zH ps) (hg : zae f = true -> zrv f) (hlen : f.towns.length <= 1000) :
  Calls Tryz.prog 21 #[.agg #[vt,vs,vr,vp],.agg #[.int .u8 c,pv]] w fun e w'=>zhN (zae f && zR c ps) (zfE f c ps) w.heap.size e w' /\ Below w.heap.size w w':=by
 have hf':=Hd hf;have hv':=Hd hv;have hcall:=Hd (fun (h : zae f = true) W h1 h2 (h3 : Below w.heap.size w W)=>zom vt vs vr vp f c pv ps W h1 hfine h2 hps (hg h) hlen);obtain ⟨⟨tA,tn,tc,rfl⟩,⟨sA,sn,sc,rfl⟩,⟨rA,rn,rc,rfl⟩,⟨pA,pn,pc,rfl⟩⟩:=hf.forms;obtain ⟨qA,qc,rfl,-⟩:=hv;clear hf;have hb1 : Hid (Below w.heap.size w ((w.alloc (.cells #[.slice tA tn tc,.slice sA sn sc,.slice rA rn rc,.slice pA pn pc] 31)).alloc (.cells #[.int .u8 c,.slice qA ps.length qc] 39))):=Hd (((Below.refl _ _).alloc (lQ _) _).alloc (by simp) _);have k2:=Hd ((Blk.new w 31 #[.slice tA tn tc,.slice sA sn sc,.slice rA rn rc,.slice pA pn pc]).alloc (.cells #[.int .u8 c,.slice qA ps.length qc] 39));have k3:=Hd (Blk.new_at (w.alloc (.cells #[.slice tA tn tc,.slice sA sn sc,.slice rA rn rc,.slice pA pn pc] 31)) 39 #[.int .u8 c,.slice qA ps.length qc] (w.heap.size + 1) (by simp));have hon:=Hd (zxj (.slice tA tn tc) (.slice sA sn sc) (.slice rA rn rc) (.slice pA pn pc) f _ (hf'.out.stays (zo.of hb1.out)) hfine);generalize zae f = vb at *;generalize (zfE f c ps) = al at *;generalize zR c ps = rp at *;clear hfine hps hg hlen;go_enter Tryz.func21,Tryz.ntmps21;go_upto_region 1 with fail;generalize (w.alloc (.cells #[.slice tA tn tc,.slice sA sn sc,.slice rA rn rc,.slice pA pn pc] 31)).alloc (.cells #[.int .u8 c,.slice qA ps.length qc] 39) = W at *;generalize hK : w.heap.size + 1 = K3 at *;have c0:=k2.out.cell 0;have c1:=k2.out.cell 1;have c2:=k2.out.cell 2;have c3:=k2.out.cell 3;have l1:=k2.out.lt;simp at c0 c1 c2 c3;go_wp2_with fail;refine hon.out.mono ?_;rintro e w1 ⟨rfl,hb⟩;have hb2:=Hd (hb1.out.trans (hb.mono hb1.out.size));have k31:=Hd (k3.out.below hb k3.out.lt);clear hon hb1 k2 k3 c0 c1 c2 c3 l1 hb
 cases vb with
 | false=>
  have hb3:=Hd (hb2.out.alloc hb2.out.size (.cells #[.slice none 0 0,.slice none 0 0,.slice none 0 0,.slice none 0 0] 89));unfold onA;simp only [Bool.false_eq_true,if_false];go_upto_region 2 with fail;generalize w1.alloc (.cells #[.slice none 0 0,.slice none 0 0,.slice none 0 0,.slice none 0 0] 89) = W1 at *;go_wp2
  go_ret2
  exact ⟨.inl ⟨rfl,rfl⟩,hb3.out⟩
 | true=>
  have hb3:=Hd (hb2.out.alloc hb2.out.size (.cells #[.slice tA tn tc,.slice sA sn sc,.slice rA rn rc,.slice pA pn pc] 89));have k8:=Hd (Blk.new w1 89 #[.slice tA tn tc,.slice sA sn sc,.slice rA rn rc,.slice pA pn pc]);have k33:=Hd (k31.out.alloc (.cells #[.slice tA tn tc,.slice sA sn sc,.slice rA rn rc,.slice pA pn pc] 89));unfold onA;simp only [if_true];go_upto_region 2 with fail;generalize w1.alloc (.cells #[.slice tA tn tc,.slice sA sn sc,.slice rA rn rc,.slice pA pn pc] 89) = W1 at *;generalize w1.heap.size = N8 at *;have c0:=k8.out.cell 0;have c1:=k8.out.cell 1;have c2:=k8.out.cell 2;have c3:=k8.out.cell 3;have l1:=k8.out.lt;have d0:=k33.out.cell 0;have d1:=k33.out.cell 1;have l3:=k33.out.lt;simp at c0 c1 c2 c3 d0 d1;have hc:=Hd (hcall.out rfl W1 (hf'.out.stays (zo.of hb3.out)) (hv'.out.stays (zo.of hb3.out)) hb3.out);clear hcall;go_wp2_with fail;refine hc.out.mono ?_;rintro e w5 ⟨hres,hb5⟩;have hb6:=Hd (hb3.out.trans (hb5.mono hb3.out.size));have hle:=hb3.out.size;clear hc hb5 c0 c1 c2 c3 l1 d0 d1 l3 k8 k33 k31 hb2 hb3;rcases hres with ⟨rfl,rfl⟩ | ⟨rfl,v,ms,rfl,h1,h2⟩
  ·go_wp2
   go_ret2
   exact ⟨.inl ⟨rfl,rfl⟩,hb6.out⟩
  ·obtain ⟨vA,vc,rfl⟩:=h1.form_
   have h1':=Hd h1;have h2':=Hd h2;clear h1 h2;go_wp2
   go_ret2
   exact ⟨.inr ⟨rfl,_,ms,rfl,zaw.base ze h1'.out hle,h2'.out⟩,hb6.out⟩
theorem zgD (vt vs vr vp : Value) (f : zw) (c : Int) (pv : Value) (ps : List zu) (w : World) (hf : zaf w vt vs vr vp f) (hfine : zks f) (hv : zav w pv ps) (hps : zH ps) (hg : zae f = true -> zrv f) (hlen : f.towns.length <= 1000) (hlen2 : f.streets.length <= 1000) :
  Calls Tryz.prog 20 #[.agg #[vt,vs,vr,vp],.agg #[.int .u8 c,pv]] w fun e w'=>zhN (zae f && zR c ps) (zfi f c ps) w.heap.size e w' /\ Below w.heap.size w w':=by
 have hf':=Hd hf;have hv':=Hd hv;have hcall:=Hd (fun (h : zae f = true) W h1 h2 (h3 : Below w.heap.size w W)=>zlT vt vs vr vp f c pv ps W h1 hfine h2 hps (hg h) hlen hlen2);obtain ⟨⟨tA,tn,tc,rfl⟩,⟨sA,sn,sc,rfl⟩,⟨rA,rn,rc,rfl⟩,⟨pA,pn,pc,rfl⟩⟩:=hf.forms;obtain ⟨qA,qc,rfl,-⟩:=hv;clear hf;have hb1 : Hid (Below w.heap.size w ((w.alloc (.cells #[.slice tA tn tc,.slice sA sn sc,.slice rA rn rc,.slice pA pn pc] 31)).alloc (.cells #[.int .u8 c,.slice qA ps.length qc] 39))):=Hd (((Below.refl _ _).alloc (lQ _) _).alloc (by simp) _);have k2:=Hd ((Blk.new w 31 #[.slice tA tn tc,.slice sA sn sc,.slice rA rn rc,.slice pA pn pc]).alloc (.cells #[.int .u8 c,.slice qA ps.length qc] 39));have k3:=Hd (Blk.new_at (w.alloc (.cells #[.slice tA tn tc,.slice sA sn sc,.slice rA rn rc,.slice pA pn pc] 31)) 39 #[.int .u8 c,.slice qA ps.length qc] (w.heap.size + 1) (by simp));have hon:=Hd (zxj (.slice tA tn tc) (.slice sA sn sc) (.slice rA rn rc) (.slice pA pn pc) f _ (hf'.out.stays (zo.of hb1.out)) hfine);generalize zae f = vb at *;generalize (zfi f c ps) = al at *;generalize zR c ps = rp at *;clear hfine hps hg hlen hlen2;go_enter Tryz.func20,Tryz.ntmps20;go_upto_region 1 with fail;generalize (w.alloc (.cells #[.slice tA tn tc,.slice sA sn sc,.slice rA rn rc,.slice pA pn pc] 31)).alloc (.cells #[.int .u8 c,.slice qA ps.length qc] 39) = W at *;generalize hK : w.heap.size + 1 = K3 at *;have c0:=k2.out.cell 0;have c1:=k2.out.cell 1;have c2:=k2.out.cell 2;have c3:=k2.out.cell 3;have l1:=k2.out.lt;simp at c0 c1 c2 c3;go_wp2_with fail;refine hon.out.mono ?_;rintro e w1 ⟨rfl,hb⟩;have hb2:=Hd (hb1.out.trans (hb.mono hb1.out.size));have k31:=Hd (k3.out.below hb k3.out.lt);clear hon hb1 k2 k3 c0 c1 c2 c3 l1 hb
 cases vb with
 | false=>
  have hb3:=Hd (hb2.out.alloc hb2.out.size (.cells #[.slice none 0 0,.slice none 0 0,.slice none 0 0,.slice none 0 0] 89));unfold onA;simp only [Bool.false_eq_true,if_false];go_upto_region 2 with fail;generalize w1.alloc (.cells #[.slice none 0 0,.slice none 0 0,.slice none 0 0,.slice none 0 0] 89) = W1 at *;go_wp2
  go_ret2
  exact ⟨.inl ⟨rfl,rfl⟩,hb3.out⟩
 | true=>
  have hb3:=Hd (hb2.out.alloc hb2.out.size (.cells #[.slice tA tn tc,.slice sA sn sc,.slice rA rn rc,.slice pA pn pc] 89));have k8:=Hd (Blk.new w1 89 #[.slice tA tn tc,.slice sA sn sc,.slice rA rn rc,.slice pA pn pc]);have k33:=Hd (k31.out.alloc (.cells #[.slice tA tn tc,.slice sA sn sc,.slice rA rn rc,.slice pA pn pc] 89));unfold onA;simp only [if_true];go_upto_region 2 with fail;generalize w1.alloc (.cells #[.slice tA tn tc,.slice sA sn sc,.slice rA rn rc,.slice pA pn pc] 89) = W1 at *;generalize w1.heap.size = N8 at *;have c0:=k8.out.cell 0;have c1:=k8.out.cell 1;have c2:=k8.out.cell 2;have c3:=k8.out.cell 3;have l1:=k8.out.lt;have d0:=k33.out.cell 0;have d1:=k33.out.cell 1;have l3:=k33.out.lt;simp at c0 c1 c2 c3 d0 d1;have hc:=Hd (hcall.out rfl W1 (hf'.out.stays (zo.of hb3.out)) (hv'.out.stays (zo.of hb3.out)) hb3.out);clear hcall;go_wp2_with fail;refine hc.out.mono ?_;rintro e w5 ⟨hres,hb5⟩;have hb6:=Hd (hb3.out.trans (hb5.mono hb3.out.size));have hle:=hb3.out.size;clear hc hb5 c0 c1 c2 c3 l1 d0 d1 l3 k8 k33 k31 hb2 hb3;rcases hres with ⟨rfl,rfl⟩ | ⟨rfl,v,ms,rfl,h1,h2⟩
  ·go_wp2
   go_ret2
   exact ⟨.inl ⟨rfl,rfl⟩,hb6.out⟩
  ·obtain ⟨vA,vc,rfl⟩:=h1.form_
   have h1':=Hd h1;have h2':=Hd h2;clear h1 h2;go_wp2
   go_ret2
   exact ⟨.inr ⟨rfl,_,ms,rfl,zaw.base ze h1'.out hle,h2'.out⟩,hb6.out⟩
end
section
open Go.RowKit Go.Maps
theorem zoA : (Tryz.prog.info? 50).map (fun i=>(i.zero,i.size,i.bytes)) = some (some (.agg #[.int .u8 0,.string ⟨#[]⟩]),2,24):=by kernel_rfl
abbrev zaD:=zaw 50 2 zak zdp
theorem zbB (x : zu) : ∀ v ∈ zak x,v.oneCell' = true:=by
 intro v hv;simp only [zak,List.mem_cons,List.not_mem_nil,or_false] at hv;rcases hv with rfl | rfl <;> rfl
theorem zaD.parts {base : Nat} {w : World} {v : Value} {ps : List zu} (h : zaD base w v ps) : zav w v ps:=
 (h.sl (fun _=>rfl)).plain fun b off i _ _ hi hc=>by
  obtain ⟨-,-,hc⟩:=hc;rw [zD _ _ _ hi];have c0:=hc hi 0 (by omega);have c1:=hc hi 1 (by omega);exact ⟨c0,c1⟩
def zpF (B G : Nat) (c : Int) (ps : List zu) (w : World) : Prop:=∃ v,Blk w G 39 #[.int .u8 c,v] /\ zaD B w v ps
theorem zpF.keep {B G : Nat} {c : Int} {ps : List zu} {w w' : World} (h : zpF B G c ps w) (hk : zc (fun b=>b = G \/ B <= b) w w') : zpF B G c ps w':=by
 obtain ⟨v,h1,h2⟩:=h;refine ⟨v,?_,zaw.keep ze h2 ⟨hk.size,fun b hb hB=>hk.block b hb (.inr hB)⟩⟩;unfold Blk at h1 ⊢;rw [hk.block G (Blk.lt h1) (.inl rfl)];exact h1
theorem zpF.up {B G : Nat} {c : Int} {ps : List zu} {w w' : World} (h : zpF B G c ps w) (hb : Below w.heap.size w w') : zpF B G c ps w':=h.keep (zc.of_below hb _)
theorem zpF.add {Bd B G : Nat} {c : Int} {ps : List zu} {w0 wr wA w1 : World} {v : Value} {g n cap : Nat} {p : zu} (hbi : Below Bd w0 wr) (hbk : Blk wr G 39 #[.int .u8 c,v]) (ho : zaD B wr v ps) (hA : Below wr.heap.size wr wA) (hG : G < B) (hBd : Bd <= G)
  (hown1 : w1.ownsRow B 50 2 (.slice (some ⟨g,0,none⟩) n cap) n (ps.flatMap zak ++ zak p)) (hn : n = ps.length + 1) (hgr : wA.grownBy w1 v.ownBlock) (hat : v.ownBlock = some g \/ wA.heap.size <= g) :
  Below Bd w0 (w1.setCell ⟨G,1,none⟩ (.slice (some ⟨g,0,none⟩) n cap)) /\ zpF B G c (ps ++ [p]) (w1.setCell ⟨G,1,none⟩ (.slice (some ⟨g,0,none⟩) n cap)):=by
 have h:=zol ze (i:=1) hbi hbk ho hA hG hBd trivial hown1 hn hgr hat;exact ⟨h.1,_,h.2.1,h.2.2⟩
theorem zuU (n : Int) (w : World) (h0 : -9223372036854775808 <= n) (h1 : n <= 9223372036854775807) (ht : zbz w) :
  Calls Tryz.prog 19 #[.int .i64 n] w fun e w'=>e = .returned (.string ⟨(Lib.itoa n).toArray⟩) /\ Below w.heap.size w w':=
 (Sh.strconv_Itoa n h0 h1 w ht).mono fun e w' ⟨he,k,os,hw⟩=>⟨he,by rw [hw]; exact Lib.below_grow _ _ (lQ _) k os⟩
theorem zxP (n : Int) (w : World) (h0 : -9223372036854775808 <= n) (h1 : n <= 9223372036854775807) (ht : zbz w) : Calls Tryz.prog 29 #[.int .i64 n] w fun e w'=>e = .returned (.string (zao n)) /\ Below w.heap.size w w':=by
 have hd : Hid (zao n = if n = 0 then ⟨#[]⟩ else ⟨(Lib.itoa n).toArray⟩):=Hd rfl;have hi:=Hd (zuU n w h0 h1 ht);by_cases hz : n = 0
 ·have e0 : (n == 0) = true:=by simp [hz]
  rw [if_pos hz] at hd;clear hz hi;go_enter Tryz.func29,Tryz.ntmps29;go_wp2;go_ret;exact ⟨by rw [hd.out]; rfl,Below.refl _ _⟩
 ·have e0 : (n == 0) = false:=by simpa using hz
  rw [if_neg hz] at hd;clear hz;go_enter Tryz.func29,Tryz.ntmps29;go_wp2_with fail;refine hi.out.mono ?_;rintro e w' ⟨rfl,hb⟩;clear hi;go_wp2;go_ret;exact ⟨by rw [hd.out]; rfl,hb⟩
end
end Go.Proofs.YtggimnndflkjkaaGreatDoor
