import Derived.Test.YtggimnndflkjkaaGreatDoorR01
import Derived.Test.YtggimnndflkjkaaGreatDoorR38
set_option linter.all false
set_option maxRecDepth 100000
set_option maxHeartbeats 0
namespace Go.Proofs.YtggimnndflkjkaaGreatDoor
section
open Go.RowKit Go.Maps
variable {w0 w : World} {D : zeA} {C T S n : Nat} {MT MS : List (Int × Value)}
theorem ziz (h : zbd w0 D C T S n w MT MS) (ok : zkr D) (hfit : ∀ t ∈ D.f.towns,zam t.id) (hlen : D.f.towns.length <= 1000) (hn : n < 800000) (hX : ∀ b,w.heap.size <= b -> ¬ D.X b) :
  Calls Tryz.prog 67 #[.pointer (some ⟨C,0,none⟩)] w fun e w'=>∃ v,e = .returned v /\ zdM w0 D C T S (n + D.f.towns.length) w v (zch D D.f.towns) w':=by
 have hX':=Hd hX;have hfit':=Hd hfit;have hlen':=Hd hlen;have ht:=h.hf.t;obtain ⟨A,c,e1,h1,h2,h3⟩:=ht;have h3':=Hd h3;have c0 : w.cell? ⟨C,0,none⟩ = some (.slice A D.f.towns.length c):=(h.blk.cell 0).trans (congrArg some e1);have h0w : w0.heap.size <= w.heap.size:=h.below.size;have lC:=h.blk.lt;have hs:=Hd (zdM.start h);have hw0:=Hd h.below;unfold maxLen at h2;clear hX hfit hlen h3 e1 h;obtain ⟨i0,hi0,hz0,hz1,hz2⟩:=info_parts zxL;go_enter Tryz.func67,Tryz.ntmps67;go_wp2;clear c0 lC
 go_loopw [3,15] (fun v iv wr=>∃ k : Nat,k <= D.f.towns.length /\ iv = .int .i64 k /\ Hid (zdM w0 D C T S (n + k) w v (zch D (D.f.towns.take k)) wr)) (fun _ iv _=>D.f.towns.length - (intOf iv).toNat)
 case atStart=>exact ⟨0,by omega,rfl,hs⟩
 case round=>
  obtain ⟨k,hk,rfl,hr⟩:=hrel;rename World=>wr;have n0 : (0 : Int) <= (k : Int):=by omega
  obtain ⟨MT',MS',hc1⟩:=hr.out.cmp;have hc1':=Hd hc1;obtain ⟨vA,vc,rfl⟩:=hr.out.own.form_;clear hc1;by_cases hlt : k < D.f.towns.length
  ·have n1 : (k : Int) < (D.f.towns.length : Int):=by omega
   obtain ⟨b,off,rfl,hb,hi⟩:=h3'.out (by omega);obtain ⟨cv,hti⟩:=hi k hlt;have hmem : Hid (D.f.towns.getD k zJ.zero ∈ D.f.towns):=Hd (by rw [zD _ _ _ hlt]; exact List.getElem_mem hlt);have htk : Hid (zch D (D.f.towns.take (k + 1)) = zch D (D.f.towns.take k) ++ (zjA D (D.f.towns.getD k zJ.zero)).toList):=Hd (zhj (zjA D) D.f.towns zJ.zero k hlt);clear hi;generalize D.f.towns.getD k zJ.zero = q at *;have hbl:=hc1'.out.below;obtain ⟨cA,cn,cc,rfl⟩:=hti.tx.form;have htx:=Hd hti.tx;have a0:=hti.c0;have a1:=hti.c1;have a2:=hti.c2;have a3:=hti.c3;have a4:=hti.c4;rw [<- hbl.cell (p:=⟨b,off + k * 5,none⟩) hb] at a0;rw [<- hbl.cell (p:=⟨b,off + k * 5 + 1,none⟩) hb] at a1;rw [<- hbl.cell (p:=⟨b,off + k * 5 + 2,none⟩) hb] at a2;rw [<- hbl.cell (p:=⟨b,off + k * 5 + 3,none⟩) hb] at a3;rw [<- hbl.cell (p:=⟨b,off + k * 5 + 4,none⟩) hb] at a4;have hbr : b < wr.heap.size:=Nat.lt_of_lt_of_le hb hbl.size;have hft:=Hd (hfit'.out q hmem.out)
   have hpq : Hid (zjA D q = match zax D.f D.cty D.fd q.id with
    | none=>none
    | some ns=>if (zbL (zab D.fd 10) q.codes).2 then some ⟨q.id,0,zO ns + (zbL (zab D.fd 10) q.codes).1⟩ else none):=Hd rfl
   generalize zjA D q = pq at *;obtain ⟨t0,t1,t2,t3,t4⟩:=q;simp only at a0 a1 a2 a3 a4 hft hpq htx;have hba:=Hd ((Below.refl wr.heap.size wr).alloc (lQ _) (.cells #[.int .i64 t0,.int .u8 t1,.string t2,.string t3,.slice cA cn cc] 79));have k5:=Hd (Blk.new wr 79 #[.int .i64 t0,.int .u8 t1,.string t2,.string t3,.slice cA cn cc]);clear hti hbl hmem;go_upto_region 5 with fail;clear a0 a1 a2 a3 a4 hbr;generalize wr.alloc (.cells #[.int .i64 t0,.int .u8 t1,.string t2,.string t3,.slice cA cn cc] 79) = W5 at *;have hsz5 : wr.heap.size <= W5.heap.size:=hba.out.size;have hT5 : T < wr.heap.size /\ S < wr.heap.size:=⟨hc1'.out.mt.lt,hc1'.out.ms.lt⟩;have htw:=Hd (zmo (hc1'.out.up hba.out) (ok.with_ _) t0 hft.out (by have:=hlen'.out; omega) (hr.out.newer hsz5 hX'.out));have r0:=k5.out.cell 0;have l5:=k5.out.lt;simp at r0;go_wp2_with fail;refine htw.out.mono ?_;rintro e w7 ⟨v,MT7,rfl,hv,h7,hk7⟩;obtain ⟨uA,um,uc,ub,rfl,hub⟩:=hv.form;have hub':=Hd hub;have hv7:=Hd (hv.keep (zc.of_below ((Below.refl w7.heap.size w7).alloc (lQ _) (.cells #[.slice uA um uc,.bool ub] 130)) _) fun _ _ x=>x);have h77:=Hd (h7.up ((Below.refl w7.heap.size w7).alloc (lQ _) (.cells #[.slice uA um uc,.bool ub] 130)));have k57:=Hd ((k5.out.keep hk7 ⟨by omega,by omega⟩).alloc (.cells #[.slice uA um uc,.bool ub] 130));have k6:=Hd (Blk.new w7 130 #[.slice uA um uc,.bool ub]);have hk77 : Hid (zc (zaB T S) wr (w7.alloc (.cells #[.slice uA um uc,.bool ub] 130))):=Hd (((zc.of_below hba.out (zaB T S)).trans hk7).trans (zc.of_below ((Below.refl w7.heap.size w7).alloc (lQ _) _) _));have hsz7 : Hid (W5.heap.size <= w7.heap.size):=Hd hk7.size;clear hv hub h7 hk7 htw r0 l5 k5 hba;go_upto_region 6 with fail;generalize w7.alloc (.cells #[.slice uA um uc,.bool ub] 130) = w8 at *;have hN6r : wr.heap.size <= w7.heap.size:=Nat.le_trans hsz5 hsz7.out;generalize w7.heap.size = N6 at *;have r1:=k6.out.cell 1;have l6:=k6.out.lt;simp at r1;have hk1 : k + 1 <= D.f.towns.length:=hlt
   cases ub with
   | false=>
    have hno : Hid (pq = none):=Hd (by
     have h0:=hub'.out;rw [hpq.out]
     cases hq : zax D.f D.cty D.fd t0 with
     | none=>rfl
     | some ns=>
      exfalso;rw [show zax (D.with_ fun b=>D.X b \/ some b = Value.ownBlock (.slice vA (zch D (List.take k D.f.towns)).length vc)).f (D.with_ fun b=>D.X b \/ some b = Value.ownBlock (.slice vA (zch D (List.take k D.f.towns)).length vc)).cty (D.with_ fun b=>D.X b \/ some b = Value.ownBlock (.slice vA (zch D (List.take k D.f.towns)).length vc)).fd t0 = zax D.f D.cty D.fd t0 from rfl,hq] at h0
      cases h0)
    have hnext:=Hd (hr.out.skip h77.out hk77.out);clear hpq hv7 h77 hub';go_wp2;go_roundw
    case rel=>exact ⟨k + 1,by omega,by go_num,Hd (by rw [htk.out,hno.out]; simpa [Nat.add_assoc] using hnext.out)⟩
    case measure=>simp [intOf]; omega
   | true=>
    have hyes : Hid (∃ ns,zax D.f D.cty D.fd t0 = some ns /\ zbw (fun b=>some b ≠ Value.ownBlock (.slice vA (zch D (List.take k D.f.towns)).length vc)) w8 (.slice uA um uc) ns):=Hd (by
     have h0 : true = (zax D.f D.cty D.fd t0).isSome:=hub'.out
     cases hq : zax D.f D.cty D.fd t0 with
     | none=>rw [hq] at h0; cases h0
     | some ns=>
      have h1 : ziE _ w8 (.agg #[.slice uA um uc,.bool true]) (zax D.f D.cty D.fd t0):=hv7.out;rw [hq] at h1
      exact ⟨ns,rfl,h1.notes_at.weaken fun _ _ x e=>x.2 (.inr e)⟩)
    obtain ⟨ns,hy1,hy2⟩:=hyes.out;have hch:=Hd (zdV hy1);rw [hy1] at hpq;have hy2':=Hd hy2;have hcost:=Hd (zpT h77.out (.slice cA cn cc) t4 (htx.out.stays (zo.of h77.out.below)));have hcx : Hid (zbL (zab (D.with_ fun b=>D.X b \/ some b = Value.ownBlock (.slice vA (zch D (List.take k D.f.towns)).length vc)).fd 10) t4 = zbL (zab D.fd 10) t4):=Hd rfl;rw [hcx.out] at hcost;have hcc:=Hd (zgt (zab D.fd 10) t4);generalize zbL (zab D.fd 10) t4 = cp at *;obtain ⟨co,okc⟩:=cp;unfold zzj at hcost;simp only at hcost hpq hcc;clear hcx hv7 hub' hy1 hy2 hyes;have d4:=k57.out.cell 4;have l5:=k57.out.lt;simp at d4;go_wp2_with fail;refine hcost.out.mono ?_;rintro e w9 ⟨rfl,hb9⟩;have h79:=Hd (h77.out.up hb9);have k59:=Hd (k57.out.below hb9 k57.out.lt);have k69:=Hd (k6.out.below hb9 k6.out.lt);have hk79:=Hd (hk77.out.trans (zc.of_below hb9 _));have hn9:=Hd (hy2'.out.keep (zc.of_below hb9 _) fun _ _ x=>x);clear hcost hb9 d4 l5 h77 k57 k6 hk77 hy2' r1 l6
    cases okc with
    | false=>
     have hno : Hid (pq = none):=Hd (by rw [hpq.out]; rfl);have hnext:=Hd (hr.out.skip h79.out hk79.out);clear hpq hn9 h79;go_wp2;go_roundw
     case rel=>exact ⟨k + 1,by omega,by go_num,Hd (by rw [htk.out,hno.out]; simpa [Nat.add_assoc] using hnext.out)⟩
     case measure=>simp [intOf]; omega
    | true=>
     have hp1 : Hid (pq = some ⟨t0,0,zO ns + co⟩):=Hd (by rw [hpq.out]; rfl);have htt:=zbD ns hch.out.1;have hlen2:=hch.out.2;have hct:=Hd (fun W (h : zc (fun b=>some b ≠ Value.ownBlock (.slice vA (zch D (List.take k D.f.towns)).length vc)) w9 W)=>zko (.slice uA um uc) ns W (hn9.out.keep h fun _ _ x=>x).notes hch.out.1 (by omega));have ht0 : 0 <= zO ns:=htt.1;have ht1 : zO ns <= 2000000:=by omega
     have hc0:=hcc.out.1;have hc1x:=hcc.out.2;clear htt hlen2 hpq hch hcc;generalize zO ns = tot at *;have hw : IntKind.i64.wrap (tot + co) = tot + co:=by simp [IntKind.wrap,IntKind.bits,IntKind.signed]; omega
     clear ht0 ht1 hc0 hc1x;go_upto_region 9 with fail;obtain ⟨pl,hpl⟩ : ∃ pl,pl = zch D (List.take k D.f.towns):=⟨_,rfl⟩;have hpl':=Hd hpl;rw [<- hpl] at hr htk h79 hct ⊢;clear hpl;have hpll : Hid (pl.length <= 1000):=Hd (by rw [hpl'.out]; exact Nat.le_trans (List.length_filterMap_le ..) (by rw [List.length_take]; have:=hlen'.out; omega));have hown:=Hd (hr.out.skip h79.out hk79.out).own;have hne5 : some wr.heap.size ≠ Value.ownBlock (.slice vA pl.length vc):=fun e=>by have:=(hr.out.own.block_lt e.symm).2; omega
     have hne6 : some N6 ≠ Value.ownBlock (.slice vA pl.length vc):=fun e=>by have:=(hr.out.own.block_lt e.symm).2; omega
     refine zcw (C:=fun w1=>zc (fun b=>some b ≠ Value.ownBlock (.slice vA pl.length vc)) w9 w1) [true,true,true,true,true,true,true,true,true,false,false] [9,10] (by kernel_rfl) (by kernel_rfl) (by kernel_rfl) (fun _ h=>zc.of_below h _) ?A9 ?q9 ?t9
     case q9=>
      intro S1 hS1 hSC hne;have y0:=fun (u : zaP S1)=>(k59.out.keep (hSC u.wld u.mem) hne5).cell 0;have y6:=fun (u : zaP S1)=>(k69.out.keep (hSC u.wld u.mem) hne6).cell 0;simp at y0 y6;have hcu:=Hd fun (u : zaP S1)=>hct.out u.wld (hSC u.wld u.mem);simp only [zbM,if_true,if_false,Bool.false_eq_true]
      repeat (go_big_quiet_step ((go_at_call 61; exact zdd hS1 (hcu.out _))))
      refine wpQuiet_nil ?_;rfl
     clear hct k59 k69 hn9;refine zaR [9] (by kernel_rfl) fun i hi wa hba=>?_;obtain rfl:=mS.1 hi;refine ⟨_,rfl,zy (ops:=#[]) (K:=fun a' w'=>(∀ w2,Below w'.heap.size w' w2 -> zc (fun b=>some b ≠ Value.ownBlock (.slice vA pl.length vc)) w9 w2) /\ mkZ Tryz.prog _ _ (fun w1=>zc (fun b=>some b ≠ Value.ownBlock (.slice vA pl.length vc)) w9 w1) _ 1 [10] a' w') rfl fun Q' hQ=>?_⟩;simp only [gX,gQ,gZ];have kx:=Hd (Blk.new wa 69 #[.int .i64 t0,.int .i64 0,.int .i64 (tot + co)]);have hbx:=Hd (zq hba (.cells #[.int .i64 t0,.int .i64 0,.int .i64 (tot + co)] 69));have hba':=Hd hba;clear hba;go_wp2;refine hQ _ _ rfl ⟨fun w4 h4=>zc.of_below (za hbx.out h4) _,?_⟩;clear hQ;generalize wa.alloc (.cells #[.int .i64 t0,.int .i64 0,.int .i64 (tot + co)] 69) = wx at *;generalize wa.heap.size = NX at *;refine zaR [10] (by kernel_rfl) fun i hi wb hbb=>?_;obtain rfl:=mS.1 hi;have hbw:=Hd (za hbx.out hbb);have kb:=Hd (kx.out.below hbb kx.out.lt);have ho:=Hd ((zaw.keep ze hown.out (zc.of_below hbw.out _)).1);have hcb:=Hd (h79.out.up hbw.out);have hkb:=Hd (hk79.out.trans (zc.of_below hbw.out (zaB T S)));have sd1 : pl.length + 1 <= maxLen:=by have:=hpll.out; unfold maxLen; omega
     have sd2 : (pl.length + 1) * 24 <= 140737488355328:=by have:=hpll.out; omega
     have sd3 : w.heap.size <= wb.heap.size:=by have:=hr.out.keep.size; have:=hkb.out.size; omega
     have hA:=Hd (fun (ops : Array Oper) (rest : List Oper) (o : Oper) (a : Act) (Q : Exit -> Act -> World -> Prop) hgd ho' hs hx h=>wpList_append_own_at (P:=Tryz.prog) (ops:=ops) (rest:=rest) (o:=o) (a:=a) (Q:=Q) wb hgd (.tmp 34) (.tmp 43) 64 ho' w.heap.size 69 i0 (.agg #[.int .i64 0,.int .i64 0,.int .i64 0]) 3 24 Tryz.underlying64 hi0 hz0 hz1 hz2 rfl (by decide) (.slice vA pl.length vc) pl.length (pl.flatMap zgF) hs ho.out ⟨NX,0,none⟩ 1 1 [.int .i64 t0,.int .i64 0,.int .i64 (tot + co)] hx rfl (znJ fun j u hu=>by
      rw [kb.out.cell]
      match j,hu with
      | 0,hu=>simpa using hu
      | 1,hu=>simpa using hu
      | 2,hu=>simpa using hu
      | j + 3,hu=>simp at hu) (ziW ⟨t0,0,tot + co⟩) sd1 sd2 sd3 h)
     have hadd:=Hd (fun (wC : World) (v' : Value) h1 h2 h3=>zdM.add (p:=⟨t0,0,tot + co⟩) (wC:=wC) (v':=v') hr.out hcb.out hkb.out h1 h2 h3);have hbg : Hid (∀ (wC : World),wb.grownBy wC (Value.ownBlock (.slice vA pl.length vc)) -> zc (fun b=>some b ≠ Value.ownBlock (.slice vA pl.length vc)) w9 wC):=Hd fun wC hg=>(zc.of_below hbw.out _).trans (zc.of_grown hg fun _ hb=>hb);clear sd1 sd2 sd3 hcb hkb ho kb kx hbx hbb hba' hbw;refine ⟨_,rfl,zy (ops:=#[]) (K:=fun a' w'=>(∀ w2,Below w'.heap.size w' w2 -> zc (fun b=>some b ≠ Value.ownBlock (.slice vA pl.length vc)) w9 w2) /\ mkZ Tryz.prog _ _ (fun w1=>zc (fun b=>some b ≠ Value.ownBlock (.slice vA pl.length vc)) w9 w1) _ 0 [] a' w') rfl fun Q' hQ=>?_⟩;simp only [gX,gQ,gZ];go_wp2_with (at_builtin; refine hA.out _ _ _ _ _ rfl rfl rfl rfl ?_; intro v' wC hownC hgrC hnilC hatC);have hx1:=Hd (hadd.out wC v' hownC hgrC hatC);have hx2:=Hd (hbg.out wC hgrC);clear hA hadd hbg hownC hgrC hnilC hatC;refine hQ _ _ rfl ⟨fun w4 h4=>hx2.out.trans (zc.of_below h4 _),?_⟩;clear hQ;refine zii rfl [] [] _ _ rfl (fun j hj=>by cases hj) rfl ?_;intro we hbe;obtain ⟨MTe,MSe,hce⟩:=hx1.out.cmp;have hx3:=Hd (hx1.out.skip (hce.up hbe) (zc.of_below hbe _));clear hx1 hx2 hce hbe;go_wp2;go_roundw
     case rel=>exact ⟨k + 1,by omega,by go_num,Hd (by rw [htk.out,hp1.out]; exact hx3.out)⟩
     case measure=>simp [intOf]; omega
  ·obtain rfl : k = D.f.towns.length:=by omega
   go_wp2;go_ret;exact ⟨_,rfl,by have:=hr.out; rw [List.take_length] at this; simpa [List.take_length] using this⟩
end
section
open Go.RowKit Go.Maps
theorem zmy {B : Nat} {w : World} {v : Value} {pl : List zby} (h : zco B w v pl) (hl : pl.length < 1000000) :
  Calls Tryz.prog 68 #[v] w fun e w'=>e = .returned (.tuple #[]) /\ ∃ pl',pl'.Perm pl /\ zco B w' v pl' /\ w.grownBy w' v.ownBlock:=by
 have hs:=Hd (znI h hl);obtain ⟨A,c,rfl⟩:=h.form_;clear h;go_enter Tryz.func68,Tryz.ntmps68;go_wp2_with fail;refine hs.out.mono ?_;rintro e w1 ⟨rfl,pl',h1,h2,h3⟩;have hx:=Hd (show ∃ pl',pl'.Perm pl /\ zco B w1 (.slice A pl.length c) pl' /\ w.grownBy w1 (Value.ownBlock (.slice A pl.length c)) from ⟨pl',h1,h2,h3⟩);clear h1 h2 h3 hs;go_wp2
 go_end0
 exact ⟨rfl,hx.out⟩
def zhN (ok : Bool) (l : List zby) (B : Nat) (e : Ending) (w' : World) : Prop:=
 (ok = false /\ e = .returned (.tuple #[.slice none 0 0,.int .i64 2])) \/ (ok = true /\ ∃ v pl,e = .returned (.tuple #[v,.int .i64 0]) /\ zco B w' v pl /\ pl.Perm l)
def zjN (f : zw) (c : Int) (ps : List zu) : zeA:=zmn (.slice none 0 0) (.slice none 0 0) (.slice none 0 0) (.slice none 0 0) f c ps fun _=>False
def zfE (f : zw) (c : Int) (ps : List zu) : List zby:=zch (zjN f c ps) f.towns
theorem zom (vt vs vr vp : Value) (f : zw) (c : Int) (pv : Value) (ps : List zu) (w : World) (hf : zaf w vt vs vr vp f) (hfine : zks f) (hv : zav w pv ps) (hps : zH ps) (hg : zrv f) (hlen : f.towns.length <= 1000) :
  Calls Tryz.prog 38 #[.agg #[vt,vs,vr,vp],.agg #[.int .u8 c,pv]] w fun e w'=>zhN (zR c ps) (zfE f c ps) w.heap.size e w' /\ Below w.heap.size w w':=by
 have hf':=Hd hf;have hv':=Hd hv;have hps':=Hd hps;have hg':=Hd hg;have hlen':=Hd hlen;have hfine':=Hd hfine;obtain ⟨⟨tA,tn,tc,rfl⟩,⟨sA,sn,sc,rfl⟩,⟨rA,rn,rc,rfl⟩,⟨pA,pn,pc,rfl⟩⟩:=hf.forms;obtain ⟨qA,qc,rfl,-⟩:=hv;clear hf hps hg hlen hfine;have hb1 : Hid (Below w.heap.size w ((w.alloc (.cells #[.slice tA tn tc,.slice sA sn sc,.slice rA rn rc,.slice pA pn pc] 89)).alloc (.cells #[.int .u8 c,.slice qA ps.length qc] 39))):=Hd (((Below.refl _ _).alloc (lQ _) _).alloc (by simp) _);have k2:=Hd ((Blk.new w 89 #[.slice tA tn tc,.slice sA sn sc,.slice rA rn rc,.slice pA pn pc]).alloc (.cells #[.int .u8 c,.slice qA ps.length qc] 39));have k3:=Hd (Blk.new_at (w.alloc (.cells #[.slice tA tn tc,.slice sA sn sc,.slice rA rn rc,.slice pA pn pc] 89)) 39 #[.int .u8 c,.slice qA ps.length qc] (w.heap.size + 1) (by simp));have hright:=Hd (zeo c (.slice qA ps.length qc) ps _ (hv'.out.stays (zo.of hb1.out)) hps'.out.fine);generalize htp : zfE f c ps = tp at *;have htp':=Hd htp;clear htp;generalize hrp : zR c ps = rp at *;have hrp':=Hd hrp;clear hrp;go_enter Tryz.func38,Tryz.ntmps38;go_upto_region 1 with fail;generalize (w.alloc (.cells #[.slice tA tn tc,.slice sA sn sc,.slice rA rn rc,.slice pA pn pc] 89)).alloc (.cells #[.int .u8 c,.slice qA ps.length qc] 39) = W at *;generalize hK : w.heap.size + 1 = K3 at *;have c30:=k3.out.cell 0;have c31:=k3.out.cell 1;have l3:=k3.out.lt;simp at c30 c31;go_wp2_with fail;refine hright.out.mono ?_;rintro e w1 ⟨rfl,hb⟩;have hb2:=Hd (hb1.out.trans (hb.mono hb1.out.size));have k21:=Hd (k2.out.below hb k2.out.lt);have k31:=Hd (k3.out.below hb k3.out.lt);clear hright hb1 k2 k3 hb c30 c31 l3
 cases rp with
 | false=>
  go_wp2
  go_ret2
  exact ⟨.inl ⟨rfl,rfl⟩,hb2.out⟩
 | true=>
  have c0:=k21.out.cell 0;have c1:=k21.out.cell 1;have c2:=k21.out.cell 2;have c3:=k21.out.cell 3;have l1:=k21.out.lt;have c30:=k31.out.cell 0;have c31:=k31.out.cell 1;have l3:=k31.out.lt;simp at c0 c1 c2 c3 c30 c31;have hnew:=Hd (zdJ (.slice tA tn tc) (.slice sA sn sc) (.slice rA rn rc) (.slice pA pn pc) f c (.slice qA ps.length qc) ps w1 (hf'.out.stays (zo.of hb2.out)) (hv'.out.stays (zo.of hb2.out)) (zfX hrp'.out) (fun p hp=>(hps'.out p hp).1) (fun _=>False));go_wp2_with fail;refine hnew.out.mono ?_;rintro e w2 ⟨C,T,S,rfl,hn⟩;have hcmp:=Hd (hn.cmp (hf'.out.stays (zo.of hb2.out)));have hpl:=Hd (ziz hcmp.out (zuv hg'.out hps'.out) (fun t ht=>(hfine'.out.t t ht).1) hlen'.out (by omega) fun _ _ h=>h);clear hnew hn k21 k31 c0 c1 c2 c3 l1 c30 c31 l3;go_wp2_with fail;refine hpl.out.mono ?_;rintro e w3 ⟨v,rfl,hfd⟩;have hfd':=Hd hfd;have hlp : Hid ((zch (zmn (.slice tA tn tc) (.slice sA sn sc) (.slice rA rn rc) (.slice pA pn pc) f c ps fun _=>False) f.towns).length < 1000000):=Hd (Nat.lt_of_le_of_lt (List.length_filterMap_le ..) (by have:=hlen'.out; omega));have hso:=Hd (zmy hfd.own hlp.out);obtain ⟨vA,vc,rfl⟩:=hfd.own.form_;clear hpl hfd;go_wp2_with fail;refine hso.out.mono ?_;rintro e w4 ⟨rfl,pl,hperm,hown,hgr⟩
  have hfin : Hid (zco w.heap.size w4 (.slice vA (zch (zmn (.slice tA tn tc) (.slice sA sn sc) (.slice rA rn rc) (.slice pA pn pc) f c ps fun _=>False) f.towns).length vc) pl /\ pl.Perm tp /\ Below w.heap.size w w4):=Hd (by
   obtain ⟨MT,MS,hc⟩:=hfd'.out.cmp;have h1:=hb2.out.size;have h2:=hfd'.out.h0;have h3:=hc.below.size
   refine ⟨zaw.base ze hown (by omega),?_,((hb2.out.trans (hc.below.mono h1)).grown hgr (by omega) fun g hg=>by
    have:=(hfd'.out.own.block_lt hg).1
    omega)⟩
   rw [<- htp'.out]
   exact hperm)
  clear hso hperm hown hgr hfd';go_wp2
  go_ret2
  exact ⟨.inr ⟨rfl,_,pl,rfl,hfin.out.1,hfin.out.2.1⟩,hfin.out.2.2⟩
end
section
open Go.RowKit Go.Maps
def zfv (pl : List zby) : List (Int × Int):=(pl.map fun p=>(p.town,p.cost)).reverse
def zfh (D : zeA) (M : List (Int × Int)) (s : zz) : Option zby:=
 match zbR s.town M with
 | none=>none
 | some cost=>match zZ D.f D.fd D.tx s.id with
  | none=>none
  | some ns=>some ⟨s.town,s.id,cost + zO ns⟩
def zfi (f : zw) (c : Int) (ps : List zu) : List zby:=if (zab (zv ps) 7).size = 0 then f.streets.filterMap (zfh (zjN f c ps) (zfv (zfE f c ps))) else []
theorem zqL {D : zeA} {l : List zJ} (hf : ∀ t ∈ l,zam t.id) : ∀ p ∈ zch D l,zam p.town /\ 0 <= p.cost /\ p.cost <= 3000000:=by
 intro p hp;obtain ⟨t,ht,he⟩:=List.mem_filterMap.1 hp;unfold zjA at he
 cases hq : zax D.f D.cty D.fd t.id with
 | none=>rw [hq] at he; cases he
 | some ns=>
  rw [hq] at he;simp only at he
  split at he
  ·cases he
   have h1:=zdV hq;have h2:=zbD ns h1.1;have h3:=zgt (zab D.fd 10) t.codes;have h4:=h1.2;exact ⟨hf t ht,by simp only; omega,by simp only; omega⟩
  ·cases he
theorem zpW (pl : List zby) (k : Nat) (h : k < pl.length) : zfv (pl.take (k + 1)) = ((pl.getD k ⟨0,0,0⟩).town,(pl.getD k ⟨0,0,0⟩).cost) :: zfv (pl.take k):=by
 unfold zfv;rw [zaO pl ⟨0,0,0⟩ k h,List.map_append,List.reverse_append];rfl
theorem zod {pl : List zby} (h : ∀ p ∈ pl,zam p.town /\ 0 <= p.cost /\ p.cost <= 3000000) {a x : Int} (hx : zbR a (zfv pl) = some x) : 0 <= x /\ x <= 3000000:=by
 have:=zkb hx;unfold zfv at this;obtain ⟨p,hp,he⟩:=List.mem_map.1 (List.mem_reverse.1 this);cases he
 exact (h p hp).2
structure zzd (w1 : World) (D : zeA) (C T S Mb n B : Nat) (v : Value) (pl : List zby) (k : Nat) (w : World) : Prop where
 own : zco B w v pl
 cmp : ∃ MT MS,zbd w1 (D.with_ fun b=>b = Mb \/ some b = v.ownBlock) C T S n w MT MS
 map : zbc Tryz.prog 3 zY zY w Mb k (zfv (pl.take k))
 hM : w1.heap.size <= Mb /\ C < Mb /\ T < Mb /\ S < Mb /\ Mb < B
theorem zzd.next {w1 w wA wC : World} {D : zeA} {C T S Mb n B k : Nat} {v : Value} {pl : List zby} (h : zzd w1 D C T S Mb n B v pl k w) (hk : k < pl.length) (hb : Below w.heap.size w wA) (hm : zbc Tryz.prog 3 zY zY wC Mb (k + 1) (((pl.getD k ⟨0,0,0⟩).town,(pl.getD k ⟨0,0,0⟩).cost) :: zfv (pl.take k)))
  (hg : wA.grownBy wC (some Mb)) : zzd w1 D C T S Mb n B v pl (k + 1) wC:=by
 obtain ⟨MT,MS,hc⟩:=h.cmp
 refine ⟨zaw.keep ze h.own ((zc.of_below hb _).trans (zc.of_grown hg fun b hb e=>by injection e with e; have:=h.hM; omega)),⟨MT,MS,(hc.up hb).grown hg fun g hg=>by
  injection hg with hg;subst hg
  exact ⟨.inl rfl,h.hM.1,by have:=h.hM; omega,by have:=h.hM; omega,by have:=h.hM; omega⟩⟩,by rw [zpW pl k hk]; exact hm,h.hM⟩
structure zmU (w1 : World) (D : zeA) (C T S Mb n nM : Nat) (M : List (Int × Int)) (wB : World) (v : Value) (pl : List zby) (w : World) : Prop where
 fnd : zdM w1 (D.with_ fun b=>b = Mb) C T S n wB v pl w
 map : zbc Tryz.prog 3 zY zY w Mb nM M
 hM : T ≠ Mb /\ S ≠ Mb /\ Mb < wB.heap.size
theorem zmU.skip {w1 wB w w' : World} {D : zeA} {C T S Mb n n' nM : Nat} {M : List (Int × Int)} {v : Value} {pl : List zby} {MT MS : List (Int × Value)} (h : zmU w1 D C T S Mb n nM M wB v pl w) (hcmp : zbd w1 ((D.with_ fun b=>b = Mb).with_ fun b=>b = Mb \/ some b = v.ownBlock) C T S n' w' MT MS) (hkeep : zc (zaB T S) w w') : zmU w1 D C T S Mb n' nM M wB v pl w':=
 ⟨h.fnd.skip hcmp hkeep,h.map.same (hkeep.block Mb h.map.lt ⟨h.hM.1.symm,h.hM.2.1.symm⟩),h.hM⟩
theorem zmU.add {w1 wB w wA wC : World} {D : zeA} {C T S Mb n n' nM : Nat} {M : List (Int × Int)} {v v' : Value} {pl : List zby} {p : zby} {MT MS : List (Int × Value)} (h : zmU w1 D C T S Mb n nM M wB v pl w) (hcmp : zbd w1 ((D.with_ fun b=>b = Mb).with_ fun b=>b = Mb \/ some b = v.ownBlock) C T S n' wA MT MS) (hkeep : zc (zaB T S) w wA)
  (hown : wC.ownsRow wB.heap.size 69 3 v' (pl.length + 1) (pl.flatMap zgF ++ zgF p)) (hg : wA.grownBy wC v.ownBlock) (hat : v'.ownBlock = v.ownBlock \/ v'.ownBlock = some wA.heap.size) : zmU w1 D C T S Mb n' nM M wB v' (pl ++ [p]) wC:=
 ⟨h.fnd.add hcmp hkeep hown hg hat,(h.map.same (hkeep.block Mb h.map.lt ⟨h.hM.1.symm,h.hM.2.1.symm⟩)).kept hg fun e=>by
  have:=(h.fnd.own.block_lt e.symm).1;have:=h.hM.2.2
  omega,h.hM⟩
end
end Go.Proofs.YtggimnndflkjkaaGreatDoor
