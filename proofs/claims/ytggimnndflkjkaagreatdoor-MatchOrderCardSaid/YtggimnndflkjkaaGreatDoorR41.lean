import Derived.Test.YtggimnndflkjkaaGreatDoorR01
import Derived.Test.YtggimnndflkjkaaGreatDoorR27
import Derived.Test.YtggimnndflkjkaaGreatDoorR37
import Derived.Test.YtggimnndflkjkaaGreatDoorR38
import Derived.Test.YtggimnndflkjkaaGreatDoorR40
import Derived.Great.Walk
set_option linter.all false
set_option maxRecDepth 100000
set_option maxHeartbeats 0
namespace Go.Proofs.YtggimnndflkjkaaGreatDoor
section
open Go.RowKit Go.Maps
theorem zrQ (m k : Nat) (hm : m < 65536) : (bits BinOp.and IntKind.u16 ((m : Int) / 2 ^ k) 1 == 0) = !m.testBit k:=by
 have h1 : ((m : Int) / 2 ^ k) = ((m / 2 ^ k : Nat) : Int):=by simp
 have h2 : m / 2 ^ k < 65536:=Nat.lt_of_le_of_lt (Nat.div_le_self _ _) hm;rw [h1,show (1 : Int) = ((1 : Nat) : Int) from rfl,zhw _ _ h2 (by omega),Nat.and_one_is_mod,Nat.testBit_eq_decide_div_mod_eq];have h3:=Nat.mod_two_eq_zero_or_one (m / 2 ^ k);rcases h3 with h | h <;> rw [h] <;> rfl
def zbV (m : Nat) (ps : List zu) : List zu:=ps.filter fun p=>!m.testBit p.kind.toNat
theorem zqg {α : Type} (f : α -> Bool) (l : List α) (d : α) (k : Nat) (h : k < l.length) : (l.take (k + 1)).filter f = (l.take k).filter f ++ if f (l.getD k d) then [l.getD k d] else []:=by
 rw [List.take_succ_eq_append_getElem h,List.filter_append,zD _ _ _ h,List.filter_cons,List.filter_nil]
theorem ztP (c : Int) (pv : Value) (ps : List zu) (m : Nat) (w : World) (hv : zav w pv ps) (hk : ∀ p ∈ ps,∃ k : Nat,p.kind = k /\ k <= 10) (hl : ps.length <= 1000) (hm : m < 65536) :
  Calls Tryz.prog 15 #[.agg #[.int .u8 c,pv],.int .u16 (m : Int)] w fun e w'=>∃ v,e = .returned (.agg #[.int .u8 c,v]) /\ zaD w.heap.size w' v (zbV m ps) /\ Below w.heap.size w w':=by
 obtain ⟨A,cap,rfl,h1,h2,h3⟩:=hv;have h3':=Hd h3;have hk':=Hd hk;have hm':=Hd hm;have hl':=Hd hl;obtain ⟨i0,hi0,hz0,hz1,hz2⟩:=info_parts zoA;have kG:=Hd (Blk.new w 39 #[.int .u8 c,.slice A ps.length cap]);unfold maxLen at h2;clear h3 hk hl;go_enter Tryz.func15,Tryz.ntmps15;have hb0:=Hd ((((Below.refl w.heap.size w).alloc (lQ _) (.cells #[.int .u8 c,.slice A ps.length cap] 39)).alloc (by simp) (.cells #[.int .u8 0,.slice none 0 0] 39)).alloc (by simp; omega) (.cells #[.int .u8 c,.slice none 0 0] 39));have kG2:=Hd ((kG.out.alloc (.cells #[.int .u8 0,.slice none 0 0] 39)).alloc (.cells #[.int .u8 c,.slice none 0 0] 39));have kR:=Hd ((Blk.new_at (w.alloc (.cells #[.int .u8 c,.slice A ps.length cap] 39)) 39 #[.int .u8 0,.slice none 0 0] (w.heap.size + 1) (by simp)).alloc (.cells #[.int .u8 c,.slice none 0 0] 39));have kO:=Hd (Blk.new_at ((w.alloc (.cells #[.int .u8 c,.slice A ps.length cap] 39)).alloc (.cells #[.int .u8 0,.slice none 0 0] 39)) 39 #[.int .u8 c,.slice none 0 0] (w.heap.size + 1 + 1) (by simp));go_upto_region 2 with fail;generalize ((w.alloc (.cells #[.int .u8 c,.slice A ps.length cap] 39)).alloc (.cells #[.int .u8 0,.slice none 0 0] 39)).alloc (.cells #[.int .u8 c,.slice none 0 0] 39) = W at *;have hR0 : w.heap.size < w.heap.size + 1:=by omega
 have hO0 : w.heap.size + 1 < w.heap.size + 1 + 1:=by omega
 generalize w.heap.size + 1 + 1 = O at *;generalize w.heap.size + 1 = R at *;have r1:=kG2.out.cell 1;have l1:=kG2.out.lt;simp at r1;go_wp2;clear r1 l1
 go_loopw [14] (fun iv wr=>∃ k : Nat,k <= ps.length /\ iv = .int .i64 k /\ Hid (Below w.heap.size w wr) /\ Hid (Blk wr R 39 #[.int .u8 0,.slice none 0 0]) /\ Hid (zpF (O + 1) O c (zbV m (ps.take k)) wr)) (fun iv _=>ps.length - (intOf iv).toNat)
 case atStart=>exact ⟨0,by omega,rfl,hb0,kR,Hd ⟨_,kO.out,zaw.nil_⟩⟩
 case round=>
  obtain ⟨k,hk,rfl,hbr,hkR,hop⟩:=hrel;rename World=>wr;have n0 : (0 : Int) <= (k : Int):=by omega
  obtain ⟨v,hbk,hown⟩:=hop.out;obtain ⟨vA,vc,rfl⟩:=hown.form_;have hbk':=Hd hbk;have hown':=Hd hown;clear hown hbk;by_cases hlt : k < ps.length
  ·have n1 : (k : Int) < (ps.length : Int):=by omega
   obtain ⟨b,off,rfl,hb,hi⟩:=h3'.out (by omega);have a0:=(hi k hlt).1;have a1:=(hi k hlt).2;rw [<- hbr.out.cell (p:=⟨b,off + k * 2,none⟩) hb] at a0;rw [<- hbr.out.cell (p:=⟨b,off + k * 2 + 1,none⟩) hb] at a1;have hst : Hid (zbV m (ps.take (k + 1)) = zbV m (ps.take k) ++ if (!m.testBit (ps.getD k zu.zero).kind.toNat) = true then [ps.getD k zu.zero] else []):=Hd (zqg (fun p : zu=>!m.testBit p.kind.toNat) ps zu.zero k hlt);obtain ⟨kd,hkd,hkd2⟩ : ∃ kd : Nat,(ps.getD k zu.zero).kind = kd /\ kd <= 10:=hk'.out _ (by rw [zD _ _ _ hlt]; exact List.getElem_mem hlt);have hlen : Hid ((zbV m (ps.take k)).length <= 1000):=Hd (Nat.le_trans (List.length_filter_le ..) (by rw [List.length_take]; have:=hl'.out; omega));clear hi;generalize ps.getD k zu.zero = q at *;obtain ⟨qk,qt⟩:=q;simp only at a0 a1 hst hkd;subst hkd;have hs0:=hbr.out.size;have hmb:=zrQ m kd hm'.out;have hx1:=hbk'.out.cell 1;have lO:=hbk'.out.lt;have fO:=hbk'.out.frozen 1;simp at hx1;generalize zbV m (ps.take k) = pl at *;have hbx:=Hd ((Below.refl wr.heap.size wr).alloc (lQ _) (.cells #[.int .u8 kd,.string qt] 50))
   cases hbit : m.testBit kd with
   | true=>
    rw [hbit] at hmb;go_wp2;go_roundw
    case rel=>exact ⟨k + 1,by omega,by go_num,Hd (hbr.out.trans (hbx.out.mono hs0)),Hd (hkR.out.alloc _),Hd (by
     rw [hst.out,show (zu.mk (kd : Int) qt).kind.toNat = kd from rfl,hbit]
     simpa using zpF.up (B:=O + 1) (G:=O) (c:=c) (ps:=pl) ⟨_,hbk'.out,hown'.out⟩ hbx.out)⟩
    case measure=>simp [intOf]; omega
   | false=>
    rw [hbit] at hmb;go_upto_region 6 with fail;have hbk2:=Hd (hbk'.out.alloc (.cells #[.int .u8 kd,.string qt] 50));have hown2':=Hd (zaw.keep ze hown'.out (zc.of_below hbx.out _));have hbr2:=Hd (hbr.out.trans (hbx.out.mono hs0));have hkR2:=Hd (hkR.out.alloc (.cells #[.int .u8 kd,.string qt] 50));have kN:=Hd (Blk.new wr 50 #[.int .u8 kd,.string qt]);have hsz:=hbx.out.size;generalize wr.alloc (.cells #[.int .u8 kd,.string qt] 50) = w2 at *;generalize wr.heap.size = NB at *;clear hx1 lO fO a0 a1;have hx1:=hbk2.out.cell 1;have lO:=hbk2.out.lt;have fO:=hbk2.out.frozen 1;simp at hx1;have n1':=kN.out.cell 0;have n2':=kN.out.cell 1;have lN:=kN.out.lt;simp at n1' n2';have hwn:=Hd ((Below.refl w2.heap.size w2).alloc (lQ _) (.cells #[.int .u8 kd,.string qt] 50));have hoA:=Hd (zaw.keep ze hown2'.out (zc.of_below hwn.out _));have hneq : some O ≠ Value.ownBlock (.slice vA pl.length vc):=fun e=>by have:=(hown2'.out.block_lt e.symm).1; omega
    have hneR : some R ≠ Value.ownBlock (.slice vA pl.length vc):=fun e=>by have:=(hown2'.out.block_lt e.symm).1; omega
    have sd1 : pl.length + 1 <= maxLen:=by have:=hlen.out; unfold maxLen; omega
    have sd4 : (pl.length + 1) * 24 <= 140737488355328:=by have:=hlen.out; omega
    have sd3 : O + 1 <= w2.heap.size:=lO;go_wp2_with (at_builtin; refine wpList_append_lies _ rfl (.tmp 25) (.tmp 27) 37 rfl (O + 1) 50 i0 (.agg #[.int .u8 0,.string ⟨#[]⟩]) 2 24 Tryz.underlying37 hi0 hz0 hz1 hz2 rfl (by decide) (.slice vA pl.length vc) pl.length (pl.flatMap zak) rfl (by exact hoA.out.1) ⟨w2.heap.size,0,none⟩ 1 1 [.int .u8 kd,.string qt] rfl rfl (by exact World.news_of_block (cs:=#[.int .u8 kd,.string qt]) (heap_alloc_new _ _)) (by exact zbB ⟨kd,qt⟩) Nat.one_pos sd1 sd4 (by simp; omega) (w2.heap.size + 1) (by simp) ?_; intro g cap1 w3 hown3 hgr3 hat3 hlt3; have hbk1:=Blk.grown (by exact hbk2.out.alloc _) hgr3 hneq; have y1:=hbk1.cell 1; have yf:=hbk1.frozen 1; simp only [List.getElem?_toArray,List.getElem?_cons_succ,List.getElem?_cons_zero] at y1; clear hbk1);have hR:=zpF.add (p:=⟨kd,qt⟩) hbr2.out hbk2.out hown2'.out hwn.out (Nat.lt_succ_self O) (by omega) hown3 rfl hgr3 (hat3.imp_right (fun e=>by simp [e]));have hkR3:=(Blk.grown (by exact hkR2.out.alloc _) hgr3 hneR).far (p:=⟨O,1,none⟩) (by simp; omega) (.slice (some ⟨g,0,none⟩) (pl.length + 1) cap1);clear hown3 hgr3 hat3 hlt3;go_roundw
    case rel=>exact ⟨k + 1,by omega,by go_num,Hd hR.1,Hd hkR3,Hd (by
     rw [hst.out,show (zu.mk (kd : Int) qt).kind.toNat = kd from rfl,hbit]
     exact hR.2)⟩
    case measure=>simp [intOf]; omega
  ·obtain rfl : k = ps.length:=by omega
   rw [List.take_length] at hop hbk' hown';have q0:=hbk'.out.cell 0;have q1:=hbk'.out.cell 1;have lO:=hbk'.out.lt;have lR:=hkR.out.lt;have t0:=hkR.out.cell 0;have t1:=hkR.out.cell 1;simp at q0 q1 t0 t1;have fR0:=hkR.out.frozen 0;have fR1:=hkR.out.frozen 1;go_wp2;refine bodyPost_ret (results_cell_row (P:=Tryz.prog) Tryz.results15 _ _ _ _ _ _ _ rfl ((hkR.out.set_ 0 (.int .u8 c)).set_ 1 (.slice vA (zbV m ps).length vc)) Tryz.underlying39 rfl (by kernel_rfl)) rfl ?_
   have hown2 : zaD (O + 1) ((wr.setCell ⟨R,0,none⟩ (.int .u8 c)).setCell ⟨R,1,none⟩ (.slice vA (zbV m ps).length vc)) (.slice vA (zbV m ps).length vc) (zbV m ps):=
    zaw.keep ze (zaw.keep ze hown'.out (zc.set_ _ _ _ (by simp; omega))) (zc.set_ _ _ _ (by simp; omega))
   have hbe:=(hbr.out.setCell (p:=⟨R,0,none⟩) (by simp; omega) (.int .u8 c)).setCell (p:=⟨R,1,none⟩) (by simp; omega) (.slice vA (zbV m ps).length vc);refine ⟨_,rfl,?_,hbe⟩;exact zaw.base ze hown2 (by omega)
end
section
open Go.RowKit Go.Maps
structure zpG (f : zw) (p : zh) : Prop where
 tc : (zas f p.town).1.codes.length <= 1000000
 so : (zn f p.street).1.others.length <= 1000000
 n0 : 0 <= zW p
 n1 : zW p <= 1000000
 num : zam p.number
 box : zam p.box
theorem zgE (v : Nat -> ByteArray) (k : Nat) : zG v (k + 1) = zG v k ++ (if (v (k + 1)).size = 0 then [] else [⟨(k + 1 : Nat),v (k + 1)⟩]):=rfl
theorem zcX (v : Nat -> ByteArray) : ∀ k,(zG v k).length <= k
 | 0=>lQ _
 | k + 1=>by
  have:=zcX v k;rw [zgE,List.length_append]
  split
  ·simp; omega
  ·simp; omega
theorem zrV (vt vs vr vp : Value) (f : zw) (p : zh) (w : World) (hf : zaf w vt vs vr vp f) (ho : zpG f p) (htab : zbz w) :
  Calls Tryz.prog 12 #[.agg #[vt,vs,vr,vp],.agg (zaz p)] w fun e w'=>∃ v,e = .returned (.agg #[.int .u8 (zcT f p),v]) /\ zaD w.heap.size w' v (zm (zX f p)) /\ Below w.heap.size w w':=by
 have hf':=Hd hf;have htab':=Hd htab;obtain ⟨⟨tA,tn,tc,rfl⟩,⟨sA,sn,sc,rfl⟩,⟨rA,rn,rc,rfl⟩,⟨pA,pn,pc,rfl⟩⟩:=hf.forms;have htw:=Hd (fun W h=>zwf (.slice tA tn tc) (.slice sA sn sc) (.slice rA rn rc) (.slice pA pn pc) f p.town W h ho.tc);have hsw:=Hd (fun W h=>zpp (.slice tA tn tc) (.slice sA sn sc) (.slice rA rn rc) (.slice pA pn pc) f p.street W h ho.so);have hhw:=Hd (fun W h=>zuL (.slice tA tn tc) (.slice sA sn sc) (.slice rA rn rc) (.slice pA pn pc) f p W h ho.n0 ho.n1);have hnm:=Hd (fun W h=>zxP p.number W ho.num.1 ho.num.2 h);have hbx:=Hd (fun W h=>zxP p.box W ho.box.1 ho.box.2 h);have hL : Hid (∀ k,zX f p (k + 1) = [zao p.number,p.letter,(zn f p.street).1.pre,(zn f p.street).1.name,(zn f p.street).1.suffix,p.unit,zao p.box,(zas f p.town).1.name,(zas f p.town).1.region,(zdD f p.town p.street (zW p)).1.code].getD k ⟨#[]⟩):=Hd fun k=>rfl;have hC : Hid (zcT f p = (zas f p.town).1.country):=Hd rfl;clear hf ho htab;generalize zX f p = ov at *;generalize zcT f p = oc at *;obtain ⟨pid,town,street,number,letter,unit,box,seq⟩:=p;simp only [zaz] at *;generalize zdD f town street (zW ⟨pid,town,street,number,letter,unit,box,seq⟩) = GG at *;generalize zas f town = TT at *;generalize zn f street = SS at *;generalize zao number = dn at *;generalize zao box = db at *;obtain ⟨⟨t0,t1,t2,t3,t4⟩,tb⟩:=TT;obtain ⟨⟨s0,s1,s2,s3,s4,s5⟩,sb⟩:=SS;obtain ⟨⟨g0,g1,g2,g3,g4,g5,g6⟩,gb⟩:=GG;simp only [zcB,zcj,zaV] at *;have hC':=hC.out;subst hC';clear hC;obtain ⟨i0,hi0,hz0,hz1,hz2⟩:=info_parts zoA;have kF:=Hd (((Blk.new w 31 #[.slice tA tn tc,.slice sA sn sc,.slice rA rn rc,.slice pA pn pc]).alloc (.cells #[.int .i64 pid,.int .i64 town,.int .i64 street,.int .i64 number,.string letter,.string unit,.int .i64 box,.int .i64 seq] 33)).alloc (.cells #[.int .u8 0,.slice none 0 0] 39));have kP:=Hd ((Blk.new_at (w.alloc (.cells #[.slice tA tn tc,.slice sA sn sc,.slice rA rn rc,.slice pA pn pc] 31)) 33 #[.int .i64 pid,.int .i64 town,.int .i64 street,.int .i64 number,.string letter,.string unit,.int .i64 box,.int .i64 seq] (w.heap.size + 1) (by simp)).alloc (.cells #[.int .u8 0,.slice none 0 0] 39));have kR:=Hd (Blk.new_at ((w.alloc (.cells #[.slice tA tn tc,.slice sA sn sc,.slice rA rn rc,.slice pA pn pc] 31)).alloc (.cells #[.int .i64 pid,.int .i64 town,.int .i64 street,.int .i64 number,.string letter,.string unit,.int .i64 box,.int .i64 seq] 33)) 39 #[.int .u8 0,.slice none 0 0] (w.heap.size + 1 + 1) (by simp));have hb0:=Hd ((((Below.refl w.heap.size w).alloc (lQ _) (.cells #[.slice tA tn tc,.slice sA sn sc,.slice rA rn rc,.slice pA pn pc] 31)).alloc (by simp) (.cells #[.int .i64 pid,.int .i64 town,.int .i64 street,.int .i64 number,.string letter,.string unit,.int .i64 box,.int .i64 seq] 33)).alloc (by simp; omega) (.cells #[.int .u8 0,.slice none 0 0] 39));go_enter Tryz.func12,Tryz.ntmps12;go_upto_region 1 with fail;generalize ((w.alloc (.cells #[.slice tA tn tc,.slice sA sn sc,.slice rA rn rc,.slice pA pn pc] 31)).alloc (.cells #[.int .i64 pid,.int .i64 town,.int .i64 street,.int .i64 number,.string letter,.string unit,.int .i64 box,.int .i64 seq] 33)).alloc (.cells #[.int .u8 0,.slice none 0 0] 39) = W at *;have hP0 : w.heap.size < w.heap.size + 1:=by omega
 have hR0 : w.heap.size + 1 < w.heap.size + 1 + 1:=by omega
 generalize w.heap.size + 1 + 1 = R at *;generalize w.heap.size + 1 = P1 at *;have q0:=kF.out.cell 0;have q1:=kF.out.cell 1;have q2:=kF.out.cell 2;have q3:=kF.out.cell 3;have p1:=kP.out.cell 1;have lF:=kF.out.lt;have lP:=kP.out.lt;simp at q0 q1 q2 q3 p1;go_wp2_with fail;refine (htw.out W (hf'.out.stays (zo.of hb0.out))).mono ?_;rintro e w1 ⟨cv,rfl,htx,hb1⟩;obtain ⟨cA,cn,cc,rfl⟩:=htx.form;clear htw htx;have hb1':=Hd (hb0.out.trans ((hb1.alloc hb1.size (.cells #[.int .i64 t0,.int .u8 oc,.string t2,.string t3,.slice cA cn cc] 79)).mono hb0.out.size));have hbW1:=Hd (hb1.alloc hb1.size (.cells #[.int .i64 t0,.int .u8 oc,.string t2,.string t3,.slice cA cn cc] 79));have kT:=Hd (Blk.new w1 79 #[.int .i64 t0,.int .u8 oc,.string t2,.string t3,.slice cA cn cc]);have hW1 : W.heap.size <= w1.heap.size:=hb1.size;clear hb1 q0 q1 q2 q3 p1;go_upto_region 2 with fail;generalize w1.alloc (.cells #[.int .i64 t0,.int .u8 oc,.string t2,.string t3,.slice cA cn cc] 79) = W1 at *;generalize w1.heap.size = NT at *;have kF1:=Hd (kF.out.below hbW1.out lF);have kP1:=Hd (kP.out.below hbW1.out lP);have kR1:=Hd (kR.out.below hbW1.out kR.out.lt);have lR:=kR.out.lt;clear kF kP kR hbW1 hb0;have lF1:=kF1.out.lt;have lP1:=kP1.out.lt;have q0:=kF1.out.cell 0;have q1:=kF1.out.cell 1;have q2:=kF1.out.cell 2;have q3:=kF1.out.cell 3;have p2:=kP1.out.cell 2;simp at q0 q1 q2 q3 p2;go_wp2_with fail;refine (hsw.out W1 (hf'.out.stays (zo.of hb1'.out))).mono ?_;rintro e w2 ⟨dv,rfl,htx,hb2⟩;obtain ⟨dA,dn',dc,rfl⟩:=htx.form;clear hsw htx;have hb2':=Hd (hb1'.out.trans ((hb2.alloc hb2.size (.cells #[.int .i64 s0,.int .i64 s1,.string s2,.string s3,.string s4,.slice dA dn' dc] 83)).mono hb1'.out.size));have hbW2:=Hd (hb2.alloc hb2.size (.cells #[.int .i64 s0,.int .i64 s1,.string s2,.string s3,.string s4,.slice dA dn' dc] 83));have kS:=Hd (Blk.new w2 83 #[.int .i64 s0,.int .i64 s1,.string s2,.string s3,.string s4,.slice dA dn' dc]);have hW2 : W1.heap.size <= w2.heap.size:=hb2.size;clear hb2 q0 q1 q2 q3 p2;go_upto_region 3 with fail;generalize w2.alloc (.cells #[.int .i64 s0,.int .i64 s1,.string s2,.string s3,.string s4,.slice dA dn' dc] 83) = W2 at *;generalize w2.heap.size = NS at *;have kF2:=Hd (kF1.out.below hbW2.out lF1);have kP2:=Hd (kP1.out.below hbW2.out lP1);have kR2:=Hd (kR1.out.below hbW2.out kR1.out.lt);have kT2:=Hd (kT.out.below hbW2.out kT.out.lt);have lT:=kT.out.lt;clear kF1 kP1 kR1 kT hbW2 hb1' lF1 lP1 lF lP;have lF:=kF2.out.lt;have lP:=kP2.out.lt;have q0:=kF2.out.cell 0;have q1:=kF2.out.cell 1;have q2:=kF2.out.cell 2;have q3:=kF2.out.cell 3;have p0:=kP2.out.cell 0;have p1:=kP2.out.cell 1;have p2:=kP2.out.cell 2;have p3:=kP2.out.cell 3;have p4:=kP2.out.cell 4;have p5:=kP2.out.cell 5;have p6:=kP2.out.cell 6;have p7:=kP2.out.cell 7;simp at q0 q1 q2 q3 p0 p1 p2 p3 p4 p5 p6 p7;go_wp2_with fail;refine (hhw.out W2 (hf'.out.stays (zo.of hb2'.out))).mono ?_;rintro e w3 ⟨rfl,hb3⟩;clear hhw;have hb3':=Hd (hb2'.out.trans ((hb3.alloc hb3.size (.cells #[.int .i64 g0,.int .i64 g1,.int .i64 g2,.int .i64 g3,.int .u8 g4,.string g5,.int .i64 g6] 72)).mono hb2'.out.size));have hbW3:=Hd (hb3.alloc hb3.size (.cells #[.int .i64 g0,.int .i64 g1,.int .i64 g2,.int .i64 g3,.int .u8 g4,.string g5,.int .i64 g6] 72));have kG:=Hd (Blk.new w3 72 #[.int .i64 g0,.int .i64 g1,.int .i64 g2,.int .i64 g3,.int .u8 g4,.string g5,.int .i64 g6]);have hW3 : W2.heap.size <= w3.heap.size:=hb3.size;clear hb3 q0 q1 q2 q3 p0 p1 p2 p3 p4 p5 p6 p7;go_upto_region 5 with fail;generalize w3.alloc (.cells #[.int .i64 g0,.int .i64 g1,.int .i64 g2,.int .i64 g3,.int .u8 g4,.string g5,.int .i64 g6] 72) = W3 at *;generalize w3.heap.size = NG at *;have kP3:=Hd ((kP2.out.below hbW3.out lP).alloc (.cells #[.int .u8 oc,.slice none 0 0] 39));have kR3:=Hd ((kR2.out.below hbW3.out kR2.out.lt).alloc (.cells #[.int .u8 oc,.slice none 0 0] 39))
 have kT0:=Hd (kT2.out.below hbW3.out kT2.out.lt);have kT3:=Hd (kT0.out.alloc (.cells #[.int .u8 oc,.slice none 0 0] 39));have kS3:=Hd ((kS.out.below hbW3.out kS.out.lt).alloc (.cells #[.int .u8 oc,.slice none 0 0] 39));have kG3:=Hd (kG.out.alloc (.cells #[.int .u8 oc,.slice none 0 0] 39));have kO:=Hd (Blk.new W3 39 #[.int .u8 oc,.slice none 0 0]);have hb4:=Hd (hb3'.out.alloc hb3'.out.size (.cells #[.int .u8 oc,.slice none 0 0] 39));have hRO : R < W3.heap.size:=(kR2.out.below hbW3.out kR2.out.lt).lt;have hwO : w.heap.size <= W3.heap.size:=hb3'.out.size;have x1:=kT0.out.cell 1;have lT0:=kT0.out.lt;simp at x1;clear kP2 kR2 kT2 kS kG hbW3 hb2' lF lP kF2;go_upto_region 6 with fail;clear x1 lT0 kT0;generalize W3.alloc (.cells #[.int .u8 oc,.slice none 0 0] 39) = W4 at *;generalize W3.heap.size = O at *;have htabW:=Hd (htab'.out.below hb4.out);refine zlM (C:=fun w1=>Below W4.heap.size W4 w1) [true,true,true,true,true,true,true,true,true,true,true,true,true,true,true,true,true,true,true,true,true,true,true,true,false,false,true] [24,25] (by kernel_rfl) (by kernel_rfl) (by kernel_rfl) (fun _ h=>h) ?A6 ?q6 ?t6
 case q6=>
  intro S1 hS1 hSC hne;have y3:=fun (u : zaP S1)=>(kP3.out.below (hSC u.wld u.mem) kP3.out.lt).cell 3;have y4:=fun (u : zaP S1)=>(kP3.out.below (hSC u.wld u.mem) kP3.out.lt).cell 4;have y5:=fun (u : zaP S1)=>(kP3.out.below (hSC u.wld u.mem) kP3.out.lt).cell 5;have y6:=fun (u : zaP S1)=>(kP3.out.below (hSC u.wld u.mem) kP3.out.lt).cell 6;have z2:=fun (u : zaP S1)=>(kS3.out.below (hSC u.wld u.mem) kS3.out.lt).cell 2;have z3:=fun (u : zaP S1)=>(kS3.out.below (hSC u.wld u.mem) kS3.out.lt).cell 3;have z4:=fun (u : zaP S1)=>(kS3.out.below (hSC u.wld u.mem) kS3.out.lt).cell 4;have x2:=fun (u : zaP S1)=>(kT3.out.below (hSC u.wld u.mem) kT3.out.lt).cell 2;have x3:=fun (u : zaP S1)=>(kT3.out.below (hSC u.wld u.mem) kT3.out.lt).cell 3;have v5:=fun (u : zaP S1)=>(kG3.out.below (hSC u.wld u.mem) kG3.out.lt).cell 5;simp at y3 y4 y5 y6 z2 z3 z4 x2 x3 v5;have hnu:=Hd fun (u : zaP S1)=>hnm.out u.wld (htabW.out.below (hSC u.wld u.mem));have hbu:=Hd fun (u : zaP S1)=>hbx.out u.wld (htabW.out.below (hSC u.wld u.mem));simp only [zbM,if_true,if_false,Bool.false_eq_true]
  repeat (go_big_quiet_step ((go_at_call 29; first | exact zdd hS1 (hnu.out _) | exact zdd hS1 (hbu.out _))))
  refine wpQuiet_nil ?_;rfl
 clear hnm hbx;refine zrS [24] (by kernel_rfl) fun i hi wa hba=>?_;obtain rfl:=mS.1 hi;refine ⟨_,rfl,rfl,zy (ops:=#[]) (K:=fun a' w'=>(∀ w2,Below w'.heap.size w' w2 -> Below W4.heap.size W4 w2) /\ mkE Tryz.prog _ _ (fun w1=>Below W4.heap.size W4 w1) _ 1 [25] a' w') rfl fun Q' hQ=>?_⟩;simp only [gX,gQ,gZ];refine Go.Great.wpList_buildSliceTo rfl 77 9 10 _ rfl wa.heap.size rfl (some 62) rfl Tryz.underlying77 #[.string dn,.string letter,.string s2,.string s3,.string s4,.string unit,.string db,.string t2,.string t3,.string g5] (by kernel_rfl) ?_;have hbx:=Hd (zq hba (.cells #[.string dn,.string letter,.string s2,.string s3,.string s4,.string unit,.string db,.string t2,.string t3,.string g5] 9));have kX : Hid (Blk (wa.alloc (.cells #[.string dn,.string letter,.string s2,.string s3,.string s4,.string unit,.string db,.string t2,.string t3,.string g5] 9)) wa.heap.size 9 ([dn,letter,s2,s3,s4,unit,db,t2,t3,g5].map Value.string).toArray):=Hd (Blk.new wa 9 _);have hl10 : Hid ([dn,letter,s2,s3,s4,unit,db,t2,t3,g5].length = 10):=Hd rfl;have hWX : W4.heap.size <= wa.heap.size:=hba.size;generalize [dn,letter,s2,s3,s4,unit,db,t2,t3,g5] = L at *;generalize wa.alloc (.cells #[.string dn,.string letter,.string s2,.string s3,.string s4,.string unit,.string db,.string t2,.string t3,.string g5] 9) = wx at *;generalize wa.heap.size = X at *;refine hQ _ _ rfl ⟨fun w4 h4=>za hbx.out h4,?_⟩;clear hQ hba;refine zrS [25] (by kernel_rfl) fun i hi wb hbb=>?_;obtain rfl:=mS.1 hi;refine ⟨_,rfl,rfl,zy (ops:=#[]) (K:=fun a' w'=>(∀ w2,Below w'.heap.size w' w2 -> Below W4.heap.size W4 w2) /\ mkE Tryz.prog _ _ (fun w1=>Below W4.heap.size W4 w1) _ 0 [] a' w') rfl fun Q' hQ=>?_⟩;simp only [gX,gQ,gZ];go_wp2;refine hQ _ _ rfl ⟨fun w4 h4=>za (za hbx.out hbb) h4,?_⟩;clear hQ;intro we hbe;have hbE:=Hd (za (za hbx.out hbb) hbe);have kXe:=Hd (kX.out.below (hbb.trans (hbe.mono hbb.size)) kX.out.lt);have kRe:=Hd (kR3.out.below hbE.out kR3.out.lt);have kOe:=Hd (kO.out.below hbE.out kO.out.lt);have hbw:=Hd (hb4.out.trans (hbE.out.mono hb4.out.size));have hOX : O < X:=Nat.lt_of_lt_of_le kO.out.lt hWX;clear hbE hbx hbb hbe kX kR3 kO hb4 kP3 kT3 kS3 kG3;go_wp2
 go_loopw [13,14,64] (fun _ _ iv wr=>∃ k : Nat,k <= 10 /\ iv = .int .i64 k /\ Hid (Below w.heap.size w wr) /\ Hid (Blk wr R 39 #[.int .u8 0,.slice none 0 0]) /\ Hid (Blk wr X 9 (L.map Value.string).toArray) /\ Hid (zpF (X + 1) O oc (zG ov k) wr)) (fun _ _ iv _=>10 - (intOf iv).toNat)
 case atStart=>exact ⟨0,by omega,rfl,hbw,kRe,kXe,Hd ⟨_,kOe.out,zaw.nil_⟩⟩
 case round=>
  obtain ⟨k,hk,rfl,hbr,hkR,hkX,hop⟩:=hrel;rename World=>wr;have n0 : (0 : Int) <= (k : Int):=by omega
  obtain ⟨v,hbk,hown⟩:=hop.out;obtain ⟨vA,vc,rfl⟩:=hown.form_;have hbk':=Hd hbk;have hown':=Hd hown;clear hown hbk;by_cases hlt : k < 10
  ·have n1 : (k : Int) < 10:=by omega
   have a0:=zlH hkX.out (k:=k) (by rw [hl10.out]; exact hlt);have lX:=hkX.out.lt;have hst : Hid (zG ov (k + 1) = zG ov k ++ (if (L.getD k ⟨#[]⟩).size = 0 then [] else [⟨(k + 1 : Nat),L.getD k ⟨#[]⟩⟩])):=Hd (by rw [zgE,hL.out]);have hlen : Hid ((zG ov k).length <= 10):=Hd (Nat.le_trans (zcX ov k) (by omega));generalize L.getD k ⟨#[]⟩ = q at *;generalize zG ov k = pl at *;by_cases hz : q.size = 0
   ·have e1 : q.toList.isEmpty = true:=by rw [zaL,hz]; rfl
    rw [if_pos hz,List.append_nil] at hst;clear hz;go_wp2;go_roundw
    case rel=>exact ⟨k + 1,by omega,by go_num,hbr,hkR,hkX,Hd (by rw [hst.out]; exact hop.out)⟩
    case measure=>simp [intOf]; omega
   ·have e1 : q.toList.isEmpty = false:=by rw [zaL]; simpa using hz
    rw [if_neg hz] at hst;clear hz;have hx1:=hbk'.out.cell 1;have lO:=hbk'.out.lt;have fO:=hbk'.out.frozen 1;simp at hx1;have hwn:=Hd ((Below.refl wr.heap.size wr).alloc (lQ _) (.cells #[.int .u8 ((k : Int) + 1),.string q] 50));have hoA:=Hd (zaw.keep ze hown'.out (zc.of_below hwn.out _));have hneq : some O ≠ Value.ownBlock (.slice vA pl.length vc):=fun e=>by have:=(hown'.out.block_lt e.symm).1; omega
    have hneR : some R ≠ Value.ownBlock (.slice vA pl.length vc):=fun e=>by have:=(hown'.out.block_lt e.symm).1; omega
    have hneX : some X ≠ Value.ownBlock (.slice vA pl.length vc):=fun e=>by have:=(hown'.out.block_lt e.symm).1; omega
    have sd1 : pl.length + 1 <= maxLen:=by have:=hlen.out; unfold maxLen; omega
    have sd4 : (pl.length + 1) * 24 <= 140737488355328:=by have:=hlen.out; omega
    have sd3 : X + 1 <= wr.heap.size:=lX;go_wp2_with (at_builtin; refine wpList_append_lies _ rfl (.tmp 72) (.tmp 78) 37 rfl (X + 1) 50 i0 (.agg #[.int .u8 0,.string ⟨#[]⟩]) 2 24 Tryz.underlying37 hi0 hz0 hz1 hz2 rfl (by decide) (.slice vA pl.length vc) pl.length (pl.flatMap zak) rfl (by exact hoA.out.1) ⟨wr.heap.size,0,none⟩ 1 1 [.int .u8 ((k : Int) + 1),.string q] rfl rfl (by exact World.news_of_block (cs:=#[.int .u8 ((k : Int) + 1),.string q]) (heap_alloc_new _ _)) (by exact zbB ⟨((k + 1 : Nat) : Int),q⟩) Nat.one_pos sd1 sd4 (by simp; omega) (wr.heap.size + 1) (by simp) ?_; intro g cap1 w3 hown3 hgr3 hat3 hlt3; have hbk1:=Blk.grown (by exact hbk'.out.alloc _) hgr3 hneq; have y1:=hbk1.cell 1; have yf:=hbk1.frozen 1; simp only [List.getElem?_toArray,List.getElem?_cons_succ,List.getElem?_cons_zero] at y1; clear hbk1);have hR:=zpF.add (p:=⟨((k + 1 : Nat) : Int),q⟩) hbr.out hbk'.out hown'.out hwn.out (show O < X + 1 by omega) (by omega) hown3 rfl hgr3 (hat3.imp_right (fun e=>by simp [e]));have hkR3:=(Blk.grown (by exact hkR.out.alloc _) hgr3 hneR).far (p:=⟨O,1,none⟩) (by simp; omega) (.slice (some ⟨g,0,none⟩) (pl.length + 1) cap1);have hkX3:=(Blk.grown (by exact hkX.out.alloc _) hgr3 hneX).far (p:=⟨O,1,none⟩) (by simp; omega) (.slice (some ⟨g,0,none⟩) (pl.length + 1) cap1);clear hown3 hgr3 hat3 hlt3;go_roundw
    case rel=>exact ⟨k + 1,by omega,by go_num,Hd hR.1,Hd hkR3,Hd hkX3,Hd (by rw [hst.out]; exact hR.2)⟩
    case measure=>simp [intOf]; omega
  ·obtain rfl : k = 10:=by omega
   have q0:=hbk'.out.cell 0;have q1:=hbk'.out.cell 1;have lO:=hbk'.out.lt;have lR:=hkR.out.lt;have t0':=hkR.out.cell 0;have oc':=hkR.out.cell 1;simp at q0 q1 t0' oc';have fR0:=hkR.out.frozen 0;have fR1:=hkR.out.frozen 1;go_wp2;refine bodyPost_ret (results_cell_row (P:=Tryz.prog) Tryz.results12 _ _ _ _ _ _ _ rfl ((hkR.out.set_ 0 (.int .u8 oc)).set_ 1 (.slice vA (zG ov 10).length vc)) Tryz.underlying39 rfl (by kernel_rfl)) rfl ?_
   have hown2 : zaD (X + 1) ((wr.setCell ⟨R,0,none⟩ (.int .u8 oc)).setCell ⟨R,1,none⟩ (.slice vA (zG ov 10).length vc)) (.slice vA (zG ov 10).length vc) (zG ov 10):=
    zaw.keep ze (zaw.keep ze hown'.out (zc.set_ _ _ _ (by simp; omega))) (zc.set_ _ _ _ (by simp; omega))
   have hbe:=(hbr.out.setCell (p:=⟨R,0,none⟩) (by simp; omega) (.int .u8 oc)).setCell (p:=⟨R,1,none⟩) (by simp; omega) (.slice vA (zG ov 10).length vc);refine ⟨_,rfl,?_,hbe⟩;exact zaw.base ze hown2 (by omega)
end
section
open Go.RowKit
theorem zsu {c d x1 x2 y1 : Nat} (h : zhT c d x1 x2 y1 = 0) : x2 = 0 /\ c = d:=by
 unfold zhT at h
 split at h <;> omega
theorem zms : ∀ (a b : List Nat),zde a b = 0 -> a = b
 | [],[],_=>rfl
 | [],_ :: _,h=>by simp [zde] at h
 | _ :: _,[],h=>by simp [zde] at h
 | c :: a,d :: b,h=>by
  rw [zgv] at h;unfold ziJ at h
  have h2 : zhT c d (zde a (d :: b)) (zde a b) (zde (c :: a) b) = 0:=by
   split at h <;> omega
  obtain ⟨e1,e2⟩:=zsu h2;rw [e2,zms a b e1]
theorem zxh {a b : ByteArray} (h : zbr a = zbr b) : a = b:=by
 unfold zbr at h
 have h2 : a.data.toList = b.data.toList:=by
  have hi : Function.Injective (fun x : UInt8=>x.toNat):=fun x y e=>UInt8.toNat_inj.1 e;exact (List.map_inj_right (fun x y e=>hi e)).1 h
 exact ByteArray.ext (Array.toList_inj.1 h2)
theorem zlS {a b : ByteArray} (h1 : (zaH a b).2 = true) (h2 : (zaH a b).1 = 0) : a = b:=by
 unfold zaH at h1 h2
 split at h1
 ·cases h1
 ·rename_i hs
  rw [if_neg hs] at h2;exact zxh (zms _ _ h2)
theorem zhm {a b : ByteArray} (h1 : (zaK a b).2 = true) (h2 : (zaK a b).1 = 0) : a = b:=by
 unfold zaK at h1 h2
 split at h1
 ·cases h1
 ·rename_i hs
  rw [if_neg hs] at h2
  split at h1
  ·rename_i hd
   rw [if_pos hd] at h2;exact zlS hd.1 (by simpa using h2)
  ·cases h1
theorem zlP {a b : ByteArray} (h1 : (zaq a b).2 = true) (h2 : (zaq a b).1 = 0) : a = b:=by
 unfold zaq at h1 h2
 split at h1
 ·rename_i hd
  rw [if_pos hd] at h2;cases h2
 ·cases h1
def zkw (r : zhO) : Prop:=(r.missing = -1 \/ 1 <= r.missing) /\ ∀ a b,(r.edits a b).2 = true -> (r.edits a b).1 = 0 -> a = b
theorem zlO {k fn cf : Nat} {mi : Int} {x : ByteArray} (h : mi = -1 \/ 1 <= mi) : zkw ⟨k,fn,mi,cf,x,noP⟩:=⟨h,fun _ _ h=>by cases h⟩
theorem znO (t : zJ) : ∀ r ∈ zaj t,zeY r /\ zkw r:=by
 intro r hr;refine ⟨zhq t r hr,?_⟩;simp only [zaj,List.mem_cons,List.not_mem_nil,or_false] at hr;rcases hr with rfl | rfl
 ·exact ⟨.inr (by simp),fun _ _=>zhm⟩
 ·exact zlO (.inr (by omega))
theorem zlC (t : zz) : ∀ r ∈ zF t,zeY r /\ zkw r:=by
 intro r hr;refine ⟨zec t r hr,?_⟩;simp only [zF,List.mem_cons,List.not_mem_nil,or_false] at hr;rcases hr with rfl | rfl | rfl
 ·exact zlO (.inr (by omega))
 ·exact ⟨.inl rfl,fun _ _=>zhm⟩
 ·exact zlO (.inr (by omega))
theorem zmb (f : zw) (p : zh) : ∀ r ∈ zQ f p,zeY r /\ zkw r:=by
 intro r hr;refine ⟨zgG f p r hr,?_⟩;simp only [zQ,List.mem_cons,List.not_mem_nil,or_false] at hr;rcases hr with rfl | rfl | rfl | rfl | rfl
 ·exact zlO (.inl rfl)
 ·exact zlO (.inl rfl)
 ·exact zlO (.inr (by omega))
 ·exact zlO (.inl rfl)
 ·exact ⟨.inr (by simp),fun _ _=>zlP⟩
theorem zqz {f : zw} {c : Int} {ps : List zu} {q : zh} {ns : List zP} (h : zaU f c ps q = some ns) :
  ∃ a b d,zax f c (zv ps) q.town = some a /\ zap f (zv ps) (zad (zab (zv ps) 3) (zab (zv ps) 4) (zab (zv ps) 5)) q.street = some b /\ zbu f (zv ps) q = some d /\ ns = zlu (a ++ b ++ d):=by
 have e : zaU f c ps q = (match zax f c (zv ps) q.town,zap f (zv ps) (zad (zab (zv ps) 3) (zab (zv ps) 4) (zab (zv ps) 5)) q.street,zbu f (zv ps) q with
  | some a,some b,some d=>some (zlu (a ++ b ++ d))
  | _,_,_=>none):=rfl
 rw [e] at h
 cases h1 : zax f c (zv ps) q.town with
 | none=>rw [h1] at h; cases h
 | some a=>
  cases h2 : zap f (zv ps) (zad (zab (zv ps) 3) (zab (zv ps) 4) (zab (zv ps) 5)) q.street with
  | none=>rw [h1,h2] at h; cases h
  | some b=>
   cases h3 : zbu f (zv ps) q with
   | none=>rw [h1,h2,h3] at h; cases h
   | some d=>
    rw [h1,h2,h3] at h;simp only [Option.some.injEq] at h;exact ⟨a,b,d,rfl,rfl,rfl,h.symm⟩
theorem zmf {f : zw} {fd : List ByteArray} {tx : ByteArray} {id : Int} {ns : List zP} (h : zap f fd tx id = some ns) : zkq ns:=by
 unfold zap at h
 split at h
 ·simp only [Option.some.injEq] at h
  subst h;exact fun _ h=>by cases h
 ·exact (zdL h).1
theorem zhe (a b : List zP) : zO (a ++ b) = zO a + zO b:=by
 unfold zO;rw [List.map_append,List.sum_append]
theorem zqA {f : zw} {c : Int} {ps : List zu} {q : zh} {ns : List zP} {a b d : List zP} (h1 : zax f c (zv ps) q.town = some a) (h2 : zap f (zv ps) (zad (zab (zv ps) 3) (zab (zv ps) 4) (zab (zv ps) 5)) q.street = some b) (h3 : zbu f (zv ps) q = some d) (e : ns = zlu (a ++ b ++ d)) :
  zO ns = zO a + zO b + zO d /\ 0 <= zO a /\ 0 <= zO b /\ 0 <= zO d:=by
 subst e;rw [zlJ (zja _),zhe,zhe];exact ⟨rfl,(zbD _ (zdV h1).1).1,(zbD _ (zmf h2)).1,(zbD _ (zfU h3).1).1⟩
theorem zfR {α : Type} {R : α -> α -> Prop} : ∀ {l : List α},l.Pairwise R -> ∀ {a b : α},a ∈ l -> b ∈ l -> ¬ R a b -> ¬ R b a -> a = b
 | [],_,_,_,h,_,_,_=>by cases h
 | x :: l,h,a,b,ha,hb,h1,h2=>by
  rw [List.pairwise_cons] at h;rcases List.mem_cons.1 ha with e1 | ha1
  ·rcases List.mem_cons.1 hb with e2 | hb1
   ·rw [e1,e2]
   ·exact absurd (e1 ▸ h.1 b hb1) h1
  ·rcases List.mem_cons.1 hb with e2 | hb1
   ·exact absurd (e2 ▸ h.1 a ha1) h2
   ·exact zfR h.2 ha1 hb1 h1 h2
theorem zhR (x : zi) (p : zh) (hp : p ∈ (zb x).points) : zaX (zb x) p.id = (p,true):=
 zfM _ hp (decide_eq_true rfl) fun b hb he=>by
  have e:=of_decide_eq_true he;exact zfR (zce x) hb hp (fun h=>h e) (fun h=>h e.symm)
end
end Go.Proofs.YtggimnndflkjkaaGreatDoor
