import Derived.Test.YtggimnndflkjkaaGreatDoorR01
import Derived.Test.YtggimnndflkjkaaGreatDoorR30
import Derived.Deep.DeepCutAuto
set_option linter.all false
set_option maxRecDepth 100000
set_option maxHeartbeats 0
namespace Go.Proofs.YtggimnndflkjkaaGreatDoor
section
open Go.RowKit Go.Maps
def zun : PSigma fun G : Prop=>zub G -> zum.1:=by
 apply PSigma.mk
 case snd=>
 intro hG;unfold zum;intro x w cA cc pA pc hs' i79 hi79 hz79 hy79 hw79 i83 hi83 hz83 hy83 hw83 i72 hi72 hz72 hy72 hw72 i33 hi33 hz33 hy33 hw33 i9 hi9 hz9 hy9 hw9 htw hst Qx W0 G R hR1 hG2 Kx W kS1 kR1 hb1 M hGM kN hbr0 wr u6 u7 u21 u22 u23 u24 u25 u26 u27 u28 u29 u30 u31 u32 u33 u34 u35 u36 u37 u38 u39 u40 u41 u42 u43 u44 u45 u46 u47 u48 u49 u50 u51 u52 u53 u54 u55 u56 u57 u58 u59 u60 u61 u62 u63 u64 u65 u66 u67 u68 u69 u70 u71 u72 u73 u74 u75 u76 u77 u78 u79 u80 u81 u82 u83 u84 u85 u86 u87 u88 u89 u90 u91 u92 u93 u94 u95 u96 vt vr tl hN5 hi xhlty1 hxx hN5' rows0 hbt hrows0' hr0l xQy2 xKy3 xay4 xKy5 xay6 wr2 u9 u10 u11 u97 u98 u99 u100 u101 u102 u103 u104 u105 u106 u107 u108 u109 u110 u111 u112 u113 u114 u115 u116 u117 u118 u119 u120 u121 u122 u123 u124 u125 u126 u127 u128 u129 u130 u131 u132 u133 u134 u135 u136 u137 u138 u139 u140 u141 u142 u143 u144 u145 u146 u147 u148 u149 u150 u151 u152 u153 u154 u155 u156 u157 u158 u159 u160 u161 u162 u163 u164 u165 u166 u167 u168 u169 u170 u171 u172 u173 u174 u175 u176 u177 u178 u179 u180 u181 u182 u183 u184 u185 u186 u187 u188 u189 u190 u191 u192 u193 u194 u195 u196 u197 u198 u199 u200 u201 u202 u203 u204 u205 u206 u207 u208 u209 u210 u211 vs vr2 sl rs hS7 hB k25 l25 c1 c2 hj n0 hsl hrs hlt n1;have hsl:=Hd hsl.out;have hrsF:=Hd hrs.out;go_wp2;clear hrs hr0l c1 c2 l25 k25 n0 n1 hj hS7
 go_loopw [12] (fun iv wr3=>∃ (i : Nat) (vq : Value) (pl : List zh),i <= zaN x /\ iv = .int .i64 i /\ Hid (BR (M + 1) G w W vt vs vr2 vq tl sl rs pl wr3 /\ pl = zba x i)) (fun iv _=>zaN x - (intOf iv).toNat)
 case atStart=>exact ⟨0,_,[],by omega,rfl,Hd ⟨hB.out,rfl⟩⟩
 case round=>
  obtain ⟨i,vq,pl,hi,rfl,hrel3⟩:=hrel;rename World=>wr3;have n0 : (0 : Int) <= (i : Int):=by omega
  have hP:=Hd hrel3.out.1;have hpl:=Hd hrel3.out.2;have k25:=Hd (kS1.out.keep hP.out.side ⟨by omega,by omega⟩);have c3:=k25.out.cell 3;have l25:=k25.out.lt;simp at c3;clear hrel3 hB;by_cases hlt : i < zaN x
  ·have hl1 : (i : Int) < (x.points.length : Int):=by unfold zaN at hlt; omega
   have hl2 : (i : Int) < 60:=by unfold zaN at hlt; omega
   have hi60 : i < 60:=by omega
   have hil : i < x.points.length:=by omega
   obtain ⟨A',c',e',-,-,h3⟩:=(hs'.out.stays (zo.of hP.out.below)).p;cases e'
   obtain ⟨pb,po,rfl,hpb,hpc⟩:=h3 (by omega);have a0 : wr3.cell? ⟨pb,po + i,none⟩ = some (.int .u16 ((x.points.getD i 0 : Nat) : Int)):=hpc i hil;have hn : x.points.getD i 0 < 65536:=by rw [zD _ _ _ hil]; exact hs'.out.pl _ (List.getElem_mem hil)
   have hptE : Hid (zba x (i + 1) = zgK (zba x i) (zcd x i (x.points.getD i 0))):=Hd rfl;generalize x.points.getD i 0 = n at *;clear hpc h3;go_upto_region 36 with fail;clear a0 c3 l25;have hqN:=zfs x n;have hqq' : Hid (n % zK x = n % zK x):=Hd rfl;obtain ⟨q,hqq⟩ : ∃ q,q = n % zK x:=⟨_,rfl⟩;have hqe:=Hd hqq;rw [<- hqq] at hqN;obtain ⟨tb,tc,evt,ltb,hMtb,hotb,d0,d1,d2,d3,A4,n4,a4,d4,htx⟩:=hP.out.town_at hxx.out hqN;subst evt;have e0 : (zbF x q).id = 10 + (q : Int):=rfl;rw [e0] at d0;clear e0 d1 d2 d3 d4 htx;have m0 : (0 : Int) <= (n : Int) % ((zK x : Nat) : Int):=by omega
   have m1 : (n : Int) % ((zK x : Nat) : Int) = (q : Int):=by omega
   have m2 : (q : Int) < ((zK x : Nat) : Int):=by omega
   have m3 : ((zK x : Nat) : Int) ≠ 0:=by omega
   clear hqq;refine zdv 24 _ 33 #[.int .i64 0,.int .i64 0,.int .i64 0,.int .i64 0,.string ⟨#[]⟩,.string ⟨#[]⟩,.int .i64 0,.int .i64 0] (by kernel_rfl) (by kernel_rfl) rfl ?run36 (by rfl) ?A36 ?hd36 ?tl36
   case run36=>intro ρ w; simp [go_sem,execOp]
   case hd36=>
    intro E hE hne;have yG:=fun (u : zhu wr3 E)=>(hP.out.blk.upsE u).cell 0;simp at yG;have y0:=fun (u : zhu wr3 E)=>u.cellAt d0 ltb;simp only [tS,tZ]
    repeat (go_big_quiet_step (fail))
    refine wpQuiet_nil ?_;rfl
   simp only [dS,dZ,Act.put,sX,sS,sZ];intro NP u hNP kNP;refine wpList_store_rowTo rfl 33 _ _ rfl rfl NP #[.int .i64 (900 - (i : Int)),.int .i64 (10 + (q : Int)),.int .i64 0,.int .i64 0,.string ⟨#[]⟩,.string ⟨#[]⟩,.int .i64 (1 + (n : Int) / 8 % 40),.int .i64 (3000 + 7 * ((n : Int) % 64) + 500 * (i : Int))] rfl rfl 33 _ kNP (by kernel_rfl) rfl (by kernel_rfl) ?_;have hbP:=Hd (Below.setRow_ u.up hNP #[.int .i64 (900 - (i : Int)),.int .i64 (10 + (q : Int)),.int .i64 0,.int .i64 0,.string ⟨#[]⟩,.string ⟨#[]⟩,.int .i64 (1 + (n : Int) / 8 % 40),.int .i64 (3000 + 7 * ((n : Int) % 64) + 500 * (i : Int))]);have kP:=Hd (kNP.setRow_ #[.int .i64 (900 - (i : Int)),.int .i64 (10 + (q : Int)),.int .i64 0,.int .i64 0,.string ⟨#[]⟩,.string ⟨#[]⟩,.int .i64 (1 + (n : Int) / 8 % 40),.int .i64 (3000 + 7 * ((n : Int) % 64) + 500 * (i : Int))]);go_upto_region 37 with fail;clear d0 m0 m1 m2 m3 kNP;generalize u.wld.setRow NP #[.int .i64 (900 - (i : Int)),.int .i64 (10 + (q : Int)),.int .i64 0,.int .i64 0,.string ⟨#[]⟩,.string ⟨#[]⟩,.int .i64 (1 + (n : Int) / 8 % 40),.int .i64 (3000 + 7 * ((n : Int) % 64) + 500 * (i : Int))] = w36 at *;obtain ⟨k,hk⟩ : ∃ k,k = n / 3 % 9:=⟨_,rfl⟩;have hke:=Hd hk;have hkI : (n : Int) / 3 % 9 = (k : Int):=by omega
   obtain ⟨p,hp⟩ : ∃ p,p = zcd x i n:=⟨_,rfl⟩;have hpE:=Hd hp;clear hp hk;go_upto_region 38 with fail;rw [hkI];clear hkI;have hP36:=Hd (hP.out.up hbP.out);obtain ⟨sA,sc,rfl⟩:=hP36.out.s.form_;obtain ⟨qA,qc,rfl⟩:=hP36.out.p.form_;have g1:=hP36.out.blk.cell 1;have lG:=hP36.out.blk.lt;simp at g1;go_upto_if 260 with fail;clear g1 lG
   go_cut [] (fun wx=>Hid (Below wr3.heap.size wr3 wx /\ Blk wx NP 33 #[.int .i64 p.id,.int .i64 p.town,.int .i64 p.street,.int .i64 p.number,.string p.letter,.string p.unit,.int .i64 p.box,.int .i64 p.seq]))
   case first=>
    by_cases hs0 : k < zau x
    ·have hs0':=Hd hs0
     obtain ⟨sb,sc',evs,lsb,u0,u1⟩:=hP36.out.street_at hsl.out hs0;injection evs with e1 e2 e3;subst e1;subst e3;have q2 : (k : Int) < (sl.length : Int):=by omega
     clear hs0 e2;obtain ⟨t,ht⟩ : ∃ t,t = k % zK x:=⟨_,rfl⟩;have hte:=Hd ht;have htN : t < zK x:=by rw [ht]; exact zfs x k
     clear ht;obtain ⟨tb2,tc2,evt2,ltb2,-,-,d0,d1,d2,d3,A4,n4,a4,d4,-⟩:=hP36.out.town_at hxx.out htN;cases evt2
     have e0 : (zbF x t).id = 10 + (t : Int):=rfl;have e1 : (zbF x t).country = ((zx t : Nat) : Int):=rfl;rw [e0] at d0;rw [e1] at d1;have e2 : (zac x k).id = 50 - (k : Int):=rfl;have e3 : (zac x k).town = 10 + (t : Int):=by rw [hte.out]; rfl
     rw [e2] at u0;rw [e3] at u1;generalize (zbF x t).name = tnm at *;generalize (zbF x t).region = trg at *;clear e0 e1 e2 e3;have m0 : (0 : Int) <= (t : Int):=by omega
     have m1 : (10 + (t : Int)) - 10 = (t : Int):=by omega
     have m2 : (t : Int) < ((zK x : Nat) : Int):=by omega
     have m4 : (0 : Int) <= (k : Int):=by omega
     obtain ⟨lb,hlb⟩ : ∃ b,b = decide (zx t ≠ 1 /\ n % 5 = 0):=⟨_,rfl⟩;obtain ⟨ub,hub⟩ : ∃ b,b = decide (zx t ≠ 3 /\ n % 7 = 0):=⟨_,rfl⟩;have hlb':=Hd hlb;have hub':=Hd hub;clear hlb hub
     have hpv : Hid (p = ⟨900 - (i : Int),10 + (t : Int),50 - (k : Int),1 + (n : Int) / 16 % 100,zcm lb,zgI ub,0,(3000 + 7 * ((n : Int) % 64) + 500 * (i : Int))⟩):=Hd (by
      rw [hpE.out];unfold zcd;simp only;rw [<- hke.out,if_pos hs0'.out,<- hte.out,zh.mk.injEq];refine ⟨rfl,rfl,rfl,by omega,?_,?_,rfl,by unfold zen; omega⟩
      ·rw [hlb'.out]; unfold zcm; by_cases h : zx t ≠ 1 /\ n % 5 = 0
       ·rw [if_pos h,decide_eq_true h]; rfl
       ·rw [if_neg h,decide_eq_false h]; rfl
      ·rw [hub'.out]; unfold zgI; by_cases h : zx t ≠ 3 /\ n % 7 = 0
       ·rw [if_pos h,decide_eq_true h]; rfl
       ·rw [if_neg h,decide_eq_false h]; rfl)
     go_upto_region 39 with fail;clear q2;refine zdv 11 _ 79 #[.int .i64 0,.int .u8 0,.string ⟨#[]⟩,.string ⟨#[]⟩,.slice none 0 0] (by kernel_rfl) (by kernel_rfl) rfl ?run39 (by rfl) ?A39 ?hd39 ?tl39
     case run39=>intro ρ w; simp [go_sem,execOp]
     case hd39=>
      intro E hE hne;have yG:=fun (u : zhu w36 E)=>(hP36.out.blk.upsE u).cell 0;have yH:=fun (u : zhu w36 E)=>(hP36.out.blk.upsE u).cell 1;simp at yG yH;have ya:=fun (u : zhu w36 E)=>u.cellAt u1 lsb;have y0:=fun (u : zhu w36 E)=>u.cellAt d0 ltb2;have y1:=fun (u : zhu w36 E)=>u.cellAt d1 ltb2;have y2:=fun (u : zhu w36 E)=>u.cellAt d2 ltb2;have y3:=fun (u : zhu w36 E)=>u.cellAt d3 ltb2;have y4:=fun (u : zhu w36 E)=>u.cellAt d4 ltb2;simp only [tS,tZ]
      repeat (go_big_quiet_step (fail))
      refine wpQuiet_nil ?_;rfl
     simp only [dS,dZ,Act.put,sX,sS,sZ];intro TP u hTP kTP;refine wpList_store_rowTo rfl 79 _ _ rfl rfl TP #[.int .i64 (10 + (t : Int)),.int .u8 ((zx t : Nat) : Int),.string tnm,.string trg,.slice A4 n4 a4] rfl rfl 79 _ kTP (by kernel_rfl) rfl (by kernel_rfl) ?_;have hb39:=Hd (Below.setRow_ u.up hTP #[.int .i64 (10 + (t : Int)),.int .u8 ((zx t : Nat) : Int),.string tnm,.string trg,.slice A4 n4 a4]);have kT39:=Hd (kTP.setRow_ #[.int .i64 (10 + (t : Int)),.int .u8 ((zx t : Nat) : Int),.string tnm,.string trg,.slice A4 n4 a4]);go_upto_region 40 with fail;clear d0 d1 d2 d3 d4 kTP m1;generalize u.wld.setRow TP #[.int .i64 (10 + (t : Int)),.int .u8 ((zx t : Nat) : Int),.string tnm,.string trg,.slice A4 n4 a4] = w39 at *;have kP39:=Hd (kP.out.below hb39.out kP.out.lt);have hP39:=Hd (hP36.out.up hb39.out);have hb39w:=Hd (hbP.out.trans (hb39.out.mono (by have:=hbP.out.size; omega)));have hNT : NP ≠ TP:=by have:=kP.out.lt; omega
     have v0:=((zc.of_below hb39.out (fun _=>True)).cell (b:=sb) (o:=k * 6) lsb trivial).trans u0;have v1:=((zc.of_below hb39.out (fun _=>True)).cell (b:=sb) (o:=k * 6 + 1) lsb trivial).trans u1;have lsb9 : sb < w39.heap.size:=Nat.lt_of_lt_of_le lsb hb39.out.size;refine zL 21 (by kernel_rfl) (by kernel_rfl) ?_;simp only [tS,tZ,dS,dZ];have yG:=fun (u : Ups w39)=>(hP39.out.blk.ups u).cell 1;have y0:=fun (u : Ups w39)=>(kP39.out.ups u).cell 0;have y7:=fun (u : Ups w39)=>(kP39.out.ups u).cell 7;have ya:=fun (u : Ups w39)=>u.cellAt v0 lsb9;have yb:=fun (u : Ups w39)=>u.cellAt v1 lsb9;simp at yG y0 y7
     repeat (go_big_quiet_step (fail))
     refine wpQuiet_nil ?_;rintro _ ⟨u9,rfl⟩;clear yG y0 y7 ya yb v0 v1;have kPu:=kP39.out.ups u9;refine wpList_store_rowTo rfl 33 _ _ rfl rfl NP #[.int .i64 (900 - (i : Int)),.int .i64 (10 + (t : Int)),.int .i64 (50 - (k : Int)),.int .i64 (1 + (n : Int) / 16 % 100),.string ⟨#[]⟩,.string ⟨#[]⟩,.int .i64 0,.int .i64 (3000 + 7 * ((n : Int) % 64) + 500 * (i : Int))] rfl rfl 33 _ kPu (by kernel_rfl) rfl (by kernel_rfl) ?_;have hb40:=Hd (Below.setRow_ (hb39w.out.trans (u9.up.mono hb39w.out.size)) hNP #[.int .i64 (900 - (i : Int)),.int .i64 (10 + (t : Int)),.int .i64 (50 - (k : Int)),.int .i64 (1 + (n : Int) / 16 % 100),.string ⟨#[]⟩,.string ⟨#[]⟩,.int .i64 0,.int .i64 (3000 + 7 * ((n : Int) % 64) + 500 * (i : Int))]);have kP40:=Hd (kPu.setRow_ #[.int .i64 (900 - (i : Int)),.int .i64 (10 + (t : Int)),.int .i64 (50 - (k : Int)),.int .i64 (1 + (n : Int) / 16 % 100),.string ⟨#[]⟩,.string ⟨#[]⟩,.int .i64 0,.int .i64 (3000 + 7 * ((n : Int) % 64) + 500 * (i : Int))]);have kT40:=Hd ((kT39.out.ups u9).setRow_far (Ne.symm hNT) #[.int .i64 (900 - (i : Int)),.int .i64 (10 + (t : Int)),.int .i64 (50 - (k : Int)),.int .i64 (1 + (n : Int) / 16 % 100),.string ⟨#[]⟩,.string ⟨#[]⟩,.int .i64 0,.int .i64 (3000 + 7 * ((n : Int) % 64) + 500 * (i : Int))]);go_upto_region 41 with fail;clear kPu u0 u1;generalize u9.wld.setRow NP #[.int .i64 (900 - (i : Int)),.int .i64 (10 + (t : Int)),.int .i64 (50 - (k : Int)),.int .i64 (1 + (n : Int) / 16 % 100),.string ⟨#[]⟩,.string ⟨#[]⟩,.int .i64 0,.int .i64 (3000 + 7 * ((n : Int) % 64) + 500 * (i : Int))] = w40 at *;by_cases hc1 : zx t = 1
     ·have q1 : (((zx t : Nat) : Int) != 1) = false:=by simp [hc1]
      obtain rfl : lb = false:=by rw [hlb'.out]; simp [hc1]
      clear hc1;have z1:=kT40.out.cell 1;have lz:=kT40.out.lt;simp at z1;go_upto_region 43 with fail;clear z1 lz q1;have hb42:=hb40;have kP42:=Hd (show Blk w40 NP 33 #[.int .i64 (900 - (i : Int)),.int .i64 (10 + (t : Int)),.int .i64 (50 - (k : Int)),.int .i64 (1 + (n : Int) / 16 % 100),.string (zcm false),.string ⟨#[]⟩,.int .i64 0,.int .i64 (3000 + 7 * ((n : Int) % 64) + 500 * (i : Int))] from kP40.out);have kT42:=kT40;clear hb40 kP40 kT40;rename World=>w42;have z1:=kT42.out.cell 1;have lz:=kT42.out.lt;have s5:=kP42.out.cell 5;have f5:=kP42.out.frozen 5;have l2:=kP42.out.lt;simp at z1 s5;by_cases hc1 : zx t = 3
      ·have q1 : (((zx t : Nat) : Int) != 3) = false:=by simp [hc1]
       obtain rfl : ub = false:=by rw [hub'.out]; simp [hc1]
       clear hc1;have hfin:=Hd (And.intro hb42.out (show Blk w42 NP 33 #[.int .i64 (900 - (i : Int)),.int .i64 (10 + (t : Int)),.int .i64 (50 - (k : Int)),.int .i64 (1 + (n : Int) / 16 % 100),.string (zcm false),.string (zgI false),.int .i64 0,.int .i64 (3000 + 7 * ((n : Int) % 64) + 500 * (i : Int))] from kP42.out));go_wp2;go_meet
       case rel=>rw [hpv.out]; exact hfin
      ·have q1 : (((zx t : Nat) : Int) != 3) = true:=by simp; omega
       by_cases h5 : n % 7 = 0
       ·have q3 : ((n : Int) % 7 == 0) = true:=by simp; omega
        obtain rfl : ub = true:=by rw [hub'.out]; simp [hc1,h5]
        clear hc1 h5;have hfin:=Hd (And.intro (hb42.out.setCell (p:=⟨NP,5,none⟩) hNP (.string ⟨#[50]⟩)) (show Blk (w42.setCell ⟨NP,5,none⟩ (.string ⟨#[50]⟩)) NP 33 #[.int .i64 (900 - (i : Int)),.int .i64 (10 + (t : Int)),.int .i64 (50 - (k : Int)),.int .i64 (1 + (n : Int) / 16 % 100),.string (zcm false),.string (zgI true),.int .i64 0,.int .i64 (3000 + 7 * ((n : Int) % 64) + 500 * (i : Int))] from kP42.out.set_ 5 (.string ⟨#[50]⟩)));go_wp2;go_meet
        case rel=>rw [hpv.out]; exact hfin
       ·have q3 : ((n : Int) % 7 == 0) = false:=by simp; omega
        obtain rfl : ub = false:=by rw [hub'.out]; simp [h5]
        clear hc1 h5;have hfin:=Hd (And.intro hb42.out (show Blk w42 NP 33 #[.int .i64 (900 - (i : Int)),.int .i64 (10 + (t : Int)),.int .i64 (50 - (k : Int)),.int .i64 (1 + (n : Int) / 16 % 100),.string (zcm false),.string (zgI false),.int .i64 0,.int .i64 (3000 + 7 * ((n : Int) % 64) + 500 * (i : Int))] from kP42.out));go_wp2;go_meet
        case rel=>rw [hpv.out]; exact hfin
     ·have q1 : (((zx t : Nat) : Int) != 1) = true:=by simp; omega
      by_cases h5 : n % 5 = 0
      ·have q3 : ((n : Int) % 5 == 0) = true:=by simp; omega
       obtain rfl : lb = true:=by rw [hlb'.out]; simp [hc1,h5]
       clear hc1 h5;have z1:=kT40.out.cell 1;have lz:=kT40.out.lt;have s4:=kP40.out.cell 4;have f4:=kP40.out.frozen 4;have l2:=kP40.out.lt;simp at z1 s4;go_upto_region 43 with fail;clear z1 lz s4 f4 l2 q1 q3;have hb42:=Hd (hb40.out.setCell (p:=⟨NP,4,none⟩) hNP (.string ⟨#[66]⟩));have kP42:=Hd (show Blk (w40.setCell ⟨NP,4,none⟩ (.string ⟨#[66]⟩)) NP 33 #[.int .i64 (900 - (i : Int)),.int .i64 (10 + (t : Int)),.int .i64 (50 - (k : Int)),.int .i64 (1 + (n : Int) / 16 % 100),.string (zcm true),.string ⟨#[]⟩,.int .i64 0,.int .i64 (3000 + 7 * ((n : Int) % 64) + 500 * (i : Int))] from kP40.out.set_ 4 (.string ⟨#[66]⟩));have kT42:=Hd (kT40.out.far (p:=⟨NP,4,none⟩) (Ne.symm hNT) (.string ⟨#[66]⟩));clear hb40 kP40 kT40;generalize w40.setCell ⟨NP,4,none⟩ (.string ⟨#[66]⟩) = w42 at *;have z1:=kT42.out.cell 1;have lz:=kT42.out.lt;have s5:=kP42.out.cell 5;have f5:=kP42.out.frozen 5;have l2:=kP42.out.lt;simp at z1 s5;by_cases hc1 : zx t = 3
       ·have q1 : (((zx t : Nat) : Int) != 3) = false:=by simp [hc1]
        obtain rfl : ub = false:=by rw [hub'.out]; simp [hc1]
        clear hc1;have hfin:=Hd (And.intro hb42.out (show Blk w42 NP 33 #[.int .i64 (900 - (i : Int)),.int .i64 (10 + (t : Int)),.int .i64 (50 - (k : Int)),.int .i64 (1 + (n : Int) / 16 % 100),.string (zcm true),.string (zgI false),.int .i64 0,.int .i64 (3000 + 7 * ((n : Int) % 64) + 500 * (i : Int))] from kP42.out));go_wp2;go_meet
        case rel=>rw [hpv.out]; exact hfin
       ·have q1 : (((zx t : Nat) : Int) != 3) = true:=by simp; omega
        by_cases h5 : n % 7 = 0
        ·have q3 : ((n : Int) % 7 == 0) = true:=by simp; omega
         obtain rfl : ub = true:=by rw [hub'.out]; simp [hc1,h5]
         clear hc1 h5;have hfin:=Hd (And.intro (hb42.out.setCell (p:=⟨NP,5,none⟩) hNP (.string ⟨#[50]⟩)) (show Blk (w42.setCell ⟨NP,5,none⟩ (.string ⟨#[50]⟩)) NP 33 #[.int .i64 (900 - (i : Int)),.int .i64 (10 + (t : Int)),.int .i64 (50 - (k : Int)),.int .i64 (1 + (n : Int) / 16 % 100),.string (zcm true),.string (zgI true),.int .i64 0,.int .i64 (3000 + 7 * ((n : Int) % 64) + 500 * (i : Int))] from kP42.out.set_ 5 (.string ⟨#[50]⟩)));go_wp2;go_meet
         case rel=>rw [hpv.out]; exact hfin
        ·have q3 : ((n : Int) % 7 == 0) = false:=by simp; omega
         obtain rfl : ub = false:=by rw [hub'.out]; simp [h5]
         clear hc1 h5;have hfin:=Hd (And.intro hb42.out (show Blk w42 NP 33 #[.int .i64 (900 - (i : Int)),.int .i64 (10 + (t : Int)),.int .i64 (50 - (k : Int)),.int .i64 (1 + (n : Int) / 16 % 100),.string (zcm true),.string (zgI false),.int .i64 0,.int .i64 (3000 + 7 * ((n : Int) % 64) + 500 * (i : Int))] from kP42.out));go_wp2;go_meet
         case rel=>rw [hpv.out]; exact hfin
      ·have q3 : ((n : Int) % 5 == 0) = false:=by simp; omega
       obtain rfl : lb = false:=by rw [hlb'.out]; simp [h5]
       clear hc1 h5;have z1:=kT40.out.cell 1;have lz:=kT40.out.lt;simp at z1;go_upto_region 43 with fail;clear z1 lz q1;have hb42:=hb40;have kP42:=Hd (show Blk w40 NP 33 #[.int .i64 (900 - (i : Int)),.int .i64 (10 + (t : Int)),.int .i64 (50 - (k : Int)),.int .i64 (1 + (n : Int) / 16 % 100),.string (zcm false),.string ⟨#[]⟩,.int .i64 0,.int .i64 (3000 + 7 * ((n : Int) % 64) + 500 * (i : Int))] from kP40.out);have kT42:=kT40;clear hb40 kP40 kT40;rename World=>w42;have z1:=kT42.out.cell 1;have lz:=kT42.out.lt;have s5:=kP42.out.cell 5;have f5:=kP42.out.frozen 5;have l2:=kP42.out.lt;simp at z1 s5;by_cases hc1 : zx t = 3
       ·have q1 : (((zx t : Nat) : Int) != 3) = false:=by simp [hc1]
        obtain rfl : ub = false:=by rw [hub'.out]; simp [hc1]
        clear hc1;have hfin:=Hd (And.intro hb42.out (show Blk w42 NP 33 #[.int .i64 (900 - (i : Int)),.int .i64 (10 + (t : Int)),.int .i64 (50 - (k : Int)),.int .i64 (1 + (n : Int) / 16 % 100),.string (zcm false),.string (zgI false),.int .i64 0,.int .i64 (3000 + 7 * ((n : Int) % 64) + 500 * (i : Int))] from kP42.out));go_wp2;go_meet
        case rel=>rw [hpv.out]; exact hfin
       ·have q1 : (((zx t : Nat) : Int) != 3) = true:=by simp; omega
        by_cases h5 : n % 7 = 0
        ·have q3 : ((n : Int) % 7 == 0) = true:=by simp; omega
         obtain rfl : ub = true:=by rw [hub'.out]; simp [hc1,h5]
         clear hc1 h5;have hfin:=Hd (And.intro (hb42.out.setCell (p:=⟨NP,5,none⟩) hNP (.string ⟨#[50]⟩)) (show Blk (w42.setCell ⟨NP,5,none⟩ (.string ⟨#[50]⟩)) NP 33 #[.int .i64 (900 - (i : Int)),.int .i64 (10 + (t : Int)),.int .i64 (50 - (k : Int)),.int .i64 (1 + (n : Int) / 16 % 100),.string (zcm false),.string (zgI true),.int .i64 0,.int .i64 (3000 + 7 * ((n : Int) % 64) + 500 * (i : Int))] from kP42.out.set_ 5 (.string ⟨#[50]⟩)));go_wp2;go_meet
         case rel=>rw [hpv.out]; exact hfin
        ·have q3 : ((n : Int) % 7 == 0) = false:=by simp; omega
         obtain rfl : ub = false:=by rw [hub'.out]; simp [h5]
         clear hc1 h5;have hfin:=Hd (And.intro hb42.out (show Blk w42 NP 33 #[.int .i64 (900 - (i : Int)),.int .i64 (10 + (t : Int)),.int .i64 (50 - (k : Int)),.int .i64 (1 + (n : Int) / 16 % 100),.string (zcm false),.string (zgI false),.int .i64 0,.int .i64 (3000 + 7 * ((n : Int) % 64) + 500 * (i : Int))] from kP42.out));go_wp2;go_meet
         case rel=>rw [hpv.out]; exact hfin
    ·have hlN : sl.length = zau x:=by have:=congrArg List.length hsl.out; simpa using this
     have q2 : ¬ (k : Int) < (sl.length : Int):=by omega
     have hpv : Hid (p = ⟨900 - (i : Int),10 + (q : Int),0,0,⟨#[]⟩,⟨#[]⟩,(1 + (n : Int) / 8 % 40),(3000 + 7 * ((n : Int) % 64) + 500 * (i : Int))⟩):=Hd (by
      rw [hpE.out];unfold zcd;simp only;rw [<- hke.out,if_neg hs0,<- hqe.out,zh.mk.injEq]
      exact ⟨rfl,rfl,rfl,rfl,rfl,rfl,by omega,by unfold zen; omega⟩)
     clear hlN hs0;go_wp2;go_meet
     case rel=>rw [hpv.out]; exact Hd ⟨hbP.out,kP.out⟩
   case rest=>
    rename_i zhiy1 zhsly2 zhlty3 zKy4 zKy5 zay6 zuy7 zuy8 zuy9 zuy10 zuy11 zuy12 zuy13 zuy14 zuy15 zuy16 zuy17 zuy18 zuy19 zuy20 zuy21 zuy22 zuy23 zuy24 zuy25 zuy26 zuy27 zuy28 zuy29 zuy30 zuy31 zuy32 zuy33 zuy34 zuy35 zuy36 zuy37 zuy38 zuy39 zuy40 zuy41 zuy42 zuy43 zuy44 zuy45 zuy46 zuy47 zuy48 zuy49 zuy50 zuy51 zuy52 zuy53 zuy54 zuy55 zuy56 zuy57 zuy58 zuy59 zuy60 zuy61 zuy62 zuy63 zuy64 zuy65 zuy66 zuy67 zuy68 zuy69 zuy70 zuy71 zuy72 zuy73 zuy74 zuy75 zuy76 zuy77 zuy78 zuy79 zuy80 zuy81 zuy82 zuy83 zuy84 zuy85 zuy86 zuy87 zuy88 zuy89 zuy90 zuy91 zuy92 zuy93 zuy94 zuy95 zuy96 zuy97 zuy98 zuy99 zuy100 zuy101 zuy102 zuy103 zuy104 zuy105 zuy106 zuy107 zuy108 zuy109 zuy110 zuy111 zuy112 zuy113 zuy114 zuy115 zuy116 zuy117 zuy118 zuy119 zuy120 zuy121 zuy122 zuy123 zuy124 zuy125 zuy126 zuy127 zuy128 zuy129 zuy130 zuy131 zKy132 zQy133 zay134 zKy135 zQy136 zay137 zay138
    revert x w cA cc pc i79 hi79 hz79 hy79 hw79 i83 hi83 hz83 hy83 hw83 i72 hi72 hz72 hy72 hw72 i33 hi33 hz33 hy33 hw33 i9 hi9 hz9 hy9 hw9 htw hst Qx W0 G R hR1 hG2 Kx W kR1 hb1 M hGM kN hbr0 wr u6 u7 u21 u22 u23 u24 u25 u26 u27 u28 u29 u30 u31 u32 u33 u34 u35 u36 u37 u38 u39 u40 u41 u42 u43 u44 u45 u46 u47 u48 u49 u50 u51 u52 u53 u54 u55 u56 u57 u58 u59 u60 u61 u62 u63 u64 u65 u66 u67 u68 u69 u70 u71 u72 u73 u74 u75 u76 u77 u78 u79 u80 u81 u82 u83 u84 u85 u86 u87 u88 u89 u90 u91 u92 u93 u94 u95 u96 vr tl hN5 zhiy1 xhlty1 hxx hN5' rows0 hrows0' xKy3 xKy5 wr2 u9 u10 u11 u97 u98 u99 u100 u101 u102 u103 u104 u105 u106 u107 u108 u109 u110 u111 u112 u113 u114 u115 u116 u117 u118 u119 u120 u121 u122 u123 u124 u125 u126 u127 u128 u129 u130 u131 u132 u133 u134 u135 u136 u137 u138 u139 u140 u141 u142 u143 u144 u145 u146 u147 u148 u149 u150 u151 u152 u153 u154 u155 u156 u157 u158 u159 u160 u161 u162 u163 u164 u165 u166 u167 u168 u169 u170 u171 u172 u173 u174 u175 u176 u177 u178 u179 u180 u181 u182 u183 u184 u185 u186 u187 u188 u189 u190 u191 u192 u193 u194 u195 u196 u197 u198 u199 u200 u201 u202 u203 u204 u205 u206 u207 u208 u209 u210 u211 vr2 sl rs zhsly2 zhlty3 hsl hrsF zKy4 zKy5 zay6 wr3 u13 u14 u15 zuy7 u17 u19 zuy8 zuy9 zuy10 zuy11 zuy12 zuy13 zuy14 zuy15 zuy16 zuy17 zuy18 zuy19 zuy20 zuy21 zuy22 zuy23 zuy24 zuy25 zuy26 zuy27 zuy28 zuy29 zuy30 zuy31 zuy32 zuy33 zuy34 zuy35 zuy36 zuy37 zuy38 zuy39 zuy40 zuy41 zuy42 zuy43 zuy44 zuy45 zuy46 zuy47 zuy48 zuy49 zuy50 zuy51 zuy52 zuy53 zuy54 zuy55 zuy56 zuy57 zuy58 zuy59 zuy60 zuy61 zuy62 zuy63 zuy64 zuy65 zuy66 zuy67 zuy68 zuy69 zuy70 zuy71 zuy72 zuy73 zuy74 zuy75 zuy76 zuy77 zuy78 zuy79 zuy80 zuy81 zuy82 zuy83 zuy84 zuy85 zuy86 zuy87 zuy88 zuy89 zuy90 zuy91 zuy92 zuy93 zuy94 zuy95 zuy96 zuy97 zuy98 zuy99 zuy100 zuy101 zuy102 zuy103 zuy104 zuy105 zuy106 zuy107 u312 u313 u314 zuy108 zuy109 zuy110 zuy111 zuy112 zuy113 zuy114 zuy115 zuy116 zuy117 zuy118 zuy119 zuy120 zuy121 zuy122 zuy123 zuy124 zuy125 zuy126 zuy127 zuy128 zuy129 zuy130 zuy131 i pl hi n0 hpl hlt hl1 hl2 hi60 hil pb po hs' kS1 xQy2 xay4 k25 hpb n hn hptE zKy132 hqq' q hqN hqe tb tc ltb hMtb A4 n4 a4 hbt zQy133 zay134 hotb NP u hNP zKy135 w36 hbP kP k hke p hpE sA sc zQy136 zay137 zay138 qA qc hP hP36 wc u16 u212 u213 u214 u215 u216 u217 u218 u219 u220 u221 u222 u223 u224 u225 u226 u227 u228 u229 u230 u231 u232 u233 u234 u235 u236 u237 u238 u239 u240 u241 u242 u243 u244 u245 u246 u247 u248 u249 u250 u251 u252 u253 u254 u255 u256 u257 u258 u259 u260 u261 u262 u263 u264 u265 u266 u267 u268 u269 u270 u271 u272 u273 u274 u275 u276 u277 u278 u279 u280 u281 u282 u283 u284 u285 u286 u287 u288 u289 u290 u291 u292 u293 u294 u295 u296 u297 u298 u299 u300 u301 u302 u303 u304 u305 u306 u307 u308 u309 u310 u311 u315 u316 u317 u318 u319 u320 u321 u322 u323 u324 u325 u326 u327 u328 u329 u330 u331 u332 u333 u334 u335 u336 u337 u338 hcut
    exact hG.out
  ·obtain rfl : i = zaN x:=by omega
   have hfinP:=Hd (show zb x = ⟨tl.map zcG.t,sl.map zbn.s,rs,pl⟩ from by rw [hxx.out,hsl.out,hrsF.out,hpl.out,hrows0'.out]; rfl);obtain ⟨tA,tc,rfl⟩:=hP.out.t.form_;obtain ⟨sA,sc,rfl⟩:=hP.out.s.form_;obtain ⟨rA,rc,rfl⟩:=hP.out.r.form_;obtain ⟨qA,qc,rfl⟩:=hP.out.p.form_;have kGe:=hP.out.blk;have g0:=kGe.cell 0;have g1:=kGe.cell 1;have g2:=kGe.cell 2;have g3:=kGe.cell 3;have lG:=kGe.lt;have kRe:=kR1.out.keep hP.out.side ⟨by omega,by omega⟩;have s0:=kRe.cell 0;have s1:=kRe.cell 1;have s2:=kRe.cell 2;have s3:=kRe.cell 3;have f0:=kRe.frozen 0;have f1:=kRe.frozen 1;have f2:=kRe.frozen 2;have f3:=kRe.frozen 3;have lR:=kRe.lt;simp at g0 g1 g2 g3 s0 s1 s2 s3;have kRe':=Hd kRe;have hoff:=Hd ((((hP.out.off (R:=R) (i:=0) (.slice tA tl.length tc) (by omega) (by omega) (by omega)).off (R:=R) (i:=1) (.slice sA sl.length sc) (by omega) (by omega) (by omega)).off (R:=R) (i:=2) (.slice rA rs.length rc) (by omega) (by omega) (by omega)).off (R:=R) (i:=3) (.slice qA pl.length qc) (by omega) (by omega) (by omega));clear kGe kRe;by_cases hl1 : zaN x < x.points.length
   ·have hl2 : ((zaN x : Nat) : Int) < (x.points.length : Int):=by omega
    have hl3 : ¬ ((zaN x : Nat) : Int) < 60:=by unfold zaN at hl1 ⊢; omega
    go_wp2;refine bodyPost_ret (results_cell_row (P:=Tryz.prog) Tryz.results23 _ _ _ _ _ _ _ rfl ((((kRe'.out.set_ 0 _).set_ 1 _).set_ 2 _).set_ 3 _) Tryz.underlying31 rfl (by kernel_rfl)) rfl ?_;exact ⟨_,_,_,_,rfl,fun w2 hk=>by rw [hfinP.out]; exact hoff.out.after hk,hoff.out.below⟩
   ·have hl2 : ¬ ((zaN x : Nat) : Int) < (x.points.length : Int):=by omega
    go_wp2;refine bodyPost_ret (results_cell_row (P:=Tryz.prog) Tryz.results23 _ _ _ _ _ _ _ rfl ((((kRe'.out.set_ 0 _).set_ 1 _).set_ 2 _).set_ 3 _) Tryz.underlying31 rfl (by kernel_rfl)) rfl ?_;exact ⟨_,_,_,_,rfl,fun w2 hk=>by rw [hfinP.out]; exact hoff.out.after hk,hoff.out.below⟩
end
end Go.Proofs.YtggimnndflkjkaaGreatDoor
