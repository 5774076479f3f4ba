import Derived.Test.YtggimnndflkjkaaGreatDoorR01
import Derived.Test.YtggimnndflkjkaaGreatDoorR21
import Derived.Test.YtggimnndflkjkaaGreatDoorR47
import Derived.Test.YtggimnndflkjkaaGreatDoorR48
import Derived.Deep.Upon
set_option linter.all false
set_option maxRecDepth 100000
set_option maxHeartbeats 0
namespace Go.Proofs.YtggimnndflkjkaaGreatDoor
section
open Go.RowKit Go.Maps
theorem zCA : zCp.1:=by
 unfold zCp;intro x w wh hwh m hm cA cc pA pc htab' xQy1 W0 w1 tA tn tc sA sn sc rA rn rc qc p w2 N6 N5 w3 vA vm hpos rb ro hP64 c ps m2 h11 w4 lA lc qs w5 N8 mo hPt AL SL0 TL0 hlaw w6 mA mc hmx w7 SL xhspy2 sA2 sc2 hsx hsp w8 TL xhtpy3 tA3 tc3 htx ht8 htp hm8 hs8 hb8 kF8 kR8 hr8 hq8 hpts8 hrb8 xKy4 xay5 w9 hb9 Mb xhMby6 hmap0 hMb wr u6 u18 u19 u20 u21 u22 u95 u96 u97 u98 u99 u100 u101 u102 u103 u104 u105 u106 u107 u108 u109 u110 u111 u112 u113 u114 u115 u116 u117 u118 u119 u120 u121 u122 u123 u124 u125 u126 u127 u128 u129 u130 u131 u132 u133 u134 u135 u136 u137 u138 u139 u140 u141 u142 u143 u144 u145 u146 u147 u148 u149 u150 u151 u152 u153 u154 u155 u156 u157 u158 u159 u160 u161 u162 u163 u164 u165 u166 u167 u168 u169 u170 u171 u172 u173 u174 u175 u176 u177 u178 u179 u180 u181 u182 u183 u184 u185 u186 hj hr n0 hlt;obtain ⟨hb10,hmp⟩:=hr.out;have hb10:=Hd hb10;have hmp:=Hd hmp;have kF10:=Hd (kF8.out.below hb10.out kF8.out.lt);have kR10:=Hd (kR8.out.below hb10.out kR8.out.lt);have hbw10:=Hd (hb8.out.trans (hb10.out.mono hb8.out.size));clear hr hlt hm8 hb9 hmap0;have y3:=kF10.out.cell 3;have lF:=kF10.out.lt;simp at y3;go_wp2;clear y3 lF
 go_loopw [190] (fun kv wq=>∃ k : Nat,k <= (zb x).points.length /\ kv = .int .i64 k /\ Hid (Below wr.heap.size wr wq)) (fun kv _=>(zb x).points.length - (intOf kv).toNat)
 case atStart=>exact ⟨0,by omega,rfl,Hd (Below.refl _ _)⟩
 case round=>
  obtain ⟨k,hk,rfl,hq⟩:=hrel;rename World=>wq;have n2 : (0 : Int) <= (k : Int):=by omega
  by_cases hkl : k < (zb x).points.length
  ·have n3 : (k : Int) < ((zb x).points.length : Int):=by omega
   have hqm:=Hd (List.getElem_mem hkl);have hbq:=Hd (hb10.out.trans (hq.out.mono hb10.out.size));have hhas:=Hd (hlaw.out.has _ hqm.out);have hnear:=Hd (hlaw.out.near _ hqm.out);have hhome:=Hd (hlaw.out.home _ hqm.out);have hfq:=Hd (hlaw.out.fitQ _ hqm.out);have hP:=Hd (hPt.out _ hqm.out);have hpk:=Hd ((hpts8.out k hkl).stays (zo.of hbq.out) hrb8);clear hqm;generalize (zb x).points[k] = q at *;have hfd:=Hd (zCm AL q.id);obtain ⟨q0,q1,q2,q3,q4,q5,q6,q7⟩:=q;simp only at hfd hfq;have d0:=hpk.out.c0;have d1:=hpk.out.c1;have d2:=hpk.out.c2;have d3:=hpk.out.c3;have d4:=hpk.out.c4;have d5:=hpk.out.c5;have d6:=hpk.out.c6;have d7:=hpk.out.c7;simp only at d0 d1 d2 d3 d4 d5 d6 d7;have hrbq : rb < wq.heap.size:=Nat.lt_of_lt_of_le hrb8 hbq.out.size;have hqx:=Hd (hq.out.alloc hq.out.size (.cells #[.int .i64 q0,.int .i64 q1,.int .i64 q2,.int .i64 q3,.string q4,.string q5,.int .i64 q6,.int .i64 q7] 33));have kQ:=Hd (Blk.new wq 33 #[.int .i64 q0,.int .i64 q1,.int .i64 q2,.int .i64 q3,.string q4,.string q5,.int .i64 q6,.int .i64 q7]);go_upto_region 30 with fail;clear d0 d1 d2 d3 d4 d5 d6 d7 hpk hrbq hbq hq;generalize wq.alloc (.cells #[.int .i64 q0,.int .i64 q1,.int .i64 q2,.int .i64 q3,.string q4,.string q5,.int .i64 q6,.int .i64 q7] 33) = wx at *;generalize wq.heap.size = NQ at *;have hb8x:=Hd (hb10.out.trans (hqx.out.mono hb10.out.size));have kFx:=kF10.out.below hqx.out kF10.out.lt;have kRx:=kR10.out.below hqx.out kR10.out.lt;have f0:=kFx.cell 0;have f1:=kFx.cell 1;have f2:=kFx.cell 2;have f3:=kFx.cell 3;have lF:=kFx.lt;have r0:=kRx.cell 0;have r1:=kRx.cell 1;have lR:=kRx.lt;have y0:=kQ.out.cell 0;have lQ:=kQ.out.lt;simp at f0 f1 f2 f3 r0 r1 y0;clear kFx kRx;go_wp2_with fail;refine (hP.out wx (hr8.out.stays (zo.of hb8x.out)) (hq8.out.stays (zo.of hb8x.out)) (htab'.out.below (hb8.out.trans (hb8x.out.mono hb8.out.size)))).mono ?_;rintro e wp ⟨⟨i,y,pA,pn,pc2,er,rfl,hcase⟩,hbp⟩;have hcase:=Hd hcase;clear f0 f1 f2 f3 lF r0 r1 lR y0 lQ hP;have hqp:=Hd ((hqx.out.trans (hbp.mono hqx.out.size)).alloc (Nat.le_trans hqx.out.size hbp.size) (.cells #[.int .i64 i,.int .i64 y,.slice pA pn pc2] 43));have kQp:=Hd ((kQ.out.below hbp kQ.out.lt).alloc (.cells #[.int .i64 i,.int .i64 y,.slice pA pn pc2] 43));have kMp:=Hd (Blk.new wp 43 #[.int .i64 i,.int .i64 y,.slice pA pn pc2]);go_upto_region 31 with fail;clear hbp hqx kQ hb8x;generalize wp.alloc (.cells #[.int .i64 i,.int .i64 y,.slice pA pn pc2] 43) = wz at *;generalize wp.heap.size = NM at *;have hmz:=Hd (hmp.out.below hqp.out hmp.out.lt);have hlook:=hmz.out.look zdf Tryz.underlying67 (zzb _) q0 (zaJ q0 hfq.out);rw [hfd.out] at hlook;simp only [zY] at hlook;have y0:=kQp.out.cell 0;have lQ:=kQp.out.lt;simp at y0;rcases hcase.out with ⟨hm0,rfl⟩ | ⟨ns,hm0,rfl,hy⟩
   ·have hno : ¬ ∃ m ∈ AL,m.point = q0:=fun h=>by have:=hhas.out.1 h; rw [hm0] at this; cases this
    rw [if_neg hno] at hlook;simp only [orV,zY] at hlook;clear hno hm0;go_wp2;go_roundw
    case rel=>exact ⟨k + 1,by omega,by go_num,hqp⟩
    case measure=>simp [intOf]; omega
   ·have hyes : ∃ m ∈ AL,m.point = q0:=hhas.out.2 (by rw [hm0]; rfl)
    rw [if_pos hyes] at hlook;simp only [orV,zY] at hlook;have hnear:=Hd (hnear.out ns hm0);have hhome:=Hd (hhome.out ns hm0);rw [<- hy] at hnear hhome
    try simp only at hnear hhome
    clear hyes hm0 hy hcase;go_upto_region 34 with fail;clear hlook y0;have y2:=kQp.out.cell 2;simp at y2;go_upto_region 35 with fail;clear y2 lQ;have hb8z:=Hd (hb10.out.trans (hqp.out.mono hb10.out.size))
    have hnt : Hid (((q2 == 0) || SL.any (zBN ⟨q0,q1,q2,q3,q4,q5,q6,q7⟩ y)) = true):=Hd (by
     rw [zCd hsp.out];rcases hnear.out with h | ⟨pp,h1,h2,h3,h4⟩
     ·simp [h]
     ·rw [Bool.or_eq_true]
      refine .inr (List.any_eq_true.2 ⟨pp,h1,?_⟩);unfold zBN
      simp [h2,h3,h4])
    have hht : Hid (TL.any (zBL ⟨q0,q1,q2,q3,q4,q5,q6,q7⟩ y) = true):=Hd (by
     rw [zCd htp.out];obtain ⟨pp,h1,h2,h3,h4⟩:=hhome.out;refine List.any_eq_true.2 ⟨pp,h1,?_⟩;unfold zBL
     simp [h2,h3,h4])
    clear hnear hhome hhas hfd hmz;have hz5:=Hd (Below.refl wz.heap.size wz);go_wp2
    go_loopw [27,225] (fun nv sv w5=>∃ s : Nat,s <= SL.length /\ sv = .int .i64 s /\ nv = .bool ((q2 == 0) || (SL.take s).any (zBN ⟨q0,q1,q2,q3,q4,q5,q6,q7⟩ y)) /\ Hid (Below wz.heap.size wz w5)) (fun _ sv _=>SL.length - (intOf sv).toNat)
    case atStart=>exact ⟨0,by omega,rfl,by simp,Hd (Below.refl _ _)⟩
    case round=>
     obtain ⟨s,hs,rfl,rfl,h5⟩:=hrel;rename World=>w5;have n4 : (0 : Int) <= (s : Int):=by omega
     by_cases hsl : s < SL.length
     ·have n5 : (s : Int) < (SL.length : Int):=by omega
      obtain ⟨b2,rfl,hb2,hpl⟩:=hs8.out.at_ (by omega);obtain ⟨d0,d1,d2⟩:=hpl s hsl;have hat:=Hd (zCe (zBN ⟨q0,q1,q2,q3,q4,q5,q6,q7⟩ y) SL s hsl);have hbq:=Hd (hb8z.out.trans (h5.out.mono hb8z.out.size));clear hpl;generalize SL[s] = pp at *;rw [<- hbq.out.cell (p:=⟨b2,s * 3,none⟩) hb2] at d0;rw [<- hbq.out.cell (p:=⟨b2,s * 3 + 1,none⟩) hb2] at d1;rw [<- hbq.out.cell (p:=⟨b2,s * 3 + 2,none⟩) hb2] at d2;have hb2q : b2 < w5.heap.size:=Nat.lt_of_lt_of_le hb2 hbq.out.size;obtain ⟨g0,g1,g2⟩:=pp;simp only at d0 d1 d2;generalize hnb : ((q2 == 0) || (SL.take s).any (zBN ⟨q0,q1,q2,q3,q4,q5,q6,q7⟩ y)) = nb at *;have hval:=Hd (show ((q2 == 0) || (SL.take (s + 1)).any (zBN ⟨q0,q1,q2,q3,q4,q5,q6,q7⟩ y)) = (nb || zBN ⟨q0,q1,q2,q3,q4,q5,q6,q7⟩ y ⟨g0,g1,g2⟩) by rw [hat.out,<- Bool.or_assoc,hnb]);clear hnb hat;have h5n:=Hd (h5.out.alloc h5.out.size (.cells #[.int .i64 g0,.int .i64 g1,.int .i64 g2] 69));have kS:=Hd (Blk.new w5 69 #[.int .i64 g0,.int .i64 g1,.int .i64 g2]);go_upto_region 38 with fail;clear d0 d1 d2 hb2q hbq h5;generalize w5.alloc (.cells #[.int .i64 g0,.int .i64 g1,.int .i64 g2] 69) = wn at *;generalize w5.heap.size = NS at *;have y0:=kS.out.cell 0;have y1:=kS.out.cell 1;have y2:=kS.out.cell 2;have lS:=kS.out.lt;have kQn:=kQp.out.below (hz5.out.trans (h5n.out.mono hz5.out.size)) kQp.out.lt;have kMn:=kMp.out.below (hz5.out.trans (h5n.out.mono hz5.out.size)) kMp.out.lt;have z1:=kQn.cell 1;have z2:=kQn.cell 2;have lQ:=kQn.lt;have x1:=kMn.cell 1;have lM:=kMn.lt;simp at y0 y1 y2 z1 z2 x1;clear kQn kMn;cases nb
      ·by_cases c1 : g1 = q2
       ·by_cases c2 : g0 = q1
        ·by_cases c3 : g2 <= y
         ·have e0 : (g1 == q2) = true:=by simpa using c1
          replace c1:=Hd c1
          have e1 : (g0 == q1) = true:=by simpa using c2
          replace c2:=Hd c2
          go_wp2;go_roundw
          case rel=>exact ⟨s + 1,by omega,by go_num,by rw [hval.out]; simp [zBN,c1.out,c2.out,c3],h5n⟩
          case measure=>simp [intOf]; omega
         ·have e0 : (g1 == q2) = true:=by simpa using c1
          replace c1:=Hd c1
          have e1 : (g0 == q1) = true:=by simpa using c2
          replace c2:=Hd c2
          go_wp2;go_roundw
          case rel=>exact ⟨s + 1,by omega,by go_num,by rw [hval.out]; simp [zBN,c1.out,c2.out,c3],h5n⟩
          case measure=>simp [intOf]; omega
        ·have e0 : (g1 == q2) = true:=by simpa using c1
         replace c1:=Hd c1
         have e1 : (g0 == q1) = false:=by simpa using c2
         replace c2:=Hd c2
         go_wp2;go_roundw
         case rel=>exact ⟨s + 1,by omega,by go_num,by rw [hval.out]; simp [zBN,c1.out,c2.out],h5n⟩
         case measure=>simp [intOf]; omega
       ·have e0 : (g1 == q2) = false:=by simpa using c1
        replace c1:=Hd c1
        go_wp2;go_roundw
        case rel=>exact ⟨s + 1,by omega,by go_num,by rw [hval.out]; simp [zBN,c1.out],h5n⟩
        case measure=>simp [intOf]; omega
      ·go_wp2
       go_roundw
       case rel=>exact ⟨s + 1,by omega,by go_num,by rw [hval.out]; simp [],h5n⟩
       case measure=>simp [intOf]; omega
     ·obtain rfl : s = SL.length:=by omega
      rw [List.take_length];rw [hnt.out];clear hsl;have hz5b:=Hd (hz5.out.trans (h5.out.mono hz5.out.size));have hb8b:=Hd (hb8z.out.trans (h5.out.mono hb8z.out.size));clear hz5 hb8z h5;have hz5:=hz5b;have hb8z:=hb8b;clear hz5b hb8b;generalize w5 = w5a at *;go_wp2
      go_loopw [30,254] (fun nv sv w5=>∃ s : Nat,s <= TL.length /\ sv = .int .i64 s /\ nv = .bool ( (TL.take s).any (zBL ⟨q0,q1,q2,q3,q4,q5,q6,q7⟩ y)) /\ Hid (Below w5a.heap.size w5a w5)) (fun _ sv _=>TL.length - (intOf sv).toNat)
      case atStart=>exact ⟨0,by omega,rfl,by simp,Hd (Below.refl _ _)⟩
      case round=>
       obtain ⟨s,hs,rfl,rfl,h5⟩:=hrel;rename World=>w5;have n4 : (0 : Int) <= (s : Int):=by omega
       by_cases hsl : s < TL.length
       ·have n5 : (s : Int) < (TL.length : Int):=by omega
        obtain ⟨b2,rfl,hb2,hpl⟩:=ht8.out.at_ (by omega);obtain ⟨d0,d1,d2⟩:=hpl s hsl;have hat:=Hd (zCe (zBL ⟨q0,q1,q2,q3,q4,q5,q6,q7⟩ y) TL s hsl);have hbq:=Hd (hb8z.out.trans (h5.out.mono hb8z.out.size));clear hpl;generalize TL[s] = pp at *;rw [<- hbq.out.cell (p:=⟨b2,s * 3,none⟩) hb2] at d0;rw [<- hbq.out.cell (p:=⟨b2,s * 3 + 1,none⟩) hb2] at d1;rw [<- hbq.out.cell (p:=⟨b2,s * 3 + 2,none⟩) hb2] at d2;have hb2q : b2 < w5.heap.size:=Nat.lt_of_lt_of_le hb2 hbq.out.size;obtain ⟨g0,g1,g2⟩:=pp;simp only at d0 d1 d2;generalize hnb : ( (TL.take s).any (zBL ⟨q0,q1,q2,q3,q4,q5,q6,q7⟩ y)) = nb at *;have hval:=Hd (show ( (TL.take (s + 1)).any (zBL ⟨q0,q1,q2,q3,q4,q5,q6,q7⟩ y)) = (nb || zBL ⟨q0,q1,q2,q3,q4,q5,q6,q7⟩ y ⟨g0,g1,g2⟩) by rw [hat.out]);clear hnb hat;have h5n:=Hd (h5.out.alloc h5.out.size (.cells #[.int .i64 g0,.int .i64 g1,.int .i64 g2] 69));have kS:=Hd (Blk.new w5 69 #[.int .i64 g0,.int .i64 g1,.int .i64 g2]);go_upto_region 44 with fail;clear d0 d1 d2 hb2q hbq h5;generalize w5.alloc (.cells #[.int .i64 g0,.int .i64 g1,.int .i64 g2] 69) = wn at *;generalize w5.heap.size = NS at *;have y0:=kS.out.cell 0;have y1:=kS.out.cell 1;have y2:=kS.out.cell 2;have lS:=kS.out.lt;have kQn:=kQp.out.below (hz5.out.trans (h5n.out.mono hz5.out.size)) kQp.out.lt;have kMn:=kMp.out.below (hz5.out.trans (h5n.out.mono hz5.out.size)) kMp.out.lt;have z1:=kQn.cell 1;have z2:=kQn.cell 2;have lQ:=kQn.lt;have x1:=kMn.cell 1;have lM:=kMn.lt;simp at y0 y1 y2 z1 z2 x1;clear kQn kMn;cases nb
        ·by_cases c1 : g0 = q1
         ·by_cases c2 : g2 <= y
          ·by_cases c3 : g1 = 0
           ·have e0 : (g0 == q1) = true:=by simpa using c1
            replace c1:=Hd c1
            have e2 : (g1 == 0) = true:=by simpa using c3
            replace c3:=Hd c3
            go_wp2;go_roundw
            case rel=>exact ⟨s + 1,by omega,by go_num,by rw [hval.out]; simp [zBL,c1.out,c2,c3.out],h5n⟩
            case measure=>simp [intOf]; omega
           ·have e0 : (g0 == q1) = true:=by simpa using c1
            replace c1:=Hd c1
            have e2 : (g1 == 0) = false:=by simpa using c3
            replace c3:=Hd c3
            go_wp2;go_roundw
            case rel=>exact ⟨s + 1,by omega,by go_num,by rw [hval.out]; simp [zBL,c1.out,c2,c3.out],h5n⟩
            case measure=>simp [intOf]; omega
          ·have e0 : (g0 == q1) = true:=by simpa using c1
           replace c1:=Hd c1
           go_wp2;go_roundw
           case rel=>exact ⟨s + 1,by omega,by go_num,by rw [hval.out]; simp [zBL,c1.out,c2],h5n⟩
           case measure=>simp [intOf]; omega
         ·have e0 : (g0 == q1) = false:=by simpa using c1
          replace c1:=Hd c1
          go_wp2;go_roundw
          case rel=>exact ⟨s + 1,by omega,by go_num,by rw [hval.out]; simp [zBL,c1.out],h5n⟩
          case measure=>simp [intOf]; omega
        ·go_wp2
         go_roundw
         case rel=>exact ⟨s + 1,by omega,by go_num,by rw [hval.out]; simp [],h5n⟩
         case measure=>simp [intOf]; omega
       ·obtain rfl : s = TL.length:=by omega
        rw [List.take_length];rw [hht.out];clear hsl;go_wp2;go_roundw
        case rel=>exact ⟨k + 1,by omega,by go_num,Hd (hqp.out.trans ((hz5.out.trans (h5.out.mono hz5.out.size)).mono hqp.out.size))⟩
        case measure=>simp [intOf]; omega
  ·obtain rfl : k = (zb x).points.length:=by omega
   have hbe:=Hd (hbw10.out.trans (hq.out.mono hbw10.out.size));go_wp2_with fail;refine (zbq wq (htab'.out.below hbe.out)).mono ?_;rintro e wz ⟨rfl,hbz⟩;go_wp2;go_ret;exact ⟨rfl,hbe.out.trans (hbz.mono hbe.out.size)⟩
theorem zCa (x : zi) (vc vp : Value) (a1 a2 : Int) (w : World) (hs : zbS w vc vp x) (hw1 : (Lit.int .u8 a1).wf = true) (hw2 : (Lit.int .u16 a2).wf = true) (htab : zbz w) :
  Calls Tryz.prog 7 #[.agg #[.int .u8 (x.towns : Int),.int .u8 (x.streets : Int),vc,vp],.int .u8 a1,.int .u16 a2] w fun e w'=>e = .returned (.bool true) /\ Below w.heap.size w w':=
 zCo.2 ⟨zCp.2 ⟨zCA⟩⟩ x vc vp a1 a2 w hs hw1 hw2 htab
end
end Go.Proofs.YtggimnndflkjkaaGreatDoor
