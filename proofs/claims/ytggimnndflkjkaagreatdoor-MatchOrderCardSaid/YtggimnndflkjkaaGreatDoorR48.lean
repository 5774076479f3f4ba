import Derived.Test.YtggimnndflkjkaaGreatDoorR01
import Derived.Test.YtggimnndflkjkaaGreatDoorR21
import Derived.Test.YtggimnndflkjkaaGreatDoorR47
import Derived.Deep.Upon
set_option linter.all false
set_option maxRecDepth 100000
set_option maxHeartbeats 0
namespace Go.Proofs.YtggimnndflkjkaaGreatDoor
section
open Go.RowKit Go.Maps
def zCp : PSigma fun G : Prop=>zub G -> zCo.1:=by
 apply PSigma.mk
 case snd=>
 intro hG;unfold zCo;intro x w wh hwh m hm cA cc pA pc htab' xQy1 W0 w1 tA tn tc sA sn sc rA rn rc qc p w2 N6 N5 w3 vA vm hpos rb ro hP64 c ps m2 h11 w4 lA lc qs w5 N8 mo hPt AL SL0 TL0 hlaw w6 mA mc hmx w7 SL xhspy2 sA2 sc2 hsx hsp w8 TL xhtpy3 tA3 tc3 htx ht8 htp hm8 hs8 hb8 kF8 kR8 hr8 hq8 hpts8 hrb8 xKy4 xay5 w9 hb9 Mb xhMby6 hmap0 hMb wr u6 u18 u19 u20 u21 u22 u94 u95 u96 u97 u98 u99 u100 u101 u102 u103 u104 u105 u106 u107 u108 u109 u110 u111 u112 u113 u114 u115 u116 u117 u118 u119 u120 u121 u122 u123 u124 u125 u126 u127 u128 u129 u130 u131 u132 u133 u134 u135 u136 u137 u138 u139 u140 u141 u142 u143 u144 u145 u146 u147 u148 u149 u150 u151 u152 u153 u154 u155 u156 u157 u158 u159 u160 u161 u162 u163 u164 u165 u166 u167 u168 u169 u170 u171 u172 u173 u174 u175 u176 u177 u178 u179 u180 u181 u182 u183 u184 u185 u186 hrel;obtain ⟨j,hj,rfl,hr⟩:=hrel;rename World=>wr;have n0 : (0 : Int) <= (j : Int):=by omega
 by_cases hlt : j < AL.length
 ·have n1 : (j : Int) < (AL.length : Int):=by omega
  obtain ⟨b1,rfl,hb1,hms⟩:=hm8.out.at_ (by omega);have hjm : j - 1 < AL.length:=by omega
  obtain ⟨a0,a1,A2,c2,a2,hN⟩:=hms j hlt;have hprev:=Hd (hms (j - 1) hjm);have hG:=Hd (hlaw.out.good _ (List.getElem_mem hlt));have hfit:=Hd (hlaw.out.fitA _ (List.getElem_mem hlt));have hnew:=Hd (zCn hlaw.out.apart j hlt);have hnx:=Hd (zCi AL j hlt);have hup:=Hd (fun hj0 : 0 < j=>List.pairwise_iff_getElem.1 hlaw.out.up (j - 1) j hjm hlt (by omega));have hN:=Hd hN;have hb1' : b1 < wr.heap.size:=Nat.lt_of_lt_of_le hb1 hr.out.1.size;clear hms;generalize AL[j] = mj at *;generalize AL[j - 1] = mq at *;rw [<- hr.out.1.cell (p:=⟨b1,j * 3,none⟩) hb1] at a0;rw [<- hr.out.1.cell (p:=⟨b1,j * 3 + 1,none⟩) hb1] at a1;rw [<- hr.out.1.cell (p:=⟨b1,j * 3 + 2,none⟩) hb1] at a2;have hbx:=Hd (hr.out.1.alloc hr.out.1.size (.cells #[.int .i64 mj.point,.int .i64 mj.cost,.slice A2 mj.notes.length c2] 43));have kT:=Hd (Blk.new wr 43 #[.int .i64 mj.point,.int .i64 mj.cost,.slice A2 mj.notes.length c2]);have hmv:=Hd (hr.out.2.alloc (.cells #[.int .i64 mj.point,.int .i64 mj.cost,.slice A2 mj.notes.length c2] 43));have hNTM : Hid (wr.heap.size ≠ Mb):=Hd (Nat.ne_of_gt hr.out.2.lt);go_upto_region 15 with fail;clear a0 a1 a2 hr;generalize wr.alloc (.cells #[.int .i64 mj.point,.int .i64 mj.cost,.slice A2 mj.notes.length c2] 43) = wx at *;generalize wr.heap.size = NT at *;have hlook:=hmv.out.look zdf Tryz.underlying67 (zzb _) mj.point (zaJ mj.point hfit.out);obtain ⟨wM,hput,hmv2,hgr⟩:=hmv.out.put zdf Tryz.underlying67 (by unfold maxLen; omega) zbm mj.point (1 : Int) (zaJ mj.point hfit.out);rw [hnew.out] at hlook;rw [<- hnx.out] at hmv2;simp only [zY,orV] at hput hlook;have hmv2:=Hd hmv2;have hbM:=Hd (hbx.out.grown hgr hbx.out.size (fun g e=>by have e2 : Mb = g:=Option.some.inj e; rw [<- e2,<- hMb.out]; exact lQ _));have kM:=Hd (kT.out.keep (zc.of_grown (P:=fun b=>b ≠ Mb) hgr (fun b hb e=>hb (Option.some.inj e))) hNTM.out);have y0:=kT.out.cell 0;have lT:=kT.out.lt;simp at y0;go_upto_region 17 with fail;clear y0 lT hlook hput hmv hgr kT hbx;have y2:=kM.out.cell 2;have lM:=kM.out.lt;simp at y2;have hcheap:=Hd (fun k=>zBR mj.notes hG.out.cheap hG.out.few k);go_wp2;clear y2 lM
  go_loopw [20,107] (fun sv kv wq=>∃ k : Nat,k <= mj.notes.length /\ kv = .int .i64 k /\ sv = .int .i64 (zO (mj.notes.take k)) /\ Hid (Below wM.heap.size wM wq)) (fun _ kv _=>mj.notes.length - (intOf kv).toNat)
  case atStart=>exact ⟨0,by omega,rfl,rfl,Hd (Below.refl _ _)⟩
  case round=>
   obtain ⟨k,hk,rfl,rfl,hq⟩:=hrel;rename World=>wq;have n2 : (0 : Int) <= (k : Int):=by omega
   have h10 : mj.notes.length <= 10:=hG.out.few;have hbq:=Hd (hbM.out.trans (hq.out.mono hbM.out.size));by_cases hkl : k < mj.notes.length
   ·have n3 : (k : Int) < (mj.notes.length : Int):=by omega
    obtain ⟨nb,no,rfl,hnb,hni⟩:=hN.out (by omega);obtain ⟨d0,d1,d2⟩:=hni k hkl;have hdp:=Hd (fun hk0 : 0 < k=>(hni (k - 1) (by omega)).1);have hmem : mj.notes.getD k zP.zero ∈ mj.notes:=by rw [zD _ _ _ hkl]; exact List.getElem_mem hkl
    have hSt:=Hd (hG.out.states _ hmem);have hcd:=Hd (hG.out.cheap _ hmem)
    have hkk:=Hd (fun hk0 : 0 < k=>show (mj.notes.getD (k - 1) zP.zero).kind < (mj.notes.getD k zP.zero).kind by
     rw [zD _ _ _ hkl,zD _ _ _ (show k - 1 < mj.notes.length by omega)]
     exact List.pairwise_iff_getElem.1 hG.out.up (k - 1) k (by omega) hkl (by omega))
    have htt:=Hd (zri mj.notes k hkl);have hbd:=Hd (hcheap.out k);clear hni hmem;generalize mj.notes.getD k zP.zero = nd at *;generalize mj.notes.getD (k - 1) zP.zero = np at *;generalize zO (mj.notes.take k) = S at *;rw [<- hbq.out.cell (p:=⟨nb,no + k * 3,none⟩) hnb] at d0;rw [<- hbq.out.cell (p:=⟨nb,no + k * 3 + 1,none⟩) hnb] at d1;rw [<- hbq.out.cell (p:=⟨nb,no + k * 3 + 2,none⟩) hnb] at d2;have hnbq : nb < wq.heap.size:=Nat.lt_of_lt_of_le hnb hbq.out.size;obtain ⟨kd,st,co⟩:=nd;simp only at d0 d1 d2;have hbN:=Hd (hbq.out.alloc hbq.out.size (.cells #[.int .u8 kd,.int .u8 st,.int .i64 co] 48));have hqN:=Hd (hq.out.alloc hq.out.size (.cells #[.int .u8 kd,.int .u8 st,.int .i64 co] 48));have kN:=Hd (Blk.new wq 48 #[.int .u8 kd,.int .u8 st,.int .i64 co]);go_upto_region 20 with fail;clear d0 d1 d2 hnbq hq hbq;generalize wq.alloc (.cells #[.int .u8 kd,.int .u8 st,.int .i64 co] 48) = wn at *;generalize wq.heap.size = NN at *;have y2:=kN.out.cell 2;have lN:=kN.out.lt;simp at y2
    have hw : IntKind.i64.wrap (S + co) = S + co:=by
     have h1:=hbd.out;have h2:=hcd.out;simp only at h2;simp [IntKind.wrap,IntKind.bits,IntKind.signed];omega
    go_upto_region 21 with fail;clear y2 lN
    have hsc : Hid (st = 1) \/ Hid (st = 4) \/ (Hid (st ≠ 1) /\ Hid (st ≠ 4)):=by
     by_cases h1 : st = 1
     ·exact .inl (Hd h1)
     ·by_cases h4 : st = 4
      ·exact .inr (.inl (Hd h4))
      ·exact .inr (.inr ⟨Hd h1,Hd h4⟩)
    have hkc : Hid (k = 0) \/ Hid (0 < k):=by
     rcases Nat.eq_zero_or_pos k with h | h
     ·exact .inl (Hd h)
     ·exact .inr (Hd h)
    rcases hkc with hk0 | hk0
    ·rcases hsc with hs1 | hs4 | ⟨hs1,hs4⟩
     ·have y0:=fun (u : Ups wn)=>(kN.out.ups u).cell 0
      have y1:=fun (u : Ups wn)=>(kN.out.ups u).cell 1;have y2:=fun (u : Ups wn)=>(kN.out.ups u).cell 2;have z2:=fun (u : Ups wn)=>((kM.out.below hqN.out kM.out.lt).ups u).cell 2;simp at y0 y1 y2 z2;have q0 : ¬ (0 : Int) < (k : Int):=by have:=hk0.out; omega
      have q0b : decide ((0 : Int) < (k : Int)) = false:=decide_eq_false q0;have q0c : ¬ 0 < k:=by omega
      have q0d : decide (0 < k) = false:=decide_eq_false q0c;have e1 : (st == 1) = true:=by simpa using hs1.out
      have e0 : (co == 0) = true:=by have h:=hSt.out; unfold StN at h; simp only at h; simpa using h.1 (.inl hs1.out)
      refine zC rfl (by kernel_rfl) ?_
      repeat (go_big_quiet_step (fail))
      refine wpQuiet_nil ?_;rintro w' ⟨u,rfl⟩;have hu:=Hd (hqN.out.trans (u.up.mono hqN.out.size));clear y0 y1 y2 z2;generalize u.wld = wz at *;go_wp2;go_roundw
      case rel=>exact ⟨k + 1,by omega,by go_num,by rw [htt.out],hu⟩
      case measure=>simp [intOf]; omega
     ·have y0:=fun (u : Ups wn)=>(kN.out.ups u).cell 0
      have y1:=fun (u : Ups wn)=>(kN.out.ups u).cell 1;have y2:=fun (u : Ups wn)=>(kN.out.ups u).cell 2;have z2:=fun (u : Ups wn)=>((kM.out.below hqN.out kM.out.lt).ups u).cell 2;simp at y0 y1 y2 z2;have q0 : ¬ (0 : Int) < (k : Int):=by have:=hk0.out; omega
      have q0b : decide ((0 : Int) < (k : Int)) = false:=decide_eq_false q0;have q0c : ¬ 0 < k:=by omega
      have q0d : decide (0 < k) = false:=decide_eq_false q0c;have e1 : (st == 1) = false:=by have h:=hs4.out; simp; omega
      have e4 : (st == 4) = true:=by simpa using hs4.out
      have e0 : (co == 0) = true:=by have h:=hSt.out; unfold StN at h; simp only at h; simpa using h.1 (.inr hs4.out)
      refine zC rfl (by kernel_rfl) ?_
      repeat (go_big_quiet_step (fail))
      refine wpQuiet_nil ?_;rintro w' ⟨u,rfl⟩;have hu:=Hd (hqN.out.trans (u.up.mono hqN.out.size));clear y0 y1 y2 z2;generalize u.wld = wz at *;go_wp2;go_roundw
      case rel=>exact ⟨k + 1,by omega,by go_num,by rw [htt.out],hu⟩
      case measure=>simp [intOf]; omega
     ·have y0:=fun (u : Ups wn)=>(kN.out.ups u).cell 0
      have y1:=fun (u : Ups wn)=>(kN.out.ups u).cell 1;have y2:=fun (u : Ups wn)=>(kN.out.ups u).cell 2;have z2:=fun (u : Ups wn)=>((kM.out.below hqN.out kM.out.lt).ups u).cell 2;simp at y0 y1 y2 z2;have q0 : ¬ (0 : Int) < (k : Int):=by have:=hk0.out; omega
      have q0b : decide ((0 : Int) < (k : Int)) = false:=decide_eq_false q0;have q0c : ¬ 0 < k:=by omega
      have q0d : decide (0 < k) = false:=decide_eq_false q0c;have e1 : (st == 1) = false:=by simpa using hs1.out
      have e4 : (st == 4) = false:=by simpa using hs4.out
      have e0 : (co == 0) = false:=by have h:=hSt.out; unfold StN at h; simp only at h; have h1:=hs1.out; have h4:=hs4.out; simp; intro h0; exact absurd (h.2 h0) (by simp [h1,h4])
      refine zC rfl (by kernel_rfl) ?_
      repeat (go_big_quiet_step (fail))
      refine wpQuiet_nil ?_;rintro w' ⟨u,rfl⟩;have hu:=Hd (hqN.out.trans (u.up.mono hqN.out.size));clear y0 y1 y2 z2;generalize u.wld = wz at *;go_wp2;go_roundw
      case rel=>exact ⟨k + 1,by omega,by go_num,by rw [htt.out],hu⟩
      case measure=>simp [intOf]; omega
    ·rcases hsc with hs1 | hs4 | ⟨hs1,hs4⟩
     ·have y0:=fun (u : Ups wn)=>(kN.out.ups u).cell 0
      have y1:=fun (u : Ups wn)=>(kN.out.ups u).cell 1;have y2:=fun (u : Ups wn)=>(kN.out.ups u).cell 2;have z2:=fun (u : Ups wn)=>((kM.out.below hqN.out kM.out.lt).ups u).cell 2;simp at y0 y1 y2 z2;have q0 : (0 : Int) < (k : Int):=by have:=hk0.out; omega
      have q0b : decide ((0 : Int) < (k : Int)) = true:=decide_eq_true q0;have q0c : 0 < k:=by omega
      have q0d : decide (0 < k) = true:=decide_eq_true q0c;have q1 : (0 : Int) <= (k : Int) - 1:=by omega
      have q2 : (k : Int) - 1 < (mj.notes.length : Int):=by omega
      have q3 : IntKind.i64.wrap ((k : Int) - 1) = (k : Int) - 1:=by simp [IntKind.wrap,IntKind.bits,IntKind.signed]; omega
      have q4:=zBB hk0.out;have q5:=hkk.out hk0.out;have q6 : ¬ kd <= np.kind:=by simp only at q5; omega
      have q7:=hdp.out hk0.out;have p0:=fun (u : Ups wn)=>((hbN.out.trans (u.up.mono hbN.out.size)).cell (p:=⟨nb,no + (k - 1) * 3,none⟩) hnb).trans q7;clear q5 q7;have e1 : (st == 1) = true:=by simpa using hs1.out
      have e0 : (co == 0) = true:=by have h:=hSt.out; unfold StN at h; simp only at h; simpa using h.1 (.inl hs1.out)
      refine zC rfl (by kernel_rfl) ?_
      repeat (go_big_quiet_step (fail))
      refine wpQuiet_nil ?_;rintro w' ⟨u,rfl⟩;have hu:=Hd (hqN.out.trans (u.up.mono hqN.out.size));clear y0 y1 y2 z2;generalize u.wld = wz at *;go_wp2;go_roundw
      case rel=>exact ⟨k + 1,by omega,by go_num,by rw [htt.out],hu⟩
      case measure=>simp [intOf]; omega
     ·have y0:=fun (u : Ups wn)=>(kN.out.ups u).cell 0
      have y1:=fun (u : Ups wn)=>(kN.out.ups u).cell 1;have y2:=fun (u : Ups wn)=>(kN.out.ups u).cell 2;have z2:=fun (u : Ups wn)=>((kM.out.below hqN.out kM.out.lt).ups u).cell 2;simp at y0 y1 y2 z2;have q0 : (0 : Int) < (k : Int):=by have:=hk0.out; omega
      have q0b : decide ((0 : Int) < (k : Int)) = true:=decide_eq_true q0;have q0c : 0 < k:=by omega
      have q0d : decide (0 < k) = true:=decide_eq_true q0c;have q1 : (0 : Int) <= (k : Int) - 1:=by omega
      have q2 : (k : Int) - 1 < (mj.notes.length : Int):=by omega
      have q3 : IntKind.i64.wrap ((k : Int) - 1) = (k : Int) - 1:=by simp [IntKind.wrap,IntKind.bits,IntKind.signed]; omega
      have q4:=zBB hk0.out;have q5:=hkk.out hk0.out;have q6 : ¬ kd <= np.kind:=by simp only at q5; omega
      have q7:=hdp.out hk0.out;have p0:=fun (u : Ups wn)=>((hbN.out.trans (u.up.mono hbN.out.size)).cell (p:=⟨nb,no + (k - 1) * 3,none⟩) hnb).trans q7;clear q5 q7;have e1 : (st == 1) = false:=by have h:=hs4.out; simp; omega
      have e4 : (st == 4) = true:=by simpa using hs4.out
      have e0 : (co == 0) = true:=by have h:=hSt.out; unfold StN at h; simp only at h; simpa using h.1 (.inr hs4.out)
      refine zC rfl (by kernel_rfl) ?_
      repeat (go_big_quiet_step (fail))
      refine wpQuiet_nil ?_;rintro w' ⟨u,rfl⟩;have hu:=Hd (hqN.out.trans (u.up.mono hqN.out.size));clear y0 y1 y2 z2;generalize u.wld = wz at *;go_wp2;go_roundw
      case rel=>exact ⟨k + 1,by omega,by go_num,by rw [htt.out],hu⟩
      case measure=>simp [intOf]; omega
     ·have y0:=fun (u : Ups wn)=>(kN.out.ups u).cell 0
      have y1:=fun (u : Ups wn)=>(kN.out.ups u).cell 1;have y2:=fun (u : Ups wn)=>(kN.out.ups u).cell 2;have z2:=fun (u : Ups wn)=>((kM.out.below hqN.out kM.out.lt).ups u).cell 2;simp at y0 y1 y2 z2;have q0 : (0 : Int) < (k : Int):=by have:=hk0.out; omega
      have q0b : decide ((0 : Int) < (k : Int)) = true:=decide_eq_true q0;have q0c : 0 < k:=by omega
      have q0d : decide (0 < k) = true:=decide_eq_true q0c;have q1 : (0 : Int) <= (k : Int) - 1:=by omega
      have q2 : (k : Int) - 1 < (mj.notes.length : Int):=by omega
      have q3 : IntKind.i64.wrap ((k : Int) - 1) = (k : Int) - 1:=by simp [IntKind.wrap,IntKind.bits,IntKind.signed]; omega
      have q4:=zBB hk0.out;have q5:=hkk.out hk0.out;have q6 : ¬ kd <= np.kind:=by simp only at q5; omega
      have q7:=hdp.out hk0.out;have p0:=fun (u : Ups wn)=>((hbN.out.trans (u.up.mono hbN.out.size)).cell (p:=⟨nb,no + (k - 1) * 3,none⟩) hnb).trans q7;clear q5 q7;have e1 : (st == 1) = false:=by simpa using hs1.out
      have e4 : (st == 4) = false:=by simpa using hs4.out
      have e0 : (co == 0) = false:=by have h:=hSt.out; unfold StN at h; simp only at h; have h1:=hs1.out; have h4:=hs4.out; simp; intro h0; exact absurd (h.2 h0) (by simp [h1,h4])
      refine zC rfl (by kernel_rfl) ?_
      repeat (go_big_quiet_step (fail))
      refine wpQuiet_nil ?_;rintro w' ⟨u,rfl⟩;have hu:=Hd (hqN.out.trans (u.up.mono hqN.out.size));clear y0 y1 y2 z2;generalize u.wld = wz at *;go_wp2;go_roundw
      case rel=>exact ⟨k + 1,by omega,by go_num,by rw [htt.out],hu⟩
      case measure=>simp [intOf]; omega
   ·obtain rfl : k = mj.notes.length:=by omega
    rw [List.take_length];have hsum:=Hd hG.out.sum;rw [hG.out.sum];have kQ:=Hd (kM.out.below hq.out kM.out.lt);have hmvq:=Hd (hmv2.out.below hq.out hmv2.out.lt);clear hkl hq;go_upto_region 24 with fail;have hmx':=hmx
    have hjc : Hid (j = 0) \/ Hid (0 < j):=by
     rcases Nat.eq_zero_or_pos j with h | h
     ·exact .inl (Hd h)
     ·exact .inr (Hd h)
    rcases hjc with hj0 | hj0
    ·have y0:=fun (u : Ups wq)=>(kQ.out.ups u).cell 0
     have y1:=fun (u : Ups wq)=>(kQ.out.ups u).cell 1;simp at y0 y1;have e9 : (mj.cost != mj.cost) = false:=by simp
     have q0 : ¬ (0 : Int) < (j : Int):=by have:=hj0.out; omega
     have q0b : decide ((0 : Int) < (j : Int)) = false:=decide_eq_false q0;have q0c : ¬ 0 < j:=by omega
     have q0d : decide (0 < j) = false:=decide_eq_false q0c;refine zC rfl (by kernel_rfl) ?_
     repeat (go_big_quiet_step (fail))
     refine wpQuiet_nil ?_;rintro w' ⟨u,rfl⟩;have hu:=Hd (hbq.out.trans (u.up.mono hbq.out.size));have hmu:=Hd (hmvq.out.below u.up hmvq.out.lt);clear y0 y1;generalize u.wld = wz at *;go_wp2;go_roundw
     case rel=>exact ⟨j + 1,by omega,by go_num,Hd ⟨hu.out,hmu.out⟩⟩
     case measure=>simp [intOf]; omega
    ·have huc : Hid (mq.cost < mj.cost) \/ Hid (mq.cost = mj.cost /\ mq.point < mj.point):=by
      rcases hup.out hj0.out with h | h
      ·exact .inl (Hd h)
      ·exact .inr (Hd h)
     rcases huc with hlt1 | hlt2
     ·have y0:=fun (u : Ups wq)=>(kQ.out.ups u).cell 0
      have y1:=fun (u : Ups wq)=>(kQ.out.ups u).cell 1;simp at y0 y1;have e9 : (mj.cost != mj.cost) = false:=by simp
      have q0 : (0 : Int) < (j : Int):=by have:=hj0.out; omega
      have q0b : decide ((0 : Int) < (j : Int)) = true:=decide_eq_true q0;have q0c : 0 < j:=by omega
      have q0d : decide (0 < j) = true:=decide_eq_true q0c;have q1 : (0 : Int) <= (j : Int) - 1:=by omega
      have q2 : (j : Int) - 1 < (AL.length : Int):=by omega
      have q3 : IntKind.i64.wrap ((j : Int) - 1) = (j : Int) - 1:=by simp [IntKind.wrap,IntKind.bits,IntKind.signed]; omega
      have q4:=zBB hj0.out;have p0:=fun (u : Ups wq)=>((hbq.out.trans (u.up.mono hbq.out.size)).cell (p:=⟨b1,(j - 1) * 3,none⟩) hb1).trans hprev.out.c0;have p1:=fun (u : Ups wq)=>((hbq.out.trans (u.up.mono hbq.out.size)).cell (p:=⟨b1,(j - 1) * 3 + 1,none⟩) hb1).trans hprev.out.c1;have c1 : ¬ mj.cost < mq.cost:=by have:=hlt1.out; omega
      have c2 : (mq.cost == mj.cost) = false:=by have:=hlt1.out; simp; omega
      refine zC rfl (by kernel_rfl) ?_
      repeat (go_big_quiet_step (fail))
      refine wpQuiet_nil ?_;rintro w' ⟨u,rfl⟩;have hu:=Hd (hbq.out.trans (u.up.mono hbq.out.size));have hmu:=Hd (hmvq.out.below u.up hmvq.out.lt);clear y0 y1;generalize u.wld = wz at *;go_wp2;go_roundw
      case rel=>exact ⟨j + 1,by omega,by go_num,Hd ⟨hu.out,hmu.out⟩⟩
      case measure=>simp [intOf]; omega
     ·have y0:=fun (u : Ups wq)=>(kQ.out.ups u).cell 0
      have y1:=fun (u : Ups wq)=>(kQ.out.ups u).cell 1;simp at y0 y1;have e9 : (mj.cost != mj.cost) = false:=by simp
      have q0 : (0 : Int) < (j : Int):=by have:=hj0.out; omega
      have q0b : decide ((0 : Int) < (j : Int)) = true:=decide_eq_true q0;have q0c : 0 < j:=by omega
      have q0d : decide (0 < j) = true:=decide_eq_true q0c;have q1 : (0 : Int) <= (j : Int) - 1:=by omega
      have q2 : (j : Int) - 1 < (AL.length : Int):=by omega
      have q3 : IntKind.i64.wrap ((j : Int) - 1) = (j : Int) - 1:=by simp [IntKind.wrap,IntKind.bits,IntKind.signed]; omega
      have q4:=zBB hj0.out;have p0:=fun (u : Ups wq)=>((hbq.out.trans (u.up.mono hbq.out.size)).cell (p:=⟨b1,(j - 1) * 3,none⟩) hb1).trans hprev.out.c0;have p1:=fun (u : Ups wq)=>((hbq.out.trans (u.up.mono hbq.out.size)).cell (p:=⟨b1,(j - 1) * 3 + 1,none⟩) hb1).trans hprev.out.c1;have c1 : ¬ mj.cost < mq.cost:=by have:=hlt2.out; omega
      have c2 : (mq.cost == mj.cost) = true:=by have:=hlt2.out; simp; omega
      have c3 : ¬ mj.point <= mq.point:=by have:=hlt2.out; omega
      refine zC rfl (by kernel_rfl) ?_
      repeat (go_big_quiet_step (fail))
      refine wpQuiet_nil ?_;rintro w' ⟨u,rfl⟩;have hu:=Hd (hbq.out.trans (u.up.mono hbq.out.size));have hmu:=Hd (hmvq.out.below u.up hmvq.out.lt);clear y0 y1;generalize u.wld = wz at *;go_wp2;go_roundw
      case rel=>exact ⟨j + 1,by omega,by go_num,Hd ⟨hu.out,hmu.out⟩⟩
      case measure=>simp [intOf]; omega
 ·obtain rfl : j = AL.length:=by omega
  revert x w wh hwh m hm cA cc pA pc htab' xQy1 W0 w1 tA tn tc sA sn sc rA rn rc qc p w2 N6 N5 w3 vA vm hpos rb ro hP64 c ps m2 h11 w4 lA lc qs w5 N8 mo hPt AL SL0 TL0 hlaw w6 mA mc hmx w7 SL xhspy2 sA2 sc2 hsx hsp w8 TL xhtpy3 tA3 tc3 htx ht8 htp hm8 hs8 hb8 kF8 kR8 hr8 hq8 hpts8 hrb8 xKy4 xay5 w9 hb9 Mb xhMby6 hmap0 hMb wr u6 u18 u19 u20 u21 u22 u95 u96 u97 u98 u99 u100 u101 u102 u103 u104 u105 u106 u107 u108 u109 u110 u111 u112 u113 u114 u115 u116 u117 u118 u119 u120 u121 u122 u123 u124 u125 u126 u127 u128 u129 u130 u131 u132 u133 u134 u135 u136 u137 u138 u139 u140 u141 u142 u143 u144 u145 u146 u147 u148 u149 u150 u151 u152 u153 u154 u155 u156 u157 u158 u159 u160 u161 u162 u163 u164 u165 u166 u167 u168 u169 u170 u171 u172 u173 u174 u175 u176 u177 u178 u179 u180 u181 u182 u183 u184 u185 u186 hj hr n0 hlt
  exact hG.out
end
end Go.Proofs.YtggimnndflkjkaaGreatDoor
