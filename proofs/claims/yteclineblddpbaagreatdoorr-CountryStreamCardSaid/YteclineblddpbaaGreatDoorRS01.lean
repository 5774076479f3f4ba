import Derived.Test.YteclineblddpbaaGreatDoorRC01
import Derived.Test.YteclineblddpbaaGreatDoorRC38
import Derived.Laws.StructEq
set_option linter.all false
set_option maxRecDepth 100000
set_option maxHeartbeats 0
namespace Go.Proofs.YteclineblddpbaaGreatDoorR
section
open Go Go.RowKit Go.Maps
theorem streamTo_split (l : List PTok) (k : Nat) : ∀ d,∃ r,streamTo l (k + 1 + d) = streamTo l k ++ (stepS l k ++ r)
 | 0=>⟨[],by rw [Nat.add_zero,streamTo,List.append_nil]⟩
 | d + 1=>by
  obtain ⟨r,h⟩:=streamTo_split l k d
  exact ⟨r ++ stepS l (k + 1 + d),by rw [show k + 1 + (d + 1) = (k + 1 + d) + 1 by omega,streamTo,h]; simp only [List.append_assoc]⟩
theorem streamP_split {l : List PTok} {k : Nat} (h : k < l.length) : ∃ r,streamP l = streamTo l k ++ (stepS l k ++ r):=by
 obtain ⟨r,e⟩:=streamTo_split l k (l.length - (k + 1))
 exact ⟨r,by unfold streamP; rw [<- e]; congr 1; omega⟩
def brkT (l : List PTok) (k : Nat) : PTok:=⟨⟨#[]⟩,(l.getD k PTok.zero).line,0,16384⟩
theorem stream_one {l : List PTok} {k : Nat} (h : k < l.length) (hs : stepS l k = [l.getD k PTok.zero]) : (streamTo l k).length < (streamP l).length /\ (streamP l).getD (streamTo l k).length PTok.zero = l.getD k PTok.zero /\ (streamTo l (k + 1)).length = (streamTo l k).length + 1:=by
 obtain ⟨r,e⟩:=streamP_split h
 rw [hs] at e
 refine ⟨by rw [e]; simp,?_,by rw [streamTo,hs]; simp⟩
 rw [e,List.getD_eq_getElem?_getD,List.getElem?_append_right (lQ _),Nat.sub_self]
 simp
theorem stream_two {l : List PTok} {k : Nat} (h : k < l.length) (hs : stepS l k = [brkT l k,l.getD k PTok.zero]) : (streamTo l k).length + 1 < (streamP l).length /\ (streamP l).getD (streamTo l k).length PTok.zero = brkT l k /\ (streamP l).getD ((streamTo l k).length + 1) PTok.zero = l.getD k PTok.zero /\ (streamTo l (k + 1)).length = (streamTo l k).length + 2:=by
 obtain ⟨r,e⟩:=streamP_split h
 rw [hs] at e
 refine ⟨by rw [e]; simp,?_,?_,by rw [streamTo,hs]; simp⟩
 ·rw [e,List.getD_eq_getElem?_getD,List.getElem?_append_right (lQ _),Nat.sub_self]
  simp
 ·rw [e,List.getD_eq_getElem?_getD,List.getElem?_append_right (by omega),Nat.add_sub_cancel_left]
  simp
theorem eq39 (tx : ByteArray) (ln ps cl : Int) (w : World) : (Op.equalIn 10000 39 (.agg #[.string tx,.int .i64 ln,.int .i64 ps,.int .u16 cl]) (.agg #[.string tx,.int .i64 ln,.int .i64 ps,.int .u16 cl])).run Tryz.prog w = .ok true w:=by
 have u3:=Tryz.underlying3
 have a3:=Tryz.isAgg3
 have z3:=Tryz.sizeOf3
 have u9:=Tryz.underlying9
 have a9:=Tryz.isAgg9
 have z9:=Tryz.sizeOf9
 have u37:=Tryz.underlying37
 have a37:=Tryz.isAgg37
 have z37:=Tryz.sizeOf37
 have hS : Tryz.prog.underlying 39 = some (.struct (Tryz.prog.fieldsOf 39)):=by kernel_rfl
 have hp : Tryz.prog.stoodInHeld 39 = false:=by kernel_rfl
 rw [show (10000 : Nat) = 9999 + 1 from rfl,run_equalIn_agg w 9999 39 _ _ hS hp]
 simp only [Program.fieldsOf,Tryz.underlying39]
 go_simp
attribute [local go_sem] eq39
theorem stream5 (v : Value) (l : List PTok) (w : World) (h : IsToks w v l) (hml : MaxL w) (h00 : 0 < w.heap.size) : Calls Tryz.prog 5 #[v] w fun e w'=>e = .returned (.bool true) /\ Below w.heap.size w w':=by
 have haw:=Hd (awake14 w hml h00)
 have h':=Hd h
 obtain ⟨A,c,rfl,hn,hcm,-⟩:=h
 unfold maxLen at hcm
 go_enter Tryz.func5,Tryz.ntmps5
 go_wp2_with fail
 refine haw.out.mono ?_
 rintro e W1 ⟨rfl,hb1⟩
 clear haw
 by_cases h40 : 40 < l.length
 ·have q1 : (40 : Int) < (l.length : Int):=by omega
  have q2 : decide ((l.length : Int) > 40) = true:=decide_eq_true (by omega)
  have hb1':=Hd hb1
  clear hb1
  go_wp2_with fail
  go_ret
  exact ⟨rfl,hb1'.out⟩
 have q1 : ¬ (40 : Int) < (l.length : Int):=by omega
 have q2 : decide ((l.length : Int) > 40) = false:=decide_eq_false (by omega)
 have hl40 : l.length <= 40:=by omega
 have h1:=Hd (h'.out.stays (Stays.of hb1))
 have hstr:=Hd (stream_any _ l W1 h1.out (by omega))
 have hb1':=Hd hb1
 clear hb1 h40
 go_wp2_with fail
 clear q1 q2
 refine hstr.out.mono ?_
 rintro e W2 ⟨v2,rfl,ho2,hb2⟩
 clear hstr
 have h2:=Hd (h1.out.stays (Stays.of hb2))
 have hs2:=Hd ho2.toks
 have hbw:=Hd (hb1'.out.trans (hb2.mono hb1'.out.size))
 obtain ⟨A2,c2,rfl⟩:=ho2.form_
 have hS80 : (streamP l).length <= 80:=by
  have:=streamTo_len l l.length
  unfold streamP
  omega
 clear ho2 hb2 hb1' h1 h'
 obtain ⟨S,hS⟩ : ∃ S,S = streamP l:=⟨_,rfl⟩
 rw [<- hS] at hs2 hS80 ⊢
 replace hS:=Hd hS
 go_wp2_with fail
 go_loopw [4,5] (fun av iv wr=>∃ k : Nat,k <= l.length /\ iv = .int .i64 k /\ av = .int .i64 (streamTo l k).length /\ Hid (Below W2.heap.size W2 wr)) (fun _ iv _=>l.length - (intOf iv).toNat)
 case atStart=>exact ⟨0,by omega,rfl,rfl,Hd (Below.refl _ _)⟩
 case round=>
  obtain ⟨k,hk,rfl,rfl,hbr⟩:=hrel
  rename World=>wr
  have n0 : (0 : Int) <= (k : Int):=by omega
  have hat80 : (streamTo l k).length <= 80:=by have:=streamTo_len l k; omega
  by_cases hlt : k < l.length
  ·have n1 : (k : Int) < (l.length : Int):=by omega
   have hone:=Hd (fun hs=>stream_one (l:=l) hlt hs)
   have htwo:=Hd (fun hs=>stream_two (l:=l) hlt hs)
   have hstep : Hid (stepS l k = if 0 < k /\ (l.getD k PTok.zero).line ≠ (l.getD (k - 1) PTok.zero).line then [brkT l k,l.getD k PTok.zero] else [l.getD k PTok.zero]):=Hd rfl
   have hT:=Hd (h2.out.stays (Stays.of hbr.out))
   have hU:=Hd (hs2.out.stays (Stays.of hbr.out))
   rw [<- hS.out] at hone htwo
   obtain ⟨A',c',e',-,-,hA'⟩:=hT.out
   obtain ⟨rfl,-,rfl⟩:=Value.slice.inj e'
   obtain ⟨b,off,rfl,hb,hi⟩:=hA' (by omega)
   clear e' hA'
   have hit : IsTok wr b (off + k * 4) (l.getD k PTok.zero):=hi k hlt
   have hip : Hid (0 < k -> wr.cell? ⟨b,off + (k - 1) * 4 + 1,none⟩ = some (.int .i64 (l.getD (k - 1) PTok.zero).line)):=Hd (fun h0 : 0 < k=>(hi (k - 1) (by omega)).c1)
   clear hi
   have hbk : Hid (brkT l k = ⟨⟨#[]⟩,(l.getD k PTok.zero).line,0,16384⟩):=Hd rfl
   obtain ⟨n,hn0⟩ : ∃ n,n = (streamTo l k).length:=⟨_,rfl⟩
   rw [<- hn0] at hat80 hone htwo ⊢
   replace hn0:=Hd hn0
   generalize brkT l k = bt at *
   generalize hnx : (streamTo l (k + 1)).length = nx at *
   replace hnx:=Hd hnx
   generalize l.getD k PTok.zero = t at *
   generalize (l.getD (k - 1) PTok.zero).line = pl at *
   obtain ⟨tx,ln,ps,cl⟩:=t
   obtain ⟨d0,d1,d2,d3⟩:=hit
   simp only at d0 d1 d2 d3 hstep hbk
   have X0:=fun (u : Ups wr)=>u.cellAt d0 hb
   have X1:=fun (u : Ups wr)=>u.cellAt d1 hb
   have X2:=fun (u : Ups wr)=>u.cellAt d2 hb
   have X3:=fun (u : Ups wr)=>u.cellAt d3 hb
   have nn0 : (0 : Int) <= (n : Int):=by omega
   have hkc : Hid (k = 0) \/ Hid (0 < k):=by
    rcases Nat.eq_zero_or_pos k with h | h
    ·exact .inl (Hd h)
    ·exact .inr (Hd h)
   rcases hkc with hk0 | hk0
   ·have q0 : ¬ (0 : Int) < (k : Int):=by have:=hk0.out; omega
    have q0b : decide ((0 : Int) < (k : Int)) = false:=decide_eq_false q0
    have q0c : ¬ 0 < k:=by omega
    have q0d : decide (0 < k) = false:=decide_eq_false q0c
    have hst : stepS l k = [⟨tx,ln,ps,cl⟩]:=by rw [hstep.out,if_neg (fun h=>q0c h.1)]
    replace hst:=Hd hst
    go_upto_region 10 with fail
    refine wp_region_ups rfl (by kernel_rfl) ?_
    repeat (go_big_quiet_step (fail))
    refine wpQuiet_nil ?_
    rintro w' ⟨u,rfl⟩
    have hbu:=Hd (hbr.out.trans (u.up.mono hbr.out.size))
    have hup:=Hd u.up
    clear X0 X1 X2 X3
    generalize u.wld = wz at *
    have e0:=(hup.out.cell (p:=⟨b,off + k * 4,none⟩) hb).trans d0
    have e1:=(hup.out.cell (p:=⟨b,off + k * 4 + 1,none⟩) hb).trans d1
    have e2:=(hup.out.cell (p:=⟨b,off + k * 4 + 2,none⟩) hb).trans d2
    have e3:=(hup.out.cell (p:=⟨b,off + k * 4 + 3,none⟩) hb).trans d3
    have hbz:=Nat.lt_of_lt_of_le hb hup.out.size
    clear d0 d1 d2 d3
    have h3:=hone.out hst.out
    obtain ⟨g1,g2,g3⟩:=h3
    have g1' : ¬ (S.length : Int) <= (n : Int):=by omega
    have g1'' : decide ((n : Int) ≥ (S.length : Int)) = false:=decide_eq_false (by omega)
    have g1d : (n : Int) < (S.length : Int):=by omega
    obtain ⟨A',c',e',-,-,hA'⟩:=hU.out.stays (Stays.of hup.out)
    obtain ⟨rfl,-,rfl⟩:=Value.slice.inj e'
    obtain ⟨b5,o5,rfl,hb5,hi5⟩:=hA' (by omega)
    have hi6 : IsTok wz b5 (o5 + n * 4) (S.getD n PTok.zero):=hi5 n g1
    rw [g2] at hi6
    obtain ⟨f0,f1,f2,f3⟩:=hi6
    simp only at f0 f1 f2 f3
    clear hA' hi5 e'
    replace g3:=Hd g3
    replace g2:=Hd g2
    have F0:=fun (u : Ups wz)=>u.cellAt f0 hb5
    have F1:=fun (u : Ups wz)=>u.cellAt f1 hb5
    have F2:=fun (u : Ups wz)=>u.cellAt f2 hb5
    have F3:=fun (u : Ups wz)=>u.cellAt f3 hb5
    have E0:=fun (u : Ups wz)=>u.cellAt e0 hbz
    have E1:=fun (u : Ups wz)=>u.cellAt e1 hbz
    have E2:=fun (u : Ups wz)=>u.cellAt e2 hbz
    have E3:=fun (u : Ups wz)=>u.cellAt e3 hbz
    clear hone htwo hstep
    go_upto_region 14 with fail
    refine wp_region_ups rfl (by kernel_rfl) ?_
    repeat (go_big_quiet_step (fail))
    refine wpQuiet_nil ?_
    rintro w' ⟨u,rfl⟩
    have hbe:=Hd (hbu.out.trans (u.up.mono hbu.out.size))
    clear F0 F1 F2 F3 E0 E1 E2 E3
    generalize u.wld = wy at *
    go_wp2_with fail
    go_roundw
    case rel=>exact ⟨k + 1,by omega,by go_num,by rw [hnx.out,g3.out]; go_num,hbe⟩
    case measure=>simp [intOf]; omega
   ·by_cases hln0 : ln = pl
    ·have e1 : (ln != pl) = false:=by simpa using hln0
     have hst : stepS l k = [⟨tx,ln,ps,cl⟩]:=by rw [hstep.out,if_neg (fun h=>h.2 hln0)]
     replace hst:=Hd hst
     clear hln0
     have q0 : (0 : Int) < (k : Int):=by have:=hk0.out; omega
     have q0b : decide ((0 : Int) < (k : Int)) = true:=decide_eq_true q0
     have q0c : 0 < k:=by omega
     have q0d : decide (0 < k) = true:=decide_eq_true q0c
     have q2 : (0 : Int) <= (k : Int) - 1:=by omega
     have q3 : (k : Int) - 1 < (l.length : Int):=by omega
     have q4:=wrap_pred hk0.out (show k <= 1000000 by omega)
     have q5:=toNat_pred hk0.out
     have p0:=fun (u : Ups wr)=>u.cellAt (hip.out hk0.out) hb
     go_upto_region 10 with fail
     refine wp_region_ups rfl (by kernel_rfl) ?_
     repeat (go_big_quiet_step (fail))
     refine wpQuiet_nil ?_
     rintro w' ⟨u,rfl⟩
     have hbu:=Hd (hbr.out.trans (u.up.mono hbr.out.size))
     have hup:=Hd u.up
     clear X0 X1 X2 X3 p0
     generalize u.wld = wz at *
     have e0:=(hup.out.cell (p:=⟨b,off + k * 4,none⟩) hb).trans d0
     have e1x:=(hup.out.cell (p:=⟨b,off + k * 4 + 1,none⟩) hb).trans d1
     have e2:=(hup.out.cell (p:=⟨b,off + k * 4 + 2,none⟩) hb).trans d2
     have e3:=(hup.out.cell (p:=⟨b,off + k * 4 + 3,none⟩) hb).trans d3
     have hbz:=Nat.lt_of_lt_of_le hb hup.out.size
     clear d0 d1 d2 d3
     have h3:=hone.out hst.out
     obtain ⟨g1,g2,g3⟩:=h3
     have g1' : ¬ (S.length : Int) <= (n : Int):=by omega
     have g1'' : decide ((n : Int) ≥ (S.length : Int)) = false:=decide_eq_false (by omega)
     have g1d : (n : Int) < (S.length : Int):=by omega
     obtain ⟨A',c',e',-,-,hA'⟩:=hU.out.stays (Stays.of hup.out)
     obtain ⟨rfl,-,rfl⟩:=Value.slice.inj e'
     obtain ⟨b5,o5,rfl,hb5,hi5⟩:=hA' (by omega)
     have hi6 : IsTok wz b5 (o5 + n * 4) (S.getD n PTok.zero):=hi5 n g1
     rw [g2] at hi6
     obtain ⟨f0,f1,f2,f3⟩:=hi6
     simp only at f0 f1 f2 f3
     clear hA' hi5 e'
     replace g3:=Hd g3
     replace g2:=Hd g2
     have F0:=fun (u : Ups wz)=>u.cellAt f0 hb5
     have F1:=fun (u : Ups wz)=>u.cellAt f1 hb5
     have F2:=fun (u : Ups wz)=>u.cellAt f2 hb5
     have F3:=fun (u : Ups wz)=>u.cellAt f3 hb5
     have E0:=fun (u : Ups wz)=>u.cellAt e0 hbz
     have E1:=fun (u : Ups wz)=>u.cellAt e1x hbz
     have E2:=fun (u : Ups wz)=>u.cellAt e2 hbz
     have E3:=fun (u : Ups wz)=>u.cellAt e3 hbz
     clear hone htwo hstep
     go_upto_region 14 with fail
     refine wp_region_ups rfl (by kernel_rfl) ?_
     repeat (go_big_quiet_step (fail))
     refine wpQuiet_nil ?_
     rintro w' ⟨u,rfl⟩
     have hbe:=Hd (hbu.out.trans (u.up.mono hbu.out.size))
     clear F0 F1 F2 F3 E0 E1 E2 E3
     generalize u.wld = wy at *
     go_wp2_with fail
     go_roundw
     case rel=>exact ⟨k + 1,by omega,by go_num,by rw [hnx.out,g3.out]; go_num,hbe⟩
     case measure=>simp [intOf]; omega
    ·have e1 : (ln != pl) = true:=by simpa using hln0
     have hst : stepS l k = [bt,⟨tx,ln,ps,cl⟩]:=by rw [hstep.out,if_pos ⟨hk0.out,hln0⟩]
     replace hst:=Hd hst
     clear hln0
     have q0 : (0 : Int) < (k : Int):=by have:=hk0.out; omega
     have q0b : decide ((0 : Int) < (k : Int)) = true:=decide_eq_true q0
     have q0c : 0 < k:=by omega
     have q0d : decide (0 < k) = true:=decide_eq_true q0c
     have q2 : (0 : Int) <= (k : Int) - 1:=by omega
     have q3 : (k : Int) - 1 < (l.length : Int):=by omega
     have q4:=wrap_pred hk0.out (show k <= 1000000 by omega)
     have q5:=toNat_pred hk0.out
     have p0:=fun (u : Ups wr)=>u.cellAt (hip.out hk0.out) hb
     go_upto_region 10 with fail
     refine wp_region_ups rfl (by kernel_rfl) ?_
     repeat (go_big_quiet_step (fail))
     refine wpQuiet_nil ?_
     rintro w' ⟨u,rfl⟩
     have hbu:=Hd (hbr.out.trans (u.up.mono hbr.out.size))
     have hup:=Hd u.up
     clear X0 X1 X2 X3 p0
     generalize u.wld = wz at *
     have e0:=(hup.out.cell (p:=⟨b,off + k * 4,none⟩) hb).trans d0
     have e1x:=(hup.out.cell (p:=⟨b,off + k * 4 + 1,none⟩) hb).trans d1
     have e2:=(hup.out.cell (p:=⟨b,off + k * 4 + 2,none⟩) hb).trans d2
     have e3:=(hup.out.cell (p:=⟨b,off + k * 4 + 3,none⟩) hb).trans d3
     have hbz:=Nat.lt_of_lt_of_le hb hup.out.size
     clear d0 d1 d2 d3
     clear e1
     have h3:=htwo.out hst.out
     obtain ⟨g1,g2,g2b,g3⟩:=h3
     have g1' : ¬ (S.length : Int) <= (n : Int):=by omega
     have g1'' : decide ((n : Int) ≥ (S.length : Int)) = false:=decide_eq_false (by omega)
     have g1d : (n : Int) < (S.length : Int):=by omega
     have gg1 : ¬ (S.length : Int) <= (n : Int) + 1:=by omega
     have gg1'' : decide ((n : Int) + 1 ≥ (S.length : Int)) = false:=decide_eq_false (by omega)
     have gg1d : (n : Int) + 1 < (S.length : Int):=by omega
     have gg2 : ((n : Int) + 1).toNat = n + 1:=by omega
     have gg3 : (0 : Int) <= (n : Int) + 1:=by omega
     obtain ⟨A',c',e',-,-,hA'⟩:=hU.out.stays (Stays.of hup.out)
     obtain ⟨rfl,-,rfl⟩:=Value.slice.inj e'
     obtain ⟨b5,o5,rfl,hb5,hi5⟩:=hA' (by omega)
     have hi6 : IsTok wz b5 (o5 + n * 4) (S.getD n PTok.zero):=hi5 n (by omega)
     have hi7 : IsTok wz b5 (o5 + (n + 1) * 4) (S.getD (n + 1) PTok.zero):=hi5 (n + 1) g1
     rw [g2,hbk.out] at hi6
     rw [g2b] at hi7
     obtain ⟨f0,f1,f2,f3⟩:=hi6
     simp only at f0 f1 f2 f3
     obtain ⟨f4,f5,f6,f7⟩:=hi7
     simp only at f4 f5 f6 f7
     clear hA' hi5 e'
     replace g3:=Hd g3
     replace g2:=Hd g2
     replace g2b:=Hd g2b
     have F0:=fun (u : Ups wz)=>u.cellAt f0 hb5
     have F1:=fun (u : Ups wz)=>u.cellAt f1 hb5
     have F2:=fun (u : Ups wz)=>u.cellAt f2 hb5
     have F3:=fun (u : Ups wz)=>u.cellAt f3 hb5
     have E1:=fun (u : Ups wz)=>u.cellAt e1x hbz
     clear hone htwo hstep
     go_upto_region 11 with fail
     refine wp_region_ups rfl (by kernel_rfl) ?_
     repeat (go_big_quiet_step (fail))
     refine wpQuiet_nil ?_
     rintro w' ⟨u,rfl⟩
     have hbv:=Hd (hbu.out.trans (u.up.mono hbu.out.size))
     have hbq:=Hd u.up
     clear F0 F1 F2 F3 E1 f0 f1 f2 f3
     generalize u.wld = wq at *
     have hbzq:=Nat.lt_of_lt_of_le hbz hbq.out.size
     have hb5q:=Nat.lt_of_lt_of_le hb5 hbq.out.size
     have F0:=fun (u : Ups wq)=>u.cellAt ((hbq.out.cell (p:=⟨b5,o5 + (n + 1) * 4,none⟩) hb5).trans f4) hb5q
     have F1:=fun (u : Ups wq)=>u.cellAt ((hbq.out.cell (p:=⟨b5,o5 + (n + 1) * 4 + 1,none⟩) hb5).trans f5) hb5q
     have F2:=fun (u : Ups wq)=>u.cellAt ((hbq.out.cell (p:=⟨b5,o5 + (n + 1) * 4 + 2,none⟩) hb5).trans f6) hb5q
     have F3:=fun (u : Ups wq)=>u.cellAt ((hbq.out.cell (p:=⟨b5,o5 + (n + 1) * 4 + 3,none⟩) hb5).trans f7) hb5q
     have E0:=fun (u : Ups wq)=>u.cellAt ((hbq.out.cell (p:=⟨b,off + k * 4,none⟩) hbz).trans e0) hbzq
     have E1:=fun (u : Ups wq)=>u.cellAt ((hbq.out.cell (p:=⟨b,off + k * 4 + 1,none⟩) hbz).trans e1x) hbzq
     have E2:=fun (u : Ups wq)=>u.cellAt ((hbq.out.cell (p:=⟨b,off + k * 4 + 2,none⟩) hbz).trans e2) hbzq
     have E3:=fun (u : Ups wq)=>u.cellAt ((hbq.out.cell (p:=⟨b,off + k * 4 + 3,none⟩) hbz).trans e3) hbzq
     clear f4 f5 f6 f7 e0 e1x e2 e3
     go_upto_region 14 with fail
     refine wp_region_ups rfl (by kernel_rfl) ?_
     repeat (go_big_quiet_step (fail))
     refine wpQuiet_nil ?_
     rintro w' ⟨u,rfl⟩
     have hbe:=Hd (hbv.out.trans (u.up.mono hbv.out.size))
     clear F0 F1 F2 F3 E0 E1 E2 E3
     generalize u.wld = wy at *
     go_wp2_with fail
     go_roundw
     case rel=>exact ⟨k + 1,by omega,by go_num,by rw [hnx.out,g3.out]; go_num,hbe⟩
     case measure=>simp [intOf]; omega
  ·obtain rfl : k = l.length:=by omega
   have hfin : Hid ((streamTo l l.length).length = S.length):=Hd (by rw [hS.out]; rfl)
   rw [hfin.out]
   have hbb:=Hd (hbw.out.trans (hbr.out.mono hbw.out.size))
   go_wp2_with fail
   go_ret
   exact ⟨by simp,hbb.out⟩
end
end Go.Proofs.YteclineblddpbaaGreatDoorR
