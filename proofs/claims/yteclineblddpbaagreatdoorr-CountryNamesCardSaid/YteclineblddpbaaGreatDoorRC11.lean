import Derived.Test.YteclineblddpbaaGreatDoorRC01
import Derived.Test.YteclineblddpbaaGreatDoorRC02
import Derived.Test.YteclineblddpbaaGreatDoorRC10
import Derived.Laws.CopyOwn
set_option linter.all false
set_option maxRecDepth 100000
set_option maxHeartbeats 0
namespace Go.Proofs.YteclineblddpbaaGreatDoorR
section
open Go.RowKit Go.Maps
def FineParts (ps : List PPart) : Prop:=∀ p ∈ ps,p.text.size <= 1000000 /\ 0 <= p.kind /\ p.kind <= 255
theorem right_reading (c : Int) (v : Value) (ps : List PPart) (w : World) (hv : IsParts w v ps) (hps : FineParts ps) :
  Calls Tryz.prog 22 #[.agg #[.int .u8 c,v]] w fun e w'=>e = .returned (.bool (rightP c ps)) /\ Below w.heap.size w w':=by
 have hb : Below w.heap.size w (w.alloc (.cells #[.int .u8 c,v] 42)):=(Below.refl _ _).alloc (lQ _) _
 have hc:=Hd (partsOf_any c v ps (w.alloc (.cells #[.int .u8 c,v] 42)) (hv.stays (Stays.of hb)) hps)
 obtain ⟨A,cc,rfl,-,-,-⟩:=hv
 go_enter Tryz.func22,Tryz.ntmps22
 go_wp2_with fail
 refine hc.out.mono ?_
 rintro e w2 ⟨fd,rfl,hl,-,hb2⟩
 have hend:=hb.trans (hb2.mono hb.size)
 clear hc hb2 hb
 have hst : Sem.run Tryz.prog (storeCells ⟨w2.heap.size,0,none⟩ (fd.map Value.string)) (w2.alloc (.cells zc11 109)) = .ok () (w2.alloc (.cells (fd.map Value.string).toArray 109)):=
  run_storeCells_new w2 109 zc11 (fd.map Value.string).toArray (by rw [info109]; simp [hl]) (by simp [hl]; rfl) (one_strs fd)
 unfold zc11 at hst
 go_wp2
 go_ret
 exact ⟨rfl,hend.alloc hend.size _⟩
end
section
open Go.RowKit Go.Maps
structure PTok where
 text : ByteArray
 line : Int
 pos : Int
 cls : Int
def PTok.zero : PTok:=⟨⟨#[]⟩,0,0,0⟩
def tokCells (t : PTok) : List Value:=[.string t.text,.int .i64 t.line,.int .i64 t.pos,.int .u16 t.cls]
structure IsTok (w : World) (b o : Nat) (t : PTok) : Prop where
 c0 : w.cell? ⟨b,o,none⟩ = some (.string t.text)
 c1 : w.cell? ⟨b,o + 1,none⟩ = some (.int .i64 t.line)
 c2 : w.cell? ⟨b,o + 2,none⟩ = some (.int .i64 t.pos)
 c3 : w.cell? ⟨b,o + 3,none⟩ = some (.int .u16 t.cls)
theorem IsTok.stays {w w' : World} {b o : Nat} {t : PTok} (h : IsTok w b o t) (hs : Stays w w') (hb : b < w.heap.size) : IsTok w' b o t:=
 ⟨(hs.2 ⟨b,_,none⟩ hb).trans h.c0,(hs.2 ⟨b,_,none⟩ hb).trans h.c1,(hs.2 ⟨b,_,none⟩ hb).trans h.c2,(hs.2 ⟨b,_,none⟩ hb).trans h.c3⟩
def IsToks (w : World) (v : Value) (l : List PTok) : Prop:=Sl w v l.length fun b off i=>IsTok w b (off + i * 4) (l.getD i PTok.zero)
theorem IsToks.stays {w w' : World} {v : Value} {l : List PTok} (h : IsToks w v l) (hs : Stays w w') : IsToks w' v l:=Sl.stays h hs fun _ _ _ hb _ hr=>hr.stays hs hb
def tokIn (_ : Nat -> Prop) (_ : World) (_ : PTok) : Prop:=True
theorem tokIn_inner : Inner tokIn:=⟨fun h _ _=>h⟩
abbrev OwnToks:=OwnL 39 4 tokCells tokIn
theorem OwnToks.toks {base : Nat} {w : World} {v : Value} {l : List PTok} (h : OwnToks base w v l) : IsToks w v l:=by
 have hsl:=OwnL.sl h (fun _=>rfl)
 exact SlP.plain hsl fun b off i _ _ hi hr=>by
  have h0:=hr.2.2 hi 0 (by omega)
  have h1:=hr.2.2 hi 1 (by omega)
  have h2:=hr.2.2 hi 2 (by omega)
  have h3:=hr.2.2 hi 3 (by omega)
  rw [getD_at _ _ _ hi]
  exact ⟨h0,h1,h2,h3⟩
theorem info39 : (Tryz.prog.info? 39).map (fun i=>(i.zero,i.size,i.bytes)) = some (some (.agg #[.string ⟨#[]⟩,.int .i64 0,.int .i64 0,.int .u16 0]),4,40):=by kernel_rfl
def stepS (l : List PTok) (k : Nat) : List PTok:=
 if 0 < k /\ (l.getD k PTok.zero).line ≠ (l.getD (k - 1) PTok.zero).line then [⟨⟨#[]⟩,(l.getD k PTok.zero).line,0,16384⟩,l.getD k PTok.zero] else [l.getD k PTok.zero]
def streamTo (l : List PTok) : Nat -> List PTok
 | 0=>[]
 | k + 1=>streamTo l k ++ stepS l k
def streamP (l : List PTok) : List PTok:=streamTo l l.length
theorem streamTo_len (l : List PTok) : ∀ k,(streamTo l k).length <= 2 * k
 | 0=>lQ _
 | k + 1=>by
  have ih:=streamTo_len l k
  rw [streamTo,List.length_append]
  unfold stepS
  split <;> simp <;> omega
theorem one4 {a b c d : Value} (ha : a.oneCell' = true) (hb : b.oneCell' = true) (hc : c.oneCell' = true) (hd : d.oneCell' = true) : ∀ u ∈ [a,b,c,d],u.oneCell' = true:=by
 intro u hu
 rcases List.mem_cons.1 hu with rfl | hu
 ·exact ha
 ·exact one3 hb hc hd u hu
theorem Blk.ups {W : World} {g : Nat} {t : TypeId} {cs : Array Value} (h : Blk W g t cs) (u : Ups W) : Blk u.wld g t cs:=h.below u.up h.lt
theorem Blk.grown_ {w w' : World} {g : Nat} {t : TypeId} {cs : Array Value} {row : Option Nat} (h : Blk w g t cs) (hg : w.grownBy w' row) (hne : some g ≠ row) : Blk w' g t cs:=(hg.block g h.lt hne).trans h
theorem toNat_pred {j : Nat} (h : 0 < j) : ((j : Int) - 1).toNat = j - 1:=by omega
theorem wrap_pred {j : Nat} (h : 0 < j) (hj : j <= 1000000) : IntKind.i64.wrap ((j : Int) - 1) = (j : Int) - 1:=by simp [IntKind.wrap,IntKind.bits,IntKind.signed]; omega
theorem stream_any (v : Value) (l : List PTok) (w : World) (h : IsToks w v l) (hl : l.length <= 1000) :
  Calls Tryz.prog 13 #[v] w fun e w'=>∃ v',e = .returned v' /\ OwnToks w.heap.size w' v' (streamP l) /\ Below w.heap.size w w':=by
 obtain ⟨A,c,rfl,hn,hcm,hA⟩:=h
 have hA:=Hd hA
 unfold maxLen at hcm
 obtain ⟨i0,hi0,hz0,hz1,hz2⟩:=info_parts info39
 go_enter Tryz.func13,Tryz.ntmps13
 go_wp2
 go_loopw [3,8] (fun ov iv wr=>∃ (k : Nat) (o : List PTok),k <= l.length /\ iv = .int .i64 k /\ Below w.heap.size w wr /\ OwnToks w.heap.size wr ov o /\ Hid (o = streamTo l k))
  (fun _ iv _=>l.length - (intOf iv).toNat)
 case atStart=>exact ⟨0,[],by omega,rfl,Below.refl _ _,OwnL.nil_,rfl⟩
 case round=>
  obtain ⟨k,o,hk,rfl,hbw,hown,ho⟩:=hrel
  rename World=>wr
  have n0 : (0 : Int) <= (k : Int):=by omega
  have hol : o.length <= 2000:=by have:=streamTo_len l k; rw [ho.out]; omega
  obtain ⟨A3,c3,rfl⟩:=hown.form_
  have hown':=Hd hown
  clear hown
  by_cases hlt : k < l.length
  ·have n1 : (k : Int) < (l.length : Int):=by omega
   obtain ⟨b,off,rfl,hb,hi⟩:=hA.out (by omega)
   have hit:=(hi k hlt).stays (Stays.of hbw) hb
   have hip:=Hd (fun h0 : 0 < k=>((hi (k - 1) (by omega)).stays (Stays.of hbw) hb).c1)
   have hst:=Hd (show streamTo l (k + 1) = o ++ stepS l k by rw [ho.out]; rfl)
   unfold stepS at hst
   generalize l.getD k PTok.zero = t at *
   generalize (l.getD (k - 1) PTok.zero).line = pl at *
   obtain ⟨tx,ln,ps,cl⟩:=t
   obtain ⟨d0,d1,d2,d3⟩:=hit
   simp only at d0 d1 d2 d3
   have hbr : b < wr.heap.size:=Nat.lt_of_lt_of_le hb hbw.size
   have hup:=Hd ((Below.refl wr.heap.size wr).alloc (lQ _) (.cells #[.string tx,.int .i64 ln,.int .i64 ps,.int .u16 cl] 39))
   have kT:=Hd (Blk.new wr 39 #[.string tx,.int .i64 ln,.int .i64 ps,.int .u16 cl])
   go_upto_region 5 with fail
   clear d0 d1 d2 d3
   generalize wr.alloc (.cells #[.string tx,.int .i64 ln,.int .i64 ps,.int .u16 cl] 39) = wx at *
   have y1:=fun (u : Ups wx)=>(kT.out.ups u).cell 1
   simp at y1
   have hkc : Hid (k = 0) \/ Hid (0 < k):=by
    rcases Nat.eq_zero_or_pos k with h | h
    ·exact .inl (Hd h)
    ·exact .inr (Hd h)
   rcases hkc with hk0 | hk0
   ·have q0 : ¬ (0 : Int) < (k : Int):=by have:=hk0.out; omega
    have q0b : decide ((0 : Int) < (k : Int)) = false:=decide_eq_false q0
    have q0c : ¬ 0 < k:=by omega
    have q0d : decide (0 < k) = false:=decide_eq_false q0c
    refine wp_region_ups rfl (by kernel_rfl) ?_
    repeat (go_big_quiet_step (fail))
    refine wpQuiet_nil ?_
    rintro w' ⟨u,rfl⟩
    have hu:=Hd (hup.out.trans (u.up.mono hup.out.size))
    have kU:=Hd (kT.out.ups u)
    clear y1
    generalize u.wld = wz at *
    have z0:=kU.out.cell 0
    have z1:=kU.out.cell 1
    have z2:=kU.out.cell 2
    have z3:=kU.out.cell 3
    have lZ:=kU.out.lt
    simp at z0 z1 z2 z3
    have hw3:=hu.out.alloc hu.out.size (.cells #[.string tx,.int .i64 ln,.int .i64 ps,.int .u16 cl] 39)
    have hoA:=Hd (hown'.out.keep tokIn_inner (Keeps.of_below hw3 _))
    have hs0:=hbw.size
    have hs1:=hu.out.size
    have sd1 : o.length + 1 <= maxLen:=by unfold maxLen; omega
    have sd4 : (o.length + 1) * 40 <= 140737488355328:=by omega
    go_wp2_with (at_builtin; refine wpList_append_lies _ rfl (.tmp 32) (.tmp 34) 23 rfl w.heap.size 39 i0 (.agg #[.string ⟨#[]⟩,.int .i64 0,.int .i64 0,.int .u16 0]) 4 40 Tryz.underlying23 hi0 hz0 hz1 hz2 rfl (by decide) (.slice A3 o.length c3) o.length (o.flatMap tokCells) rfl (by exact hoA.out.1) ⟨wz.heap.size,0,none⟩ 1 1 [.string tx,.int .i64 ln,.int .i64 ps,.int .u16 cl] rfl rfl (by exact World.news_of_block (cs:=#[.string tx,.int .i64 ln,.int .i64 ps,.int .u16 cl]) (heap_alloc_new _ _)) (one4 rfl rfl rfl rfl) Nat.one_pos sd1 sd4 (by simp; omega) (wz.heap.size + 1) (by simp) ?_; intro g9 cap9 w9 hown9 hgr9 hat9 hlt9)
    have hR:=slot_append tokIn_inner (a:=(⟨tx,ln,ps,cl⟩ : PTok)) hbw hown'.out hw3 (lQ _) hbw.size trivial hown9 rfl hgr9 (hat9.imp_right (fun e=>by simp [e]))
    clear hown9 hgr9 hat9 hlt9
    go_roundw
    case rel=>exact ⟨k + 1,_,by omega,by go_num,hR.1,by simpa using hR.2,Hd (by rw [hst.out,if_neg (fun h=>absurd h.1 q0c)])⟩
    case measure=>simp [intOf]; omega
   ·by_cases hln0 : ln = pl
    ·have e1 : (ln != pl) = false:=by simpa using hln0
     have hln:=Hd hln0
     clear hln0
     have q0 : (0 : Int) < (k : Int):=by have:=hk0.out; omega
     have q0b : decide ((0 : Int) < (k : Int)) = true:=decide_eq_true q0
     have q0c : 0 < k:=by omega
     have q0d : decide (0 < k) = true:=decide_eq_true q0c
     have q1 : (0 : Int) <= (k : Int) - 1:=by omega
     have q2 : (k : Int) - 1 < (l.length : Int):=by omega
     have q3:=wrap_pred hk0.out (show k <= 1000000 by omega)
     have q4:=toNat_pred hk0.out
     have p0:=fun (u : Ups wx)=>((hup.out.trans (u.up.mono hup.out.size)).cell (p:=⟨b,off + (k - 1) * 4 + 1,none⟩) hbr).trans (hip.out hk0.out)
     refine wp_region_ups rfl (by kernel_rfl) ?_
     repeat (go_big_quiet_step (fail))
     refine wpQuiet_nil ?_
     rintro w' ⟨u,rfl⟩
     have hu:=Hd (hup.out.trans (u.up.mono hup.out.size))
     have kU:=Hd (kT.out.ups u)
     clear y1 p0
     generalize u.wld = wz at *
     have z0:=kU.out.cell 0
     have z1:=kU.out.cell 1
     have z2:=kU.out.cell 2
     have z3:=kU.out.cell 3
     have lZ:=kU.out.lt
     simp at z0 z1 z2 z3
     have hw3:=hu.out.alloc hu.out.size (.cells #[.string tx,.int .i64 ln,.int .i64 ps,.int .u16 cl] 39)
     have hoA:=Hd (hown'.out.keep tokIn_inner (Keeps.of_below hw3 _))
     have hs0:=hbw.size
     have hs1:=hu.out.size
     have sd1 : o.length + 1 <= maxLen:=by unfold maxLen; omega
     have sd4 : (o.length + 1) * 40 <= 140737488355328:=by omega
     go_wp2_with (at_builtin; refine wpList_append_lies _ rfl (.tmp 32) (.tmp 34) 23 rfl w.heap.size 39 i0 (.agg #[.string ⟨#[]⟩,.int .i64 0,.int .i64 0,.int .u16 0]) 4 40 Tryz.underlying23 hi0 hz0 hz1 hz2 rfl (by decide) (.slice A3 o.length c3) o.length (o.flatMap tokCells) rfl (by exact hoA.out.1) ⟨wz.heap.size,0,none⟩ 1 1 [.string tx,.int .i64 ln,.int .i64 ps,.int .u16 cl] rfl rfl (by exact World.news_of_block (cs:=#[.string tx,.int .i64 ln,.int .i64 ps,.int .u16 cl]) (heap_alloc_new _ _)) (one4 rfl rfl rfl rfl) Nat.one_pos sd1 sd4 (by simp; omega) (wz.heap.size + 1) (by simp) ?_; intro g9 cap9 w9 hown9 hgr9 hat9 hlt9)
     have hR:=slot_append tokIn_inner (a:=(⟨tx,ln,ps,cl⟩ : PTok)) hbw hown'.out hw3 (lQ _) hbw.size trivial hown9 rfl hgr9 (hat9.imp_right (fun e=>by simp [e]))
     clear hown9 hgr9 hat9 hlt9
     go_roundw
     case rel=>exact ⟨k + 1,_,by omega,by go_num,hR.1,by simpa using hR.2,Hd (by rw [hst.out,if_neg (fun h=>h.2 hln.out)])⟩
     case measure=>simp [intOf]; omega
    ·have e1 : (ln != pl) = true:=by simpa using hln0
     have hln:=Hd hln0
     clear hln0
     have q0 : (0 : Int) < (k : Int):=by have:=hk0.out; omega
     have q0b : decide ((0 : Int) < (k : Int)) = true:=decide_eq_true q0
     have q0c : 0 < k:=by omega
     have q0d : decide (0 < k) = true:=decide_eq_true q0c
     have q1 : (0 : Int) <= (k : Int) - 1:=by omega
     have q2 : (k : Int) - 1 < (l.length : Int):=by omega
     have q3:=wrap_pred hk0.out (show k <= 1000000 by omega)
     have q4:=toNat_pred hk0.out
     have p0:=fun (u : Ups wx)=>((hup.out.trans (u.up.mono hup.out.size)).cell (p:=⟨b,off + (k - 1) * 4 + 1,none⟩) hbr).trans (hip.out hk0.out)
     refine wp_region_ups rfl (by kernel_rfl) ?_
     repeat (go_big_quiet_step (fail))
     refine wpQuiet_nil ?_
     rintro w' ⟨u,rfl⟩
     have hu:=Hd (hup.out.trans (u.up.mono hup.out.size))
     have kU:=Hd (kT.out.ups u)
     clear y1 p0
     generalize u.wld = wz at *
     have z1:=kU.out.cell 1
     have lZ:=kU.out.lt
     simp at z1
     have hwB:=hu.out.alloc hu.out.size (.cells #[.string ⟨#[]⟩,.int .i64 ln,.int .i64 0,.int .u16 16384] 39)
     have hoA:=Hd (hown'.out.keep tokIn_inner (Keeps.of_below hwB _))
     have hs0:=hbw.size
     have hs1:=hu.out.size
     have sd1 : o.length + 1 <= maxLen:=by unfold maxLen; omega
     have sd4 : (o.length + 1) * 40 <= 140737488355328:=by omega
     go_upto_region 6 with fail
     go_upto_region 7 with (at_builtin; refine wpList_append_lies _ rfl (.tmp 26) (.tmp 30) 23 rfl w.heap.size 39 i0 (.agg #[.string ⟨#[]⟩,.int .i64 0,.int .i64 0,.int .u16 0]) 4 40 Tryz.underlying23 hi0 hz0 hz1 hz2 rfl (by decide) (.slice A3 o.length c3) o.length (o.flatMap tokCells) rfl (by exact hoA.out.1) ⟨wz.heap.size,0,none⟩ 1 1 [.string ⟨#[]⟩,.int .i64 ln,.int .i64 0,.int .u16 16384] rfl rfl (by exact World.news_of_block (cs:=#[.string ⟨#[]⟩,.int .i64 ln,.int .i64 0,.int .u16 16384]) (heap_alloc_new _ _)) (one4 rfl rfl rfl rfl) Nat.one_pos sd1 sd4 (by simp; omega) (wz.heap.size + 1) (by simp) ?_; intro g5 cap5 w5 hown5 hgr5 hat5 hlt5)
     have hR5:=slot_append tokIn_inner (a:=(⟨⟨#[]⟩,ln,0,16384⟩ : PTok)) hbw hown'.out hwB (lQ _) hbw.size trivial hown5 rfl hgr5 (hat5.imp_right (fun e=>by simp [e]))
     have hNe : Hid (∀ h,(Value.slice A3 o.length c3).ownBlock = some h -> h < wr.heap.size):=Hd fun h e=>(hown'.out.1.lt h e).2
     have kU5:=Hd ((kU.out.alloc (.cells #[.string ⟨#[]⟩,.int .i64 ln,.int .i64 0,.int .u16 16384] 39)).grown_ hgr5 (fun e=>by have:=hNe.out _ e.symm; omega))
     have hb5:=Hd hR5.1
     obtain ⟨o2,ho2⟩ : ∃ o2,o2 = o ++ [(⟨⟨#[]⟩,ln,0,16384⟩ : PTok)]:=⟨_,rfl⟩
     have hown5':=Hd hR5.2
     rw [<- ho2] at hown5'
     have hlen2 : Hid (o2.length = o.length + 1):=Hd (by rw [ho2,List.length_append]; rfl)
     have ho2:=Hd ho2
     clear hown5 hgr5 hat5 hR5 hwB hoA hs0 hs1 sd1 sd4
     have z0:=kU5.out.cell 0
     have z1:=kU5.out.cell 1
     have z2:=kU5.out.cell 2
     have z3:=kU5.out.cell 3
     have lZ:=kU5.out.lt
     simp at z0 z1 z2 z3
     have hw3:=(Below.refl w5.heap.size w5).alloc (Below.refl w5.heap.size w5).size (.cells #[.string tx,.int .i64 ln,.int .i64 ps,.int .u16 cl] 39)
     have hoA:=Hd (hown5'.out.keep tokIn_inner (Keeps.of_below hw3 _))
     have hs0:=hb5.out.size
     have hs1:=(Below.refl w5.heap.size w5).size
     have sd1 : (o.length + 1) + 1 <= maxLen:=by unfold maxLen; omega
     have sd4 : ((o.length + 1) + 1) * 40 <= 140737488355328:=by omega
     have hoW:=Hd hoA.out.1
     rw [hlen2.out] at hoW
     go_wp2_with (at_builtin; refine wpList_append_lies _ rfl (.tmp 32) (.tmp 34) 23 rfl w.heap.size 39 i0 (.agg #[.string ⟨#[]⟩,.int .i64 0,.int .i64 0,.int .u16 0]) 4 40 Tryz.underlying23 hi0 hz0 hz1 hz2 rfl (by decide) (.slice (some ⟨g5,0,none⟩) (o.length + 1) cap5) (o.length + 1) (o2.flatMap tokCells) rfl (by exact hoW.out) ⟨w5.heap.size,0,none⟩ 1 1 [.string tx,.int .i64 ln,.int .i64 ps,.int .u16 cl] rfl rfl (by exact World.news_of_block (cs:=#[.string tx,.int .i64 ln,.int .i64 ps,.int .u16 cl]) (heap_alloc_new _ _)) (one4 rfl rfl rfl rfl) Nat.one_pos sd1 sd4 (by simp; omega) (w5.heap.size + 1) (by simp) ?_; intro g9 cap9 w9 hown9 hgr9 hat9 hlt9)
     have hR:=slot_append tokIn_inner (a:=(⟨tx,ln,ps,cl⟩ : PTok)) hb5.out hown5'.out hw3 (lQ _) hb5.out.size trivial hown9 (by have:=hlen2.out; omega) hgr9 (hat9.imp_right (fun e=>by simp [e]))
     clear hown9 hgr9 hat9 hlt9
     go_roundw
     case rel=>exact ⟨k + 1,_,by omega,by go_num,hR.1,by simpa using hR.2,Hd (by rw [hst.out,if_pos ⟨hk0.out,hln.out⟩,ho2.out]; simp)⟩
     case measure=>simp [intOf]; omega
  ·obtain rfl : k = l.length:=by omega
   go_wp2
   go_ret
   have hfin : OwnToks w.heap.size wr (.slice A3 o.length c3) (streamP l):=by
    show OwnToks _ wr _ (streamTo l l.length)
    rw [<- ho.out]
    exact hown'.out
   exact ⟨_,rfl,hfin,hbw⟩
end
section
open Go.RowKit
structure PWord where
 text : ByteArray
 cls : Nat
 sym : Nat
 part : Nat
def PWord.zero : PWord:=⟨⟨#[]⟩,0,0,0⟩
def wordCells (r : PWord) : List Value:=[.string r.text,.int .u16 (r.cls : Int),.int .i64 (r.sym : Int),.int .u8 (r.part : Int)]
def wtable : List PWord:=[
 ⟨⟨#[97,100,100,114,101,115,115]⟩,0,0,0⟩,
 ⟨⟨#[115,116,114,101,101,116]⟩,0,1,0⟩,
 ⟨⟨#[116,111,119,110]⟩,0,2,0⟩,
 ⟨⟨#[110,97,109,101]⟩,0,3,0⟩,
 ⟨⟨#[112,108,97,99,101]⟩,0,4,0⟩,
 ⟨⟨#[117,110,105,116]⟩,0,5,0⟩,
 ⟨⟨#[99,111,100,101]⟩,0,6,0⟩,
 ⟨⟨#[66]⟩,16384,0,0⟩,
 ⟨⟨#[85,78,73,84]⟩,32,0,0⟩,
 ⟨⟨#[70,76,65,84]⟩,128,0,6⟩,
 ⟨⟨#[78,85,77,66,69,82]⟩,1,0,1⟩,
 ⟨⟨#[76,69,84,84,69,82,69,68]⟩,2,0,1⟩,
 ⟨⟨#[80,82,69]⟩,8,0,3⟩,
 ⟨⟨#[78,65,77,69]⟩,4,0,4⟩,
 ⟨⟨#[83,85,70,70,73,88]⟩,16,0,5⟩,
 ⟨⟨#[66,79,88]⟩,64,0,0⟩,
 ⟨⟨#[66,79,88,78,85,77,66,69,82]⟩,1,0,7⟩,
 ⟨⟨#[80,76,65,67,69]⟩,4,0,8⟩,
 ⟨⟨#[82,69,71,73,79,78]⟩,256,0,9⟩,
 ⟨⟨#[67,79,68,69,65]⟩,512,0,10⟩,
 ⟨⟨#[67,79,68,69,66]⟩,1024,0,10⟩,
 ⟨⟨#[67,79,68,69,67]⟩,8192,0,10⟩,
 ⟨⟨#[70,73,82,83,84]⟩,2048,0,10⟩,
 ⟨⟨#[76,65,83,84]⟩,4096,0,10⟩]
def wtableCells : Array Value:=(wtable.flatMap wordCells).toArray
theorem wtable_len : wtable.length = 24:=rfl
theorem wtableCells_size : wtableCells.size = 96:=by kernel_rfl
theorem info183 : (Tryz.prog.info? 183).map (·.size) = some wtableCells.size:=by kernel_rfl
theorem zero183 : Tryz.zeroCells183.size = wtableCells.size:=by kernel_rfl
theorem one183 : wtableCells.all (·.oneCell') = true:=by kernel_rfl
theorem wtable_any (w : World) : Calls Tryz.prog 116 #[] w fun e w'=>e = .returned (.agg wtableCells) /\ w' = w.alloc (.cells wtableCells 183):=by
 go_enter Tryz.func116,Tryz.ntmps116
 go_upto_region 1 with fail
 apply wp_region_lit
 refine wpList_buildTo rfl 122 _ rfl (some 1) rfl #[.string ⟨#[97,100,100,114,101,115,115]⟩,.int .u16 0,.int .i64 0,.int .u8 0] (by kernel_rfl) ?_
 simp only [Act.put,sX,sZ,sS]
 refine wpList_buildTo rfl 122 _ rfl (some 2) rfl #[.string ⟨#[115,116,114,101,101,116]⟩,.int .u16 0,.int .i64 1,.int .u8 0] (by kernel_rfl) ?_
 simp only [Act.put,sX,sZ,sS]
 refine wpList_buildTo rfl 122 _ rfl (some 3) rfl #[.string ⟨#[116,111,119,110]⟩,.int .u16 0,.int .i64 2,.int .u8 0] (by kernel_rfl) ?_
 simp only [Act.put,sX,sZ,sS]
 refine wpList_buildTo rfl 122 _ rfl (some 4) rfl #[.string ⟨#[110,97,109,101]⟩,.int .u16 0,.int .i64 3,.int .u8 0] (by kernel_rfl) ?_
 simp only [Act.put,sX,sZ,sS]
 refine wpList_buildTo rfl 122 _ rfl (some 5) rfl #[.string ⟨#[112,108,97,99,101]⟩,.int .u16 0,.int .i64 4,.int .u8 0] (by kernel_rfl) ?_
 simp only [Act.put,sX,sZ,sS]
 refine wpList_buildTo rfl 122 _ rfl (some 6) rfl #[.string ⟨#[117,110,105,116]⟩,.int .u16 0,.int .i64 5,.int .u8 0] (by kernel_rfl) ?_
 simp only [Act.put,sX,sZ,sS]
 refine wpList_buildTo rfl 122 _ rfl (some 7) rfl #[.string ⟨#[99,111,100,101]⟩,.int .u16 0,.int .i64 6,.int .u8 0] (by kernel_rfl) ?_
 simp only [Act.put,sX,sZ,sS]
 refine wpList_buildTo rfl 122 _ rfl (some 8) rfl #[.string ⟨#[66]⟩,.int .u16 16384,.int .i64 0,.int .u8 0] (by kernel_rfl) ?_
 simp only [Act.put,sX,sZ,sS]
 refine wpList_buildTo rfl 122 _ rfl (some 9) rfl #[.string ⟨#[85,78,73,84]⟩,.int .u16 32,.int .i64 0,.int .u8 0] (by kernel_rfl) ?_
 simp only [Act.put,sX,sZ,sS]
 refine wpList_buildTo rfl 122 _ rfl (some 10) rfl #[.string ⟨#[70,76,65,84]⟩,.int .u16 128,.int .i64 0,.int .u8 6] (by kernel_rfl) ?_
 simp only [Act.put,sX,sZ,sS]
 refine wpList_buildTo rfl 122 _ rfl (some 11) rfl #[.string ⟨#[78,85,77,66,69,82]⟩,.int .u16 1,.int .i64 0,.int .u8 1] (by kernel_rfl) ?_
 simp only [Act.put,sX,sZ,sS]
 refine wpList_buildTo rfl 122 _ rfl (some 12) rfl #[.string ⟨#[76,69,84,84,69,82,69,68]⟩,.int .u16 2,.int .i64 0,.int .u8 1] (by kernel_rfl) ?_
 simp only [Act.put,sX,sZ,sS]
 refine wpList_buildTo rfl 122 _ rfl (some 13) rfl #[.string ⟨#[80,82,69]⟩,.int .u16 8,.int .i64 0,.int .u8 3] (by kernel_rfl) ?_
 simp only [Act.put,sX,sZ,sS]
 refine wpList_buildTo rfl 122 _ rfl (some 14) rfl #[.string ⟨#[78,65,77,69]⟩,.int .u16 4,.int .i64 0,.int .u8 4] (by kernel_rfl) ?_
 simp only [Act.put,sX,sZ,sS]
 refine wpList_buildTo rfl 122 _ rfl (some 15) rfl #[.string ⟨#[83,85,70,70,73,88]⟩,.int .u16 16,.int .i64 0,.int .u8 5] (by kernel_rfl) ?_
 simp only [Act.put,sX,sZ,sS]
 refine wpList_buildTo rfl 122 _ rfl (some 16) rfl #[.string ⟨#[66,79,88]⟩,.int .u16 64,.int .i64 0,.int .u8 0] (by kernel_rfl) ?_
 simp only [Act.put,sX,sZ,sS]
 refine wpList_buildTo rfl 122 _ rfl (some 17) rfl #[.string ⟨#[66,79,88,78,85,77,66,69,82]⟩,.int .u16 1,.int .i64 0,.int .u8 7] (by kernel_rfl) ?_
 simp only [Act.put,sX,sZ,sS]
 refine wpList_buildTo rfl 122 _ rfl (some 18) rfl #[.string ⟨#[80,76,65,67,69]⟩,.int .u16 4,.int .i64 0,.int .u8 8] (by kernel_rfl) ?_
 simp only [Act.put,sX,sZ,sS]
 refine wpList_buildTo rfl 122 _ rfl (some 19) rfl #[.string ⟨#[82,69,71,73,79,78]⟩,.int .u16 256,.int .i64 0,.int .u8 9] (by kernel_rfl) ?_
 simp only [Act.put,sX,sZ,sS]
 refine wpList_buildTo rfl 122 _ rfl (some 20) rfl #[.string ⟨#[67,79,68,69,65]⟩,.int .u16 512,.int .i64 0,.int .u8 10] (by kernel_rfl) ?_
 simp only [Act.put,sX,sZ,sS]
 refine wpList_buildTo rfl 122 _ rfl (some 21) rfl #[.string ⟨#[67,79,68,69,66]⟩,.int .u16 1024,.int .i64 0,.int .u8 10] (by kernel_rfl) ?_
 simp only [Act.put,sX,sZ,sS]
 refine wpList_buildTo rfl 122 _ rfl (some 22) rfl #[.string ⟨#[67,79,68,69,67]⟩,.int .u16 8192,.int .i64 0,.int .u8 10] (by kernel_rfl) ?_
 simp only [Act.put,sX,sZ,sS]
 refine wpList_buildTo rfl 122 _ rfl (some 23) rfl #[.string ⟨#[70,73,82,83,84]⟩,.int .u16 2048,.int .i64 0,.int .u8 10] (by kernel_rfl) ?_
 simp only [Act.put,sX,sZ,sS]
 refine wpList_buildTo rfl 122 _ rfl (some 24) rfl #[.string ⟨#[76,65,83,84]⟩,.int .u16 4096,.int .i64 0,.int .u8 10] (by kernel_rfl) ?_
 simp only [Act.put,sX,sZ,sS]
 refine wpList_buildTo rfl 183 _ rfl (some 25) rfl wtableCells (by kernel_rfl) ?_
 simp only [Act.put,sX,sZ,sS]
 refine wpList_store_rowTo rfl 183 _ _ rfl rfl w.heap.size wtableCells rfl rfl 183 Tryz.zeroCells183 (heap_alloc_last _ _) info183 zero183 one183 ?_
 rw [World.setRow_alloc_new]
 apply wpList_nil
 go_wp2
 refine bodyPost_ret (results_cell_row Tryz.results116 _ _ _ _ _ (0,0) _ rfl (Blk.new _ _ _) Tryz.underlying183 rfl info183) rfl ⟨rfl,rfl⟩
theorem store_wtable (W : World) (g : Nat) (hg : g = W.heap.size) : Sem.run Tryz.prog (storeCells ⟨g,0,none⟩ wtableCells.toList) (W.alloc (.cells Tryz.zeroCells183 183)) = .ok () (W.alloc (.cells wtableCells 183)):=by
 subst hg
 exact run_storeCells_new W 183 Tryz.zeroCells183 wtableCells info183 zero183 one183
theorem index_wtable : ∀ (k : Nat),k < 24 -> ∀ W : World,Sem.run Tryz.prog (Instr.index 183 (.agg wtableCells) (.int .i64 (k : Int))) W =
  .ok (.agg #[.string (wtable.getD k PWord.zero).text,.int .u16 ((wtable.getD k PWord.zero).cls : Int),.int .i64 ((wtable.getD k PWord.zero).sym : Int),.int .u8 ((wtable.getD k PWord.zero).part : Int)]) W
 | 0,_,_=>by kernel_rfl
 | 1,_,_=>by kernel_rfl
 | 2,_,_=>by kernel_rfl
 | 3,_,_=>by kernel_rfl
 | 4,_,_=>by kernel_rfl
 | 5,_,_=>by kernel_rfl
 | 6,_,_=>by kernel_rfl
 | 7,_,_=>by kernel_rfl
 | 8,_,_=>by kernel_rfl
 | 9,_,_=>by kernel_rfl
 | 10,_,_=>by kernel_rfl
 | 11,_,_=>by kernel_rfl
 | 12,_,_=>by kernel_rfl
 | 13,_,_=>by kernel_rfl
 | 14,_,_=>by kernel_rfl
 | 15,_,_=>by kernel_rfl
 | 16,_,_=>by kernel_rfl
 | 17,_,_=>by kernel_rfl
 | 18,_,_=>by kernel_rfl
 | 19,_,_=>by kernel_rfl
 | 20,_,_=>by kernel_rfl
 | 21,_,_=>by kernel_rfl
 | 22,_,_=>by kernel_rfl
 | 23,_,_=>by kernel_rfl
 | n + 24,h,_=>absurd h (by omega)
theorem finder_any (w : World) : Calls Tryz.prog 61 #[] w fun e w'=>∃ g,e = .returned (.func (.func 117) #[] #[.pointer (some ⟨g,0,none⟩)]) /\ w.heap.size <= g /\ Blk w' g 183 wtableCells /\ Below w.heap.size w w':=by
 have hst:=store_wtable (w.alloc (.cells wtableCells 183)) (w.heap.size + 1) (by simp)
 have hsz:=wtableCells_size
 have hbW:=Hd (((Below.refl _ w).alloc (lQ _) (.cells wtableCells 183)).alloc (by simp) (.cells wtableCells 183))
 have hbk:=Hd (Blk.new (w.alloc (.cells wtableCells 183)) 183 wtableCells)
 go_enter Tryz.func61,Tryz.ntmps61
 go_wp2_with fail
 refine (wtable_any _).mono ?_
 rintro e w1 ⟨rfl,hw⟩
 rw [hw]
 clear hw
 go_wp2
 go_ret
 exact ⟨_,rfl,by simp,by simpa using hbk.out,hbW.out⟩
def findTo (s : ByteArray) : List PWord -> PWord
 | []=>PWord.zero
 | w :: t=>if w.text = s then w else findTo s t
def findW (s : ByteArray) : PWord:=findTo s wtable
def wordAgg (r : PWord) : Value:=.agg #[.string r.text,.int .u16 (r.cls : Int),.int .i64 (r.sym : Int),.int .u8 (r.part : Int)]
theorem info122 : (Tryz.prog.info? 122).map (fun i=>(i.zero,i.size,i.bytes)) = some (some (.agg #[.string ⟨#[]⟩,.int .u16 0,.int .i64 0,.int .u8 0]),4,40):=by kernel_rfl
theorem find_any (s : ByteArray) (g : Nat) (w : World) (hg : Blk w g 183 wtableCells) : Calls Tryz.prog 117 #[.string s,.pointer (some ⟨g,0,none⟩)] w fun e w'=>e = .returned (wordAgg (findW s)) /\ Below w.heap.size w w':=by
 have hsz:=wtableCells_size
 obtain ⟨W,hW⟩ : ∃ W,W = w.alloc (.cells #[.string ⟨#[]⟩,.int .u16 0,.int .i64 0,.int .u8 0] 122):=⟨_,rfl⟩
 have hbW : Hid (Below w.heap.size w W):=Hd (by rw [hW]; exact (Below.refl _ _).alloc (lQ _) _)
 have hr : Hid (Blk W w.heap.size 122 #[.string ⟨#[]⟩,.int .u16 0,.int .i64 0,.int .u8 0]):=Hd (by rw [hW]; exact Blk.new _ _ _)
 have hgW : Hid (Blk W g 183 wtableCells):=Hd (hg.below hbW.out hg.lt)
 go_enter Tryz.func117,Tryz.ntmps117
 go_upto_region 1 with fail
 rw [<- hW]
 clear hW
 have hB0:=Hd hbW.out
 generalize hBB : w.heap.size = B at hbW hr ⊢
 replace hBB:=Hd hBB
 apply wp_region_lit
 refine wpList_load_row rfl 183 (.tmp 1) rfl g rfl 183 wtableCells (0,0) _ hgW.out Tryz.underlying183 rfl info183 ?_
 simp only [Act.put,sX,sZ,sS]
 clear hsz
 go_wp2
 go_loopw [7] (fun iv wr=>∃ k : Nat,k <= 24 /\ iv = .int .i64 k /\ Hid (Below B w wr) /\ Hid (Blk wr B 122 #[.string ⟨#[]⟩,.int .u16 0,.int .i64 0,.int .u8 0]) /\ Hid (findTo s (wtable.drop k) = findW s)) (fun iv _=>24 - (intOf iv).toNat)
 case atStart=>exact ⟨0,by omega,rfl,hbW,hr,Hd rfl⟩
 case round=>
  obtain ⟨k,hk,rfl,hbw,hrw,hf⟩:=hrel
  rename World=>wr
  have n0 : (0 : Int) <= (k : Int):=by omega
  by_cases hlt : k < 24
  ·have n1 : (k : Int) < 24:=by omega
   have hix:=index_wtable k hlt
   have hfd : Hid (findTo s (wtable.drop k) = if (wtable.getD k PWord.zero).text = s then wtable.getD k PWord.zero else findTo s (wtable.drop (k + 1))):=Hd (by rw [drop_getD wtable PWord.zero k hlt]; rfl)
   rw [hf.out] at hfd
   generalize wtable.getD k PWord.zero = r at hix hfd
   obtain ⟨rt,rc,rs,rp⟩:=r
   simp only at hix hfd
   have hbn:=Hd (hbw.out.alloc (Nat.le_of_lt hrw.out.lt) (.cells #[.string rt,.int .u16 (rc : Int),.int .i64 (rs : Int),.int .u8 (rp : Int)] 122))
   have hrn:=Hd (hrw.out.alloc (.cells #[.string rt,.int .u16 (rc : Int),.int .i64 (rs : Int),.int .u8 (rp : Int)] 122))
   have hcn:=Hd (Blk.new wr 122 #[.string rt,.int .u16 (rc : Int),.int .i64 (rs : Int),.int .u8 (rp : Int)])
   by_cases hw : rt = s
   ·have hfr : Hid (findW s = ⟨rt,rc,rs,rp⟩):=Hd (by rw [hfd.out,if_pos hw])
    subst hw
    have b1 : (rt.toList == rt.toList) = true:=by simp
    go_upto_region 5 with fail
    generalize wr.heap.size = L at *
    generalize wr.alloc (.cells #[.string rt,.int .u16 (rc : Int),.int .i64 (rs : Int),.int .u8 (rp : Int)] 122) = wx at *
    apply wp_region_lit
    refine wpList_load_row rfl 122 (.tmp 5) rfl L rfl 122 #[.string rt,.int .u16 (rc : Int),.int .i64 (rs : Int),.int .u8 (rp : Int)] (0,0) _ hcn.out Tryz.underlying122 rfl (by kernel_rfl) ?_
    simp only [Act.put,sX,sZ,sS]
    refine wpList_store_rowTo rfl 122 (.tmp 3) (.tmp 14) rfl rfl B #[.string rt,.int .u16 (rc : Int),.int .i64 (rs : Int),.int .u8 (rp : Int)] rfl rfl 122 _ hrn.out (by kernel_rfl) rfl (by kernel_rfl) ?_
    apply wpList_nil
    go_wp2
    refine bodyPost_ret (results_cell_row Tryz.results117 _ _ B 122 _ (0,0) _ rfl (setRow_heap _ _ _ _ _ _ hrn.out) Tryz.underlying122 rfl (by kernel_rfl)) rfl ?_
    exact ⟨by rw [hfr.out]; rfl,by rw [hBB.out]; exact below_setRow hbn.out (lQ _) _⟩
   ·have b1:=tl_ne hw
    rw [if_neg hw] at hfd
    have hfn : Hid (findTo s (wtable.drop (k + 1)) = findW s):=Hd hfd.out.symm
    clear hw hfd hf
    go_wp2
    go_roundw
    case rel=>exact ⟨k + 1,by omega,by go_num,hbn,hrn,hfn⟩
    case measure=>simp [intOf]; omega
  ·obtain rfl : k = 24:=by omega
   have hfr : Hid (findW s = PWord.zero):=Hd (by rw [<- hf.out]; rfl)
   go_upto_region 7 with fail
   apply wp_region_lit
   refine wpList_buildTo rfl 122 _ rfl (some 16) rfl #[.string ⟨#[]⟩,.int .u16 0,.int .i64 0,.int .u8 0] (by kernel_rfl) ?_
   simp only [Act.put,sX,sZ,sS]
   refine wpList_store_rowTo rfl 122 (.tmp 3) (.tmp 16) rfl rfl B #[.string ⟨#[]⟩,.int .u16 0,.int .i64 0,.int .u8 0] rfl rfl 122 _ hrw.out (by kernel_rfl) rfl (by kernel_rfl) ?_
   apply wpList_nil
   go_wp2
   refine bodyPost_ret (results_cell_row Tryz.results117 _ _ B 122 _ (0,0) _ rfl (setRow_heap _ _ _ _ _ _ hrw.out) Tryz.underlying122 rfl (by kernel_rfl)) rfl ?_
   exact ⟨by rw [hfr.out]; rfl,by rw [hBB.out]; exact below_setRow hbw.out (lQ _) _⟩
end
end Go.Proofs.YteclineblddpbaaGreatDoorR
