import Derived.Test.YtggimnndflkjkaaGreatDoorR01
import Derived.Test.YtggimnndflkjkaaGreatDoorR16
import Derived.Test.YtggimnndflkjkaaGreatDoorR20
import Derived.Test.YtggimnndflkjkaaGreatDoorR22
set_option linter.all false
set_option maxRecDepth 100000
set_option maxHeartbeats 0
namespace Go.Proofs.YtggimnndflkjkaaGreatDoor
section
open Go.RowKit
structure zP where
 kind : Int
 state : Int
 cost : Int
def zP.zero : zP:=⟨0,0,0⟩
def zfo (n : zP) : List Value:=[.int .u8 n.kind,.int .u8 n.state,.int .i64 n.cost]
abbrev zbT:=zaw 48 3 zfo zdp
structure zhO where
 kind : Nat
 fn : Nat
 missing : Int
 cf : Nat
 file : ByteArray
 edits : ByteArray -> ByteArray -> Int × Bool
def zhO.zero : zhO:=⟨0,0,0,0,⟨#[]⟩,fun _ _=>(0,false)⟩
def zab (fd : List ByteArray) (k : Nat) : ByteArray:=fd.getD k ⟨#[]⟩
def zgn (fd : List ByteArray) (r : zhO) : Option (Option zP):=
 if (zab fd r.kind).size = 0 then
  if r.file.size = 0 then some none else if r.missing = -1 then none else some (some ⟨r.kind,3,r.missing⟩)
 else if zab fd r.kind = r.file then some (some ⟨r.kind,1,0⟩)
 else if (r.edits (zab fd r.kind) r.file).2 then some (some ⟨r.kind,2,(r.edits (zab fd r.kind) r.file).1⟩) else none
def zI (fd : List ByteArray) : List zhO -> Option (List zP)
 | []=>some []
 | r :: t=>match zgn fd r with
  | none=>none
  | some none=>zI fd t
  | some (some n)=>(zI fd t).map (n :: ·)
theorem zuQ : (Tryz.prog.info? 48).map (fun i=>(i.zero,i.size,i.bytes)) = some (some (.agg #[.int .u8 0,.int .u8 0,.int .i64 0]),3,16):=by kernel_rfl
def ztX (w : World) (b o : Nat) (r : zhO) : Prop:=
 w.cell? ⟨b,o,none⟩ = some (.int .u8 (r.kind : Int)) /\ w.cell? ⟨b,o + 1,none⟩ = some (.func (.func r.fn) #[] #[]) /\ w.cell? ⟨b,o + 2,none⟩ = some (.int .i64 r.missing) /\ w.cell? ⟨b,o + 3,none⟩ = some (.func (.func r.cf) #[] #[])
structure zmW (w : World) (rec : Array Value) (fd : List ByteArray) (r : zhO) : Prop where
 kd : r.kind < 11
 ef : ∀ args W,(callFunc r.fn args).run Tryz.prog W = .ok (.enter r.fn args) W
 ec : ∀ args W,(callFunc r.cf args).run Tryz.prog W = .ok (.enter r.cf args) W
 of : ∀ W,Below w.heap.size w W -> Calls Tryz.prog r.fn #[.agg rec] W fun e w'=>e = .returned (.string r.file) /\ Below W.heap.size W w'
 co : ∀ W,Below w.heap.size w W -> Calls Tryz.prog r.cf #[.string (zab fd r.kind),.string r.file] W fun e w'=>e = .returned (.tuple #[.int .i64 (r.edits (zab fd r.kind) r.file).1,.bool (r.edits (zab fd r.kind) r.file).2]) /\ Below W.heap.size W w'
def zfu (o : Option (List zP)) (B : Nat) (e : Ending) (w' : World) : Prop:=
 (o = none /\ e = .returned (.agg #[.slice none 0 0,.bool false])) \/ ∃ ns nv,o = some ns /\ e = .returned (.agg #[nv,.bool true]) /\ zbT B w' nv ns
theorem ziK (Cb : Nat) (fd : List ByteArray) (rb ro rc0 : Nat) (rows : List zhO) (vt vs vr vp ct cs : Value) (r : zpH) (w : World) (ht : zt vt) (hs : zt vs) (hr : zt vr) (hp : zt vp) (hct : zt ct) (hcs : zt cs)
  (hC : Cb < w.heap.size) (hfd : ∀ k,k < 11 -> w.cell? ⟨Cb,5 + k,none⟩ = some (.string (zab fd k))) (hrb : rb < w.heap.size) (hro : ∀ i,i < rows.length -> ztX w rb (ro + i * 4) (rows.getD i zhO.zero)) (hn : rows.length <= 20) (hfine : ∀ x ∈ rows,zmW w (zfF vt vs vr vp r ct cs) fd x) :
  Calls Tryz.prog 56 #[.pointer (some ⟨Cb,0,none⟩),.slice (some ⟨rb,ro,none⟩) rows.length rc0,.agg (zfF vt vs vr vp r ct cs)] w fun e w'=>
   zfu (zI fd rows) w.heap.size e w' /\ Below w.heap.size w w':=by
 obtain ⟨tA,tn,tc,rfl⟩:=ht;obtain ⟨sA,sn,sc,rfl⟩:=hs;obtain ⟨rA,rn,rc,rfl⟩:=hr;obtain ⟨pA,pn,pc,rfl⟩:=hp;obtain ⟨cA,cn,cc,rfl⟩:=hct;obtain ⟨dA,dn,dc,rfl⟩:=hcs;obtain ⟨⟨x0,x1,x2,x3,x4⟩,⟨y0,y1,y2,y3,y4,y5⟩,⟨z0,z1,z2,z3,z4,z5,z6,z7⟩⟩:=r;unfold zfF at *;simp only at hfine ⊢;have hfine':=Hd hfine;have hfd':=Hd hfd;have hro':=Hd hro;have hb1 : Below w.heap.size w ((w.alloc (.cells #[.slice tA tn tc,.slice sA sn sc,.slice rA rn rc,.slice pA pn pc,.int .i64 x0,.int .u8 x1,.string x2,.string x3,.slice cA cn cc,.int .i64 y0,.int .i64 y1,.string y2,.string y3,.string y4,.slice dA dn dc,.int .i64 z0,.int .i64 z1,.int .i64 z2,.int .i64 z3,.string z4,.string z5,.int .i64 z6,.int .i64 z7] 135)).alloc (.cells #[.slice none 0 0,.bool false] 130)):=((Below.refl _ _).alloc (lQ _) _).alloc (by simp) _;have kX:=Hd ((Blk.new w 135 #[.slice tA tn tc,.slice sA sn sc,.slice rA rn rc,.slice pA pn pc,.int .i64 x0,.int .u8 x1,.string x2,.string x3,.slice cA cn cc,.int .i64 y0,.int .i64 y1,.string y2,.string y3,.string y4,.slice dA dn dc,.int .i64 z0,.int .i64 z1,.int .i64 z2,.int .i64 z3,.string z4,.string z5,.int .i64 z6,.int .i64 z7]).alloc (.cells #[.slice none 0 0,.bool false] 130));have kR:=Hd (Blk.new_at (w.alloc (.cells #[.slice tA tn tc,.slice sA sn sc,.slice rA rn rc,.slice pA pn pc,.int .i64 x0,.int .u8 x1,.string x2,.string x3,.slice cA cn cc,.int .i64 y0,.int .i64 y1,.string y2,.string y3,.string y4,.slice dA dn dc,.int .i64 z0,.int .i64 z1,.int .i64 z2,.int .i64 z3,.string z4,.string z5,.int .i64 z6,.int .i64 z7] 135)) 130 #[.slice none 0 0,.bool false] (w.heap.size + 1) (by simp));have hb1':=Hd hb1;clear hfine hfd hro hb1;go_enter Tryz.func56,Tryz.ntmps56;go_wp2;generalize (w.alloc _).alloc _ = W at *;generalize hXq : w.heap.size = X at *;have hXW : X <= W.heap.size:=by rw [<- hXq]; exact hb1'.out.size
 obtain ⟨i0,hi0,hz0,hz1,hz2⟩:=info_parts zuQ;go_wp2
 go_loopw [7,17] (fun nv iv wr=>∃ (k : Nat) (ns : List zP),k <= rows.length /\ iv = .int .i64 k /\ Below W.heap.size W wr /\ zbT W.heap.size wr nv ns /\ Hid (zI fd rows = (zI fd (rows.drop k)).map (ns ++ ·) /\ ns.length <= k)) (fun _ iv _=>rows.length - (intOf iv).toNat)
 case atStart=>exact ⟨0,[],by omega,rfl,Below.refl _ _,zaw.nil_,Hd ⟨by simp,Nat.zero_le _⟩⟩
 case round=>
  obtain ⟨k,ns,hk,rfl,hbw,hown,hcmp⟩:=hrel;rename World=>wr;have n0 : (0 : Int) <= (k : Int):=by omega
  have hown':=Hd hown;obtain ⟨A3,c3,rfl⟩:=hown.form_;clear hown;by_cases hlt : k < rows.length
  ·have n1 : (k : Int) < (rows.length : Int):=by omega
   have hwW : Below w.heap.size w W:=by rw [hXq]; exact hb1'.out
   have hXr : X <= wr.heap.size:=Nat.le_trans hXW hbw.size;have hww : Below w.heap.size w wr:=hwW.trans (hbw.mono (by rw [hXq]; exact hXW));have hrow:=hro'.out k hlt;have hrf:=hfine'.out (rows.getD k zhO.zero) (by rw [zD _ _ _ hlt]; exact List.getElem_mem hlt);have hdr:=Hd (zaI rows zhO.zero k hlt);generalize rows.getD k zhO.zero = rw_ at *;obtain ⟨kd,fn,ms,cf,file,edits⟩:=rw_;obtain ⟨hkd,hef,hec,hof,hco⟩:=hrf;simp only at hkd hef hec hof hco;have hof':=Hd hof;have hco':=Hd hco;obtain ⟨p0,p1,p2,p3⟩:=hrow;simp only at p0 p1 p2 p3;rw [<- hww.cell (p:=⟨rb,ro + k * 4,none⟩) (by rw [hXq]; exact hrb)] at p0;rw [<- hww.cell (p:=⟨rb,ro + k * 4 + 1,none⟩) (by rw [hXq]; exact hrb)] at p1;rw [<- hww.cell (p:=⟨rb,ro + k * 4 + 2,none⟩) (by rw [hXq]; exact hrb)] at p2;rw [<- hww.cell (p:=⟨rb,ro + k * 4 + 3,none⟩) (by rw [hXq]; exact hrb)] at p3;have hrbr : rb < wr.heap.size:=Nat.lt_of_lt_of_le hrb hXr
   have hstep : Hid (zI fd rows = (match zgn fd ⟨kd,fn,ms,cf,file,edits⟩ with
    | none=>none
    | some none=>zI fd (rows.drop (k + 1))
    | some (some n)=>(zI fd (rows.drop (k + 1))).map (n :: ·)).map (ns ++ ·)):=Hd (by rw [hcmp.out.1,hdr.out]; rfl)
   have hnsl:=Hd hcmp.out.2;have hrd:=Hd (hfd'.out kd hkd);generalize hreq : zab fd kd = read at *
   have hsc : Hid (zgn fd ⟨kd,fn,ms,cf,file,edits⟩ = if read.size = 0 then
     (if file.size = 0 then some none else if ms = -1 then none else some (some ⟨kd,3,ms⟩))
    else if read = file then some (some ⟨kd,1,0⟩)
    else if (edits read file).2 then some (some ⟨kd,2,(edits read file).1⟩) else none):=Hd (by unfold zgn; rw [hreq])
   have hb4 : Below wr.heap.size wr (wr.alloc (.cells #[.int .u8 (kd : Int),.func (.func fn) #[] #[],.int .i64 ms,.func (.func cf) #[] #[]] 122)):=(Below.refl _ _).alloc (lQ _) _;have k9:=Hd (Blk.new wr 122 #[.int .u8 (kd : Int),.func (.func fn) #[] #[],.int .i64 ms,.func (.func cf) #[] #[]]);have kX5:=Hd ((kX.out.below hbw kX.out.lt).below hb4 (Nat.lt_of_lt_of_le kX.out.lt hbw.size));have hC5:=Hd (((hww.trans (hb4.mono hww.size)).cell (p:=⟨Cb,5 + kd,none⟩) (by rw [hXq]; exact hC)).trans hrd.out);have hCw : Cb < wr.heap.size:=Nat.lt_of_lt_of_le hC hXr;have hb4':=Hd hb4;clear hb4 hcmp hof hco hdr;go_upto_region 5 with fail;have hsz9 : wr.heap.size < (wr.alloc (.cells #[.int .u8 (kd : Int),.func (.func fn) #[] #[],.int .i64 ms,.func (.func cf) #[] #[]] 122)).heap.size:=by simp
   have hww5:=Hd (hww.trans (hb4'.out.mono hww.size));generalize wr.alloc (.cells #[.int .u8 (kd : Int),.func (.func fn) #[] #[],.int .i64 ms,.func (.func cf) #[] #[]] 122) = W5 at *;have r0:=fun (u : Ups W5)=>(k9.out.ups u).cell 0;have r1:=fun (u : Ups W5)=>(k9.out.ups u).cell 1;have cR:=fun (u : Ups W5)=>(u.up.cell (p:=⟨Cb,5 + kd,none⟩) (Nat.lt_trans hCw hsz9)).trans hC5.out;have hof5:=Hd fun (u : Ups W5)=>hof'.out u.wld (hww5.out.trans (u.up.mono hww5.out.size));have nk : (kd : Int) < 11:=by omega
   have nk0 : (0 : Int) <= (kd : Int):=by omega
   simp at r0 r1 cR;refine zC (by kernel_rfl) (by kernel_rfl) ?_
   go_big_quiet_step (fail)
   go_big_quiet_step (fail)
   go_big_quiet_step (fail)
   go_big_quiet_step (fail)
   go_big_quiet_step (fail)
   go_big_quiet_step (fail)
   go_big_quiet_step (fail)
   go_big_quiet_step (fail)
   go_big_quiet_step (fail)
   refine zcv rfl 135 (.tmp 5) rfl X rfl 135 #[.slice tA tn tc,.slice sA sn sc,.slice rA rn rc,.slice pA pn pc,.int .i64 x0,.int .u8 x1,.string x2,.string x3,.slice cA cn cc,.int .i64 y0,.int .i64 y1,.string y2,.string y3,.string y4,.slice dA dn dc,.int .i64 z0,.int .i64 z1,.int .i64 z2,.int .i64 z3,.string z4,.string z5,.int .i64 z6,.int .i64 z7] _ (by rintro _ ⟨u,rfl⟩; exact kX5.out.ups u) Tryz.underlying135 rfl (by kernel_rfl) ?_;simp only [Act.put,sX,sS,sZ]
   repeat (go_big_quiet_step (first | (go_at_fn fn; exact zbe (hof5.out _))))
   refine wpQuiet_nil ?_;rintro _ ⟨u,rfl⟩;have hb6:=Hd (hb4'.out.trans (u.up.mono (Nat.le_of_lt hsz9)));have k9':=Hd (k9.out.ups u);have hww6:=Hd (hww5.out.trans (u.up.mono hww5.out.size));clear r0 r1 cR hof5 hof' hef kX5 hC5 hrd hb4' k9 p0 p1 p2 p3 hww5 hww;generalize u.wld = W6 at *;have s0:=k9'.out.cell 0;have s2:=k9'.out.cell 2;have s3:=k9'.out.cell 3;have l9:=k9'.out.lt;simp at s0 s2 s3;have hb7 : Below wr.heap.size wr (W6.alloc (.cells #[.int .u8 (kd : Int),.int .u8 1,.int .i64 0] 48)):=hb6.out.alloc hb6.out.size _;have kN:=Hd (Blk.new W6 48 #[.int .u8 (kd : Int),.int .u8 1,.int .i64 0]);have k97:=Hd (k9'.out.alloc (.cells #[.int .u8 (kd : Int),.int .u8 1,.int .i64 0] 48));have hww7:=Hd (hww6.out.alloc hww6.out.size (.cells #[.int .u8 (kd : Int),.int .u8 1,.int .i64 0] 48));have hb7':=Hd hb7;clear hb7;have sd1 : ns.length + 1 <= maxLen:=by have:=hnsl.out; unfold maxLen; omega
   have sd2 : (ns.length + 1) * 16 <= 140737488355328:=by have:=hnsl.out; omega
   go_upto_region 7 with fail;generalize W6.alloc (.cells #[.int .u8 (kd : Int),.int .u8 1,.int .i64 0] 48) = W7 at *;have hNBw : wr.heap.size <= W6.heap.size:=hb6.out.size;generalize hNB : W6.heap.size = NB at *;clear s0 s2 s3 l9 k9' hb6 hww6;have hkR : Blk W7 (X + 1) 130 #[.slice none 0 0,.bool false]:=(kR.out.below hbw kR.out.lt).below hb7'.out (Nat.lt_of_lt_of_le kR.out.lt hbw.size);have hkR':=Hd hkR;clear hkR;by_cases c1 : read.size = 0
   ·have e1:=zcc c1
    rw [if_pos c1] at hsc;by_cases c2 : file.size = 0
    ·have e2:=zcc c2
     rw [if_pos c2] at hsc;have hst2 : Hid (zI fd rows = (zI fd (rows.drop (k + 1))).map (ns ++ ·) /\ ns.length <= k + 1):=Hd ⟨by rw [hstep.out,hsc.out],by have:=hnsl.out; omega⟩;have hoE:=Hd (hown'.out.keep ze (zc.of_below hb7'.out _));have hend:=hbw.trans (hb7'.out.mono hbw.size);clear c1 c2;go_wp2;go_roundw
     case rel=>exact ⟨k + 1,ns,by omega,by go_num,hend,hoE.out,hst2⟩
     case measure=>simp [intOf]; omega
    ·have e2:=zcS c2
     rw [if_neg c2] at hsc;have s2:=k97.out.cell 2;have l9:=k97.out.lt;simp at s2;by_cases c3 : ms = -1
     ·have e3 : (ms == -1) = true:=by simp [c3]
      rw [if_pos c3] at hsc;have hno : Hid (zI fd rows = none):=Hd (by rw [hstep.out,hsc.out]; rfl);clear c1 c2 c3;have kR7:=hkR'.out;have v0:=kR7.cell 0;have v1:=kR7.cell 1;have f0:=kR7.frozen 0;have f1:=kR7.frozen 1;have lR7:=kR7.lt;have hend:=hww7.out;simp at v0 v1;go_wp2;refine bodyPost_ret (results_cell_row (P:=Tryz.prog) Tryz.results56 _ _ _ _ _ _ _ rfl ((kR7.set_ 0 (.slice none 0 0)).set_ 1 (.bool false)) Tryz.underlying130 rfl (by kernel_rfl)) rfl ?_;exact ⟨.inl ⟨hno.out,rfl⟩,(hend.setCell (p:=⟨X + 1,0,none⟩) (by simp; omega) _).setCell (p:=⟨X + 1,1,none⟩) (by simp; omega) _⟩
     ·have e3 : (ms == -1) = false:=by simpa using c3
      rw [if_neg c3] at hsc;have hst2 : Hid (zI fd rows = (zI fd (rows.drop (k + 1))).map ((ns ++ [⟨(kd : Int),3,ms⟩]) ++ ·) /\ (ns ++ [(⟨(kd : Int),3,ms⟩ : zP)]).length <= k + 1):=Hd ⟨by rw [hstep.out,hsc.out]; cases zI fd (rows.drop (k + 1)) <;> simp,by have:=hnsl.out; simp; omega⟩;clear c1 c2 c3;have q0:=kN.out.cell 0;have q1:=kN.out.cell 1;have q2:=kN.out.cell 2;have f1:=kN.out.frozen 1;have f2:=kN.out.frozen 2;have lN:=kN.out.lt;have hNB2 : wr.heap.size <= NB:=hNBw;simp at q0 q1 q2;go_wp2;refine zez ?A11 (fun w'=>Below wr.heap.size wr w' /\ Blk w' NB 48 #[.int .u8 (kd : Int),.int .u8 3,.int .i64 ms]) ?r1 ?r2
      case r1=>
       intro Q' hQ
       go_region
       all_goals first
        | exact hQ _ ⟨((hb7'.out.drew).setCell (p:=⟨NB,1,none⟩) hNB2 _).setCell (p:=⟨NB,2,none⟩) hNB2 _,(Blk.set_ (w:=W7.drew) kN.out 1 _).set_ 2 _⟩
        | exact hQ _ ⟨((hb7'.out.drew).setCell (p:=⟨NB,2,none⟩) hNB2 _).setCell (p:=⟨NB,1,none⟩) hNB2 _,(Blk.set_ (w:=W7.drew) kN.out 2 _).set_ 1 _⟩
      rintro W8 ⟨hb8,kN8⟩;have kN8':=Hd kN8;clear q0 q1 q2 f1 f2 lN kN8 s2 l9;have hs0:=hbw.size;have q0:=kN8'.out.cell 0;have q1:=kN8'.out.cell 1;have q2:=kN8'.out.cell 2;have lq:=kN8'.out.lt;simp at q0 q1 q2;have hwn:=Hd ((hb8).alloc (hb8).size (.cells #[.int .u8 (kd : Int),.int .u8 3,.int .i64 ms] 48));have hoA:=Hd (hown'.out.keep ze (zc.of_below hwn.out _));have hsn:=(hb8).size;go_wp2_with (at_builtin; refine wpList_append_lies _ rfl (.tmp 71) (.tmp 73) 41 rfl W.heap.size 48 i0 (.agg #[.int .u8 0,.int .u8 0,.int .i64 0]) 3 16 Tryz.underlying41 hi0 hz0 hz1 hz2 rfl (by decide) (.slice A3 ns.length c3) ns.length (ns.flatMap zfo) rfl (by exact hoA.out.1) ⟨W8.heap.size,0,none⟩ 1 1 [.int .u8 (kd : Int),.int .u8 3,.int .i64 ms] rfl rfl (by exact World.news_of_block (cs:=#[.int .u8 (kd : Int),.int .u8 3,.int .i64 ms]) (heap_alloc_new _ _)) (by exact zzP rfl rfl rfl) Nat.one_pos sd1 sd2 (by simp; omega) (W8.heap.size + 1) (by simp) ?_; intro g2 cap2 w3 hown2 hgr2 hat2 hlt2);have hR:=zcZ ze (a:=⟨(kd : Int),3,ms⟩) hbw hown'.out hwn.out (lQ _) hbw.size trivial hown2 rfl hgr2 (hat2.imp_right (fun e=>by simp [e]));clear hown2 hgr2 hat2 hlt2;go_roundw
      case rel=>exact ⟨k + 1,ns ++ [⟨(kd : Int),3,ms⟩],by omega,by go_num,hR.1,by simpa using hR.2,hst2⟩
      case measure=>simp [intOf]; omega
   ·have e1:=zcS c1
    rw [if_neg c1] at hsc;by_cases c2 : read = file
    ·rw [if_pos c2] at hsc
     have e2 : (read.toList == file.toList) = true:=by rw [c2]; simp
     have hst2 : Hid (zI fd rows = (zI fd (rows.drop (k + 1))).map ((ns ++ [⟨(kd : Int),1,0⟩]) ++ ·) /\ (ns ++ [(⟨(kd : Int),1,0⟩ : zP)]).length <= k + 1):=Hd ⟨by rw [hstep.out,hsc.out]; cases zI fd (rows.drop (k + 1)) <;> simp,by have:=hnsl.out; simp; omega⟩;clear c1 c2;have q0:=kN.out.cell 0;have q1:=kN.out.cell 1;have q2:=kN.out.cell 2;have lq:=kN.out.lt;simp at q0 q1 q2;have hwn:=Hd ((hb7'.out).alloc (hb7'.out).size (.cells #[.int .u8 (kd : Int),.int .u8 1,.int .i64 0] 48));have hoA:=Hd (hown'.out.keep ze (zc.of_below hwn.out _));have hsn:=(hb7'.out).size;have hs0:=hbw.size;go_wp2_with (at_builtin; refine wpList_append_lies _ rfl (.tmp 71) (.tmp 73) 41 rfl W.heap.size 48 i0 (.agg #[.int .u8 0,.int .u8 0,.int .i64 0]) 3 16 Tryz.underlying41 hi0 hz0 hz1 hz2 rfl (by decide) (.slice A3 ns.length c3) ns.length (ns.flatMap zfo) rfl (by exact hoA.out.1) ⟨W7.heap.size,0,none⟩ 1 1 [.int .u8 (kd : Int),.int .u8 1,.int .i64 0] rfl rfl (by exact World.news_of_block (cs:=#[.int .u8 (kd : Int),.int .u8 1,.int .i64 0]) (heap_alloc_new _ _)) (by exact zzP rfl rfl rfl) Nat.one_pos sd1 sd2 (by simp; omega) (W7.heap.size + 1) (by simp) ?_; intro g2 cap2 w3 hown2 hgr2 hat2 hlt2);have hR:=zcZ ze (a:=⟨(kd : Int),1,0⟩) hbw hown'.out hwn.out (lQ _) hbw.size trivial hown2 rfl hgr2 (hat2.imp_right (fun e=>by simp [e]));clear hown2 hgr2 hat2 hlt2;go_roundw
     case rel=>exact ⟨k + 1,ns ++ [⟨(kd : Int),1,0⟩],by omega,by go_num,hR.1,by simpa using hR.2,hst2⟩
     case measure=>simp [intOf]; omega
    ·have e2:=zlI c2
     rw [if_neg c2] at hsc;have s3:=k97.out.cell 3;have l9:=k97.out.lt;simp at s3;have hcf:=Hd (hco'.out W7 hww7.out);generalize edits read file = ed at *;obtain ⟨ec,eo⟩:=ed;simp only at hcf hsc;clear c1 c2;go_wp2_with fail;refine hcf.out.mono ?_;rintro e w8 ⟨rfl,hb8⟩;have hs0:=hbw.size;have hw78:=hb7'.out.trans (hb8.mono hb7'.out.size)
     cases eo with
     | false=>
      have hno : Hid (zI fd rows = none):=Hd (by rw [hstep.out,hsc.out]; rfl);have kR7:=hkR'.out.below hb8 hkR'.out.lt;have v0:=kR7.cell 0;have v1:=kR7.cell 1;have f0:=kR7.frozen 0;have f1:=kR7.frozen 1;have lR7:=kR7.lt;have hend:=hww7.out.trans (hb8.mono hww7.out.size);simp at v0 v1;go_wp2;refine bodyPost_ret (results_cell_row (P:=Tryz.prog) Tryz.results56 _ _ _ _ _ _ _ rfl ((kR7.set_ 0 (.slice none 0 0)).set_ 1 (.bool false)) Tryz.underlying130 rfl (by kernel_rfl)) rfl ?_;exact ⟨.inl ⟨hno.out,rfl⟩,(hend.setCell (p:=⟨X + 1,0,none⟩) (by simp; omega) _).setCell (p:=⟨X + 1,1,none⟩) (by simp; omega) _⟩
     | true=>
      have hst2 : Hid (zI fd rows = (zI fd (rows.drop (k + 1))).map ((ns ++ [⟨(kd : Int),2,ec⟩]) ++ ·) /\ (ns ++ [(⟨(kd : Int),2,ec⟩ : zP)]).length <= k + 1):=Hd ⟨by rw [hstep.out,hsc.out]; cases zI fd (rows.drop (k + 1)) <;> simp,by have:=hnsl.out; simp; omega⟩;have kN8:=kN.out.below hb8 kN.out.lt;have q1:=kN8.cell 1;have q2:=kN8.cell 2;have f1:=kN8.frozen 1;have f2:=kN8.frozen 2;have lN:=kN8.lt;have hNB2 : wr.heap.size <= NB:=hNBw;simp at q1 q2;have kN9:=Hd ((kN8.set_ 1 (.int .u8 2)).set_ 2 (.int .i64 ec));have hb9:=Hd ((hw78.setCell (p:=⟨NB,1,none⟩) hNB2 (.int .u8 2)).setCell (p:=⟨NB,2,none⟩) hNB2 (.int .i64 ec));clear kN8 s3 l9;go_upto_region 17 with fail;generalize (w8.setCell ⟨NB,1,none⟩ (.int .u8 2)).setCell ⟨NB,2,none⟩ (.int .i64 ec) = W9 at *;clear q1 q2 f1 f2 lN;have q0:=kN9.out.cell 0;have q1:=kN9.out.cell 1;have q2:=kN9.out.cell 2;have lq:=kN9.out.lt;simp at q0 q1 q2;have hwn:=Hd ((hb9.out).alloc (hb9.out).size (.cells #[.int .u8 (kd : Int),.int .u8 2,.int .i64 ec] 48));have hoA:=Hd (hown'.out.keep ze (zc.of_below hwn.out _));have hsn:=(hb9.out).size;go_wp2_with (at_builtin; refine wpList_append_lies _ rfl (.tmp 71) (.tmp 73) 41 rfl W.heap.size 48 i0 (.agg #[.int .u8 0,.int .u8 0,.int .i64 0]) 3 16 Tryz.underlying41 hi0 hz0 hz1 hz2 rfl (by decide) (.slice A3 ns.length c3) ns.length (ns.flatMap zfo) rfl (by exact hoA.out.1) ⟨W9.heap.size,0,none⟩ 1 1 [.int .u8 (kd : Int),.int .u8 2,.int .i64 ec] rfl rfl (by exact World.news_of_block (cs:=#[.int .u8 (kd : Int),.int .u8 2,.int .i64 ec]) (heap_alloc_new _ _)) (by exact zzP rfl rfl rfl) Nat.one_pos sd1 sd2 (by simp; omega) (W9.heap.size + 1) (by simp) ?_; intro g2 cap2 w3 hown2 hgr2 hat2 hlt2);have hR:=zcZ ze (a:=⟨(kd : Int),2,ec⟩) hbw hown'.out hwn.out (lQ _) hbw.size trivial hown2 rfl hgr2 (hat2.imp_right (fun e=>by simp [e]));clear hown2 hgr2 hat2 hlt2;go_roundw
      case rel=>exact ⟨k + 1,ns ++ [⟨(kd : Int),2,ec⟩],by omega,by go_num,hR.1,by simpa using hR.2,hst2⟩
      case measure=>simp [intOf]; omega
  ·obtain rfl : k = rows.length:=by omega
   have hyes : Hid (zI fd rows = some ns):=Hd (by rw [hcmp.out.1,List.drop_length]; simp [zI]);have kR7:=kR.out.below hbw kR.out.lt;have v0:=kR7.cell 0;have v1:=kR7.cell 1;have f0:=kR7.frozen 0;have f1:=kR7.frozen 1;have lR7:=kR7.lt;have hend : Below w.heap.size w wr:=(by rw [hXq]; exact hb1'.out : Below w.heap.size w W).trans (hbw.mono (by rw [hXq]; exact hXW));have hXr : X + 1 < W.heap.size:=kR.out.lt;simp at v0 v1;go_wp2;refine bodyPost_ret (results_cell_row (P:=Tryz.prog) Tryz.results56 _ _ _ _ _ _ _ rfl ((kR7.set_ 0 (.slice A3 ns.length c3)).set_ 1 (.bool true)) Tryz.underlying130 rfl (by kernel_rfl)) rfl ?_;refine ⟨.inr ⟨ns,.slice A3 ns.length c3,hyes.out,rfl,?_⟩,(hend.setCell (p:=⟨X + 1,0,none⟩) (by simp; omega) _).setCell (p:=⟨X + 1,1,none⟩) (by simp; omega) _⟩;exact zaw.base ze (zaw.keep ze hown'.out ((zc.set_ _ ⟨X + 1,0,none⟩ _ (by simp; omega)).trans (zc.set_ _ ⟨X + 1,1,none⟩ _ (by simp; omega)))) (by rw [hXq]; exact hXW)
end
section
open Go.RowKit
def zO (ns : List zP) : Int:=(ns.map (·.cost)).sum
def zjh (w : World) (b o : Nat) (n : zP) : Prop:=w.cell? ⟨b,o,none⟩ = some (.int .u8 n.kind) /\ w.cell? ⟨b,o + 1,none⟩ = some (.int .u8 n.state) /\ w.cell? ⟨b,o + 2,none⟩ = some (.int .i64 n.cost)
def zhs (w : World) (v : Value) (ns : List zP) : Prop:=Sl w v ns.length fun b off i=>zjh w b (off + i * 3) (ns.getD i zP.zero)
theorem zhs.stays {w w' : World} {v : Value} {ns : List zP} (h : zhs w v ns) (hs : zo w w') : zhs w' v ns:=
 Sl.stays h hs fun _ _ _ hb _ hc=>⟨(hs.2 _ hb).trans hc.1,(hs.2 _ hb).trans hc.2.1,(hs.2 _ hb).trans hc.2.2⟩
theorem zbT.notes {B : Nat} {w : World} {v : Value} {ns : List zP} (h : zbT B w v ns) : zhs w v ns:=
 (h.sl fun _=>rfl).plain fun b off i _ _ hi ⟨ho,_,hc⟩=>by
  subst ho;have hc':=hc hi;rw [zD _ _ _ hi];exact ⟨hc' 0 (by omega),hc' 1 (by omega),hc' 2 (by omega)⟩
def zkq (ns : List zP) : Prop:=∀ n ∈ ns,0 <= n.cost /\ n.cost <= 1000000
theorem zri (ns : List zP) (k : Nat) (h : k < ns.length) : zO (ns.take (k + 1)) = zO (ns.take k) + (ns.getD k zP.zero).cost:=by
 unfold zO;rw [zaO ns zP.zero k h,List.map_append,List.sum_append];simp
theorem zbD : ∀ (ns : List zP),zkq ns -> 0 <= zO ns /\ zO ns <= ns.length * 1000000
 | [],_=>by simp [zO]
 | n :: t,h=>by
  have h1:=zbD t fun x hx=>h x (List.mem_cons_of_mem _ hx);have h2:=h n (List.mem_cons_self ..);have e : zO (n :: t) = n.cost + zO t:=by simp [zO]
  rw [e,List.length_cons];omega
theorem zko (v : Value) (ns : List zP) (w : World) (h : zhs w v ns) (hc : zkq ns) (hl : ns.length <= 1000) : Calls Tryz.prog 61 #[v] w fun e w'=>e = .returned (.int .i64 (zO ns)) /\ Below w.heap.size w w':=by
 obtain ⟨A,c,rfl,hn,hcm,hA⟩:=h;unfold maxLen at hcm;have hA':=Hd hA;have hc':=Hd hc;clear hA hc;go_enter Tryz.func61,Tryz.ntmps61;go_wp2
 go_loopw [3,8] (fun sv iv wr=>∃ k : Nat,k <= ns.length /\ iv = .int .i64 k /\ sv = .int .i64 (zO (ns.take k)) /\ Below w.heap.size w wr) (fun _ iv _=>ns.length - (intOf iv).toNat)
 case atStart=>exact ⟨0,by omega,rfl,rfl,Below.refl _ _⟩
 case round=>
  obtain ⟨k,hk,rfl,rfl,hbw⟩:=hrel;rename World=>wr;have n0 : (0 : Int) <= (k : Int):=by omega
  by_cases hlt : k < ns.length
  ·have n1 : (k : Int) < (ns.length : Int):=by omega
   obtain ⟨b,off,rfl,hb,hi⟩:=hA'.out (by omega);obtain ⟨c0,c1,c2⟩:=hi k hlt;rw [<- hbw.cell (p:=⟨b,off + k * 3,none⟩) hb] at c0;rw [<- hbw.cell (p:=⟨b,off + k * 3 + 1,none⟩) hb] at c1;rw [<- hbw.cell (p:=⟨b,off + k * 3 + 2,none⟩) hb] at c2;have ht:=Hd (zri ns k hlt);have hx:=hc'.out (ns.getD k zP.zero) (by rw [zD _ _ _ hlt]; exact List.getElem_mem hlt);have hq:=zbD (ns.take k) fun x hx=>hc'.out x (List.mem_of_mem_take hx);have hlk : (ns.take k).length = k:=by rw [List.length_take]; omega
   rw [hlk] at hq;clear hi hlk;generalize ns.getD k zP.zero = x at *;generalize zO (ns.take k) = t at *;obtain ⟨kd,st,co⟩:=x;simp only at c0 c1 c2 hx ht;have hbr : b < wr.heap.size:=Nat.lt_of_lt_of_le hb hbw.size;have hend:=hbw.alloc hbw.size (.cells #[.int .u8 kd,.int .u8 st,.int .i64 co] 48);have hw : IntKind.i64.wrap (t + co) = t + co:=by simp [IntKind.wrap,IntKind.bits,IntKind.signed]; omega
   go_wp2;go_roundw
   case rel=>exact ⟨k + 1,by omega,by go_num,by rw [ht.out],hend⟩
   case measure=>simp [intOf]; omega
  ·obtain rfl : k = ns.length:=by omega
   go_wp2;go_ret;exact ⟨zbO (by rw [List.take_length]),hbw⟩
theorem zrk (w : World) : Calls Tryz.prog 97 #[] w fun e w'=>e = .returned (.agg #[.int .u8 8,.func (.func 152) #[] #[],.int .i64 6,.func (.func 153) #[] #[],.int .u8 9,.func (.func 154) #[] #[],.int .i64 1,.func (.func 91) #[] #[]]) /\ Below w.heap.size w w':=by
 have hb:=(Below.refl w.heap.size w).alloc (lQ _) (.cells #[.int .u8 8,.func (.func 152) #[] #[],.int .i64 6,.func (.func 153) #[] #[],.int .u8 9,.func (.func 154) #[] #[],.int .i64 1,.func (.func 91) #[] #[]] 166);go_enter Tryz.func97,Tryz.ntmps97;go_wp2;refine bodyPost_ret (results_cell_row (P:=Tryz.prog) Tryz.results97 _ _ _ _ _ _ _ rfl (Blk.new w 166 _) Tryz.underlying166 rfl (by kernel_rfl)) rfl ?_;exact ⟨rfl,hb⟩
theorem znK (w : World) : Calls Tryz.prog 98 #[] w fun e w'=>e = .returned (.agg #[.int .u8 3,.func (.func 155) #[] #[],.int .i64 1,.func (.func 91) #[] #[],.int .u8 4,.func (.func 156) #[] #[],.int .i64 (-1),.func (.func 153) #[] #[],.int .u8 5,.func (.func 157) #[] #[],.int .i64 2,.func (.func 91) #[] #[]]) /\ Below w.heap.size w w':=by
 have hb:=(Below.refl w.heap.size w).alloc (lQ _) (.cells #[.int .u8 3,.func (.func 155) #[] #[],.int .i64 1,.func (.func 91) #[] #[],.int .u8 4,.func (.func 156) #[] #[],.int .i64 (-1),.func (.func 153) #[] #[],.int .u8 5,.func (.func 157) #[] #[],.int .i64 2,.func (.func 91) #[] #[]] 168);go_enter Tryz.func98,Tryz.ntmps98;go_wp2;refine bodyPost_ret (results_cell_row (P:=Tryz.prog) Tryz.results98 _ _ _ _ _ _ _ rfl (Blk.new w 168 _) Tryz.underlying168 rfl (by kernel_rfl)) rfl ?_;exact ⟨rfl,hb⟩
end
end Go.Proofs.YtggimnndflkjkaaGreatDoor
