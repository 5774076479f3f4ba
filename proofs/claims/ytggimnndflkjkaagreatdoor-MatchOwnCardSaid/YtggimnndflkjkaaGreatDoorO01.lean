/- MatchOwn: the reading of a point's own parts means the point at the cost 0, with all parts agreeing, and no other point at 0. Conditions: none of its own; any sketch and any byte, in any world that the row's statement admits. -/
import Derived.Test.YtggimnndflkjkaaGreatDoorC01
import Derived.Test.YtggimnndflkjkaaGreatDoorC21
import Derived.Test.YtggimnndflkjkaaGreatDoorC41
import Derived.Test.YtggimnndflkjkaaGreatDoorC42
import Derived.Test.YtggimnndflkjkaaGreatDoorC44
import Derived.Test.YtggimnndflkjkaaGreatDoorC45
import Derived.OpenShut
import Derived.Test.YtggimnndflkjkaaGreatDoorTie
import Derived.Test.YtggimnndflkjkaaGreatDoorCards
import Derived.SevenTiedAt
set_option linter.all false
set_option maxRecDepth 100000
set_option maxHeartbeats 0
namespace Go.Proofs.YtggimnndflkjkaaGreatDoor
section
open Go.RowKit Go.Maps
structure zmV (s : zi) (p : zh) : Prop where
 fine : zpG (zb s) p
 right : (zae (zb s) && zR (zcT (zb s) p) (zm (zX (zb s) p))) = true
 small : zH (zm (zX (zb s) p))
 means : zaU (zb s) (zcT (zb s) p) (zm (zX (zb s) p)) p = some (zbs (zX (zb s) p))
 point : zaX (zb s) p.id = (p,true)
 all : ∃ rest,ziF (zb s) (zcT (zb s) p) (zm (zX (zb s) p)) = ⟨p.id,0,zbs (zX (zb s) p)⟩ :: rest /\ ∀ m ∈ rest,0 < m.cost
 few : (zb s).points.length <= 64
theorem zvw (s : zi) (p : zh) (h : p ∈ (zb s).points) : zmV s p where
 fine:=by
  obtain ⟨-,-,h3,h4,h5,h6,-,-⟩:=(zbl s).p p h;exact ⟨((zbl s).t p.town).1,((zbl s).s p.street).1,h5,h6,h3,h4⟩
 right:=by rw [zeE s,(zeL s p h).1]; rfl
 small:=(zeL s p h).2
 means:=zoP s p
 point:=zhR s p h
 all:=zyJ s p h
 few:=by have:=zew s (zaN s); have : (zb s).points.length = (zba s (zaN s)).length:=rfl; unfold zaN at *; omega
theorem zvz {x : zi} {p : zh} (F : zmV x p) {B : Nat} {e : Ending} {w' : World}
  (h : zzc (zae (zb x) && zR (zcT (zb x) p) (zm (zX (zb x) p))) (zaX (zb x) p.id).2 (zaX (zb x) p.id).1.id (zaU (zb x) (zcT (zb x) p) (zm (zX (zb x) p)) (zaX (zb x) p.id).1) B e w') :
  ∃ nA nc,e = .returned (.tuple #[.agg #[.int .i64 p.id,.int .i64 0,.slice nA (zm (zX (zb x) p)).length nc],.int .i64 0]) /\
   SlP (fun b=>B <= b) w' (.slice nA (zm (zX (zb x) p)).length nc) (zm (zX (zb x) p)).length fun b off i=>zjh w' b (off + i * 3) ⟨((zm (zX (zb x) p)).getD i zu.zero).kind,1,0⟩:=by
 rw [F.right,F.point,F.means] at h;rcases h with ⟨h,-⟩ | ⟨-,h,-⟩ | ⟨-,-,h,-⟩ | ⟨-,-,ns,nv,h1,rfl,h3⟩
 ·cases h
 ·cases h
 ·cases h
 ·obtain rfl : zbs (zX (zb x) p) = ns:=Option.some.inj h1
  rw [zoQ];have hl : (zbs (zX (zb x) p)).length = (zm (zX (zb x) p)).length:=by unfold zbs; rw [List.length_map]
  have h4:=h3;obtain ⟨nA,nc,rfl,-⟩:=h4;rw [hl] at h3 ⊢;refine ⟨nA,nc,rfl,?_⟩;unfold zbw at h3;rw [hl] at h3;refine SlP.map h3 (lQ _) (fun _ _ hb=>hb) fun b off i _ _ hi hc=>?_
  have e1 : (zbs (zX (zb x) p)).getD i zP.zero = ⟨((zm (zX (zb x) p)).getD i zu.zero).kind,1,0⟩:=by
   rw [zD _ _ _ (by rw [hl]; exact hi),zD _ _ _ hi];unfold zbs;rw [List.getElem_map]
  rw [<- e1];exact hc
theorem zxm {x : zi} {p : zh} (F : zmV x p) {B : Nat} {e : Ending} {w' : World}
  (h : ztS (zae (zb x) && zR (zcT (zb x) p) (zm (zX (zb x) p))) (ziF (zb x) (zcT (zb x) p) (zm (zX (zb x) p))) B e w') :
  ∃ mb mn mc,e = .returned (.tuple #[.slice (some ⟨mb,0,none⟩) mn mc,.int .i64 0]) /\ 0 < mn /\ mb < w'.heap.size /\ w'.cell? ⟨mb,0,none⟩ = some (.int .i64 p.id) /\ (1 < mn -> ∃ c : Int,0 < c /\ w'.cell? ⟨mb,4,none⟩ = some (.int .i64 c)):=by
 rw [F.right] at h;rcases h with ⟨h,-⟩ | ⟨-,v,ms,rfl,hown,hpl⟩
 ·cases h
 obtain ⟨rest,hall,hpos⟩:=F.all;rw [hall] at hpl;obtain ⟨A,c,rfl,-,-,hA⟩:=hown.sl (fun _=>rfl)
 cases ms with
 | nil=>cases hpl
 | cons m0 ms=>
  rw [List.map_cons,List.cons.injEq] at hpl;obtain ⟨e0,er⟩:=hpl;obtain ⟨b,off,rfl,hb,-,hi⟩:=hA (by simp);obtain ⟨rfl,-,h0⟩:=hi 0 (by simp);have c0:=h0 (by simp) 0 (by omega);refine ⟨b,_,c,rfl,by simp,hb,?_,fun h1=>?_⟩
  ·have : m0.plain.point = p.id:=by rw [e0]
   simp only [zgi,Nat.zero_add,Nat.zero_mul,gZ,List.getElem?_cons_zero] at c0;rw [c0,<- this];rfl
  ·obtain ⟨-,-,h2⟩:=hi 1 h1
   have c1:=h2 h1 1 (by omega);have hm : ms[0]'(by simpa using h1) ∈ ms:=List.getElem_mem _;have hp1:=hpos _ (by rw [<- er]; exact List.mem_map_of_mem hm);refine ⟨(ms[0]'(by simpa using h1)).plain.cost,hp1,?_⟩;simp only [zgi,Nat.zero_add,Nat.one_mul,gQ,List.getElem?_cons_succ,List.getElem?_cons_zero] at c1;rw [show (4 : Nat) = 3 + 1 from rfl,c1];rfl
theorem zvv (x : zi) (vc vp : Value) (a1 : Int) (w : World) (hs : zbS w vc vp x) (hw1 : (Lit.int .u8 a1).wf = true) (htab : zbz w) :
  Calls Tryz.prog 3 #[.agg #[.int .u8 (x.towns : Int),.int .u8 (x.streets : Int),vc,vp],.int .u8 a1] w fun e w'=>e = .returned (.bool true) /\ Below w.heap.size w w':=by
 obtain ⟨wh,rfl,hwh⟩ : ∃ n : Nat,a1 = (n : Int) /\ n < 256:=by
  have:=bounds_u8 hw1;exact ⟨a1.toNat,by omega,by omega⟩
 obtain ⟨cA,cc,rfl,-⟩:=hs.c;obtain ⟨pA,pc,rfl,-⟩:=hs.p;have hs':=Hd hs;have htab':=Hd htab;clear hs hw1 htab;go_enter Tryz.func3,Tryz.ntmps3;go_upto_region 1 with fail;have hb0:=Hd ((Below.refl w.heap.size w).alloc (lQ _) (.cells #[.int .u8 (x.towns : Int),.int .u8 (x.streets : Int),.slice cA x.cuts.length cc,.slice pA x.points.length pc] 25));have kS:=Hd (Blk.new w 25 #[.int .u8 (x.towns : Int),.int .u8 (x.streets : Int),.slice cA x.cuts.length cc,.slice pA x.points.length pc]);generalize w.alloc (.cells #[.int .u8 (x.towns : Int),.int .u8 (x.streets : Int),.slice cA x.cuts.length cc,.slice pA x.points.length pc] 25) = W0 at *;have c0:=kS.out.cell 0;have c1:=kS.out.cell 1;have c2:=kS.out.cell 2;have c3:=kS.out.cell 3;have lS:=kS.out.lt;simp at c0 c1 c2 c3;go_wp2_with fail;refine (zik x _ _ wh W0 (hs'.out.stays (zo.of hb0.out)) hwh).mono ?_;rintro e w1 ⟨vt,vs,vr,vq,hr,hb1,hcase⟩;clear c0 c1 c2 c3 lS kS;have hbw:=Hd (hb0.out.trans (hb1.mono hb0.out.size));obtain ⟨⟨tA,tn,tc,rfl⟩,⟨sA,sn,sc,rfl⟩,⟨rA,rn,rc,rfl⟩,⟨qA,qn,qc,rfl⟩⟩:=hr.forms;obtain ⟨-,rfl⟩ | ⟨p,hp,rfl⟩:=hcase
 ·unfold zaz zh.zero
  have hb2:=Hd ((hbw.out.alloc hbw.out.size (.cells #[.slice tA tn tc,.slice sA sn sc,.slice rA rn rc,.slice qA qn qc] 31)).alloc (by have:=hbw.out.size; simp; omega) (.cells #[.int .i64 0,.int .i64 0,.int .i64 0,.int .i64 0,.string ⟨#[]⟩,.string ⟨#[]⟩,.int .i64 0,.int .i64 0] 33));go_upto_region 2 with fail;generalize (w1.alloc (.cells #[.slice tA tn tc,.slice sA sn sc,.slice rA rn rc,.slice qA qn qc] 31)).alloc (.cells #[.int .i64 0,.int .i64 0,.int .i64 0,.int .i64 0,.string ⟨#[]⟩,.string ⟨#[]⟩,.int .i64 0,.int .i64 0] 33) = w2 at *;go_wp2_with fail;refine (zbq w2 (htab'.out.below hb2.out)).mono ?_;rintro e w3 ⟨rfl,hb3⟩;go_wp2;go_ret;exact ⟨rfl,hb2.out.trans (hb3.mono hb2.out.size)⟩
 ·have F:=Hd (zvw x p hp)
  unfold zaz;have hb2:=Hd ((hbw.out.alloc hbw.out.size (.cells #[.slice tA tn tc,.slice sA sn sc,.slice rA rn rc,.slice qA qn qc] 31)).alloc (by have:=hbw.out.size; simp; omega) (.cells #[.int .i64 p.id,.int .i64 p.town,.int .i64 p.street,.int .i64 p.number,.string p.letter,.string p.unit,.int .i64 p.box,.int .i64 p.seq] 33));have kF:=Hd ((Blk.new w1 31 #[.slice tA tn tc,.slice sA sn sc,.slice rA rn rc,.slice qA qn qc]).alloc (.cells #[.int .i64 p.id,.int .i64 p.town,.int .i64 p.street,.int .i64 p.number,.string p.letter,.string p.unit,.int .i64 p.box,.int .i64 p.seq] 33));have kP:=Hd (Blk.new_at (w1.alloc (.cells #[.slice tA tn tc,.slice sA sn sc,.slice rA rn rc,.slice qA qn qc] 31)) 33 #[.int .i64 p.id,.int .i64 p.town,.int .i64 p.street,.int .i64 p.number,.string p.letter,.string p.unit,.int .i64 p.box,.int .i64 p.seq] (w1.heap.size + 1) (by simp));have hr2:=Hd (hr.stays (zo.of (((Below.refl w1.heap.size w1).alloc (lQ _) (.cells #[.slice tA tn tc,.slice sA sn sc,.slice rA rn rc,.slice qA qn qc] 31)).alloc (by simp) (.cells #[.int .i64 p.id,.int .i64 p.town,.int .i64 p.street,.int .i64 p.number,.string p.letter,.string p.unit,.int .i64 p.box,.int .i64 p.seq] 33))));clear hr hb1;go_upto_region 2 with fail;generalize (w1.alloc (.cells #[.slice tA tn tc,.slice sA sn sc,.slice rA rn rc,.slice qA qn qc] 31)).alloc (.cells #[.int .i64 p.id,.int .i64 p.town,.int .i64 p.street,.int .i64 p.number,.string p.letter,.string p.unit,.int .i64 p.box,.int .i64 p.seq] 33) = w2 at *;generalize w1.heap.size + 1 = N6 at *;generalize w1.heap.size = N5 at *;have hbr2:=hb2;go_upto_region 4 with fail;have f0:=kF.out.cell 0;have f1:=kF.out.cell 1;have f2:=kF.out.cell 2;have f3:=kF.out.cell 3;have lF:=kF.out.lt;have g0:=kP.out.cell 0;have g1:=kP.out.cell 1;have g2:=kP.out.cell 2;have g3:=kP.out.cell 3;have g4:=kP.out.cell 4;have g5:=kP.out.cell 5;have g6:=kP.out.cell 6;have g7:=kP.out.cell 7;have lP:=kP.out.lt;simp at f0 f1 f2 f3 g0 g1 g2 g3 g4 g5 g6 g7;go_wp2_with fail;refine (zrV _ _ _ _ (zb x) p w2 hr2.out F.out.fine (htab'.out.below hb2.out)).mono ?_;rintro e w3 ⟨v,rfl,hown,hb3⟩;have hpp:=Hd hown.parts;obtain ⟨vA,vm,rfl⟩:=hown.form_;clear f0 f1 f2 f3 lF g0 g1 g2 g3 g4 g5 g6 g7 lP hown;have hpt:=Hd (fun (W : World) h1 h2 h3=>(zcA (.slice tA tn tc) (.slice sA sn sc) (.slice rA rn rc) (.slice qA qn qc) (zb x) (zcT (zb x) p) (.slice vA (zm (zX (zb x) p)).length vm) (zm (zX (zb x) p)) p.id W h1 (zbv x) h2 F.out.small (fun _=>zbl x) h3).mono (fun e w' hh=>And.intro (zvz F.out hh.1) hh.2));have hal:=Hd (fun (W : World) h1 h2 h3=>(zfP (.slice tA tn tc) (.slice sA sn sc) (.slice rA rn rc) (.slice qA qn qc) (zb x) (zcT (zb x) p) (.slice vA (zm (zX (zb x) p)).length vm) (zm (zX (zb x) p)) W h1 (zbv x) h2 F.out.small (fun _=>zbl x) h3 F.out.few (fun _=>zce x)).mono (fun e w' hh=>And.intro (zxm F.out hh.1) hh.2));have hp10 : (zm (zX (zb x) p)).length <= 10:=zcX _ 10;clear F hp;generalize zcT (zb x) p = c at *;generalize zm (zX (zb x) p) = ps at *;have hb4:=Hd ((hb2.out.trans (hb3.mono hb2.out.size)).alloc (Nat.le_trans hb2.out.size hb3.size) (.cells #[.int .u8 c,.slice vA ps.length vm] 39));have kF4:=Hd ((kF.out.below hb3 kF.out.lt).alloc (.cells #[.int .u8 c,.slice vA ps.length vm] 39));have kP4:=Hd ((kP.out.below hb3 kP.out.lt).alloc (.cells #[.int .u8 c,.slice vA ps.length vm] 39));have kR4:=Hd (Blk.new w3 39 #[.int .u8 c,.slice vA ps.length vm]);have hr4:=Hd (hr2.out.stays (zo.of (hb3.alloc hb3.size (.cells #[.int .u8 c,.slice vA ps.length vm] 39))));have hp4:=Hd (hpp.out.stays (zo.of ((Below.refl w3.heap.size w3).alloc (lQ _) (.cells #[.int .u8 c,.slice vA ps.length vm] 39))))
  clear kF kP hr2 hpp hb2 hbr2 hbw hb0 hs';go_upto_region 5 with fail;clear hb3;generalize w3.alloc (.cells #[.int .u8 c,.slice vA ps.length vm] 39) = w4 at *;generalize w3.heap.size = N8 at *;have f0:=kF4.out.cell 0;have f1:=kF4.out.cell 1;have f2:=kF4.out.cell 2;have f3:=kF4.out.cell 3;have lF:=kF4.out.lt;have g0:=kP4.out.cell 0;have lP:=kP4.out.lt;have r0:=kR4.out.cell 0;have r1:=kR4.out.cell 1;have lR:=kR4.out.lt;simp at f0 f1 f2 f3 g0 r0 r1;go_wp2_with fail;refine (hpt.out w4 hr4.out hp4.out (htab'.out.below hb4.out)).mono ?_;rintro e w5 ⟨⟨nA,nc,rfl,hn⟩,hb5⟩;clear f0 f1 f2 f3 lF g0 lP r0 r1 lR;have hb6:=Hd ((hb4.out.trans (hb5.mono hb4.out.size)).alloc (Nat.le_trans hb4.out.size hb5.size) (.cells #[.int .i64 p.id,.int .i64 0,.slice nA ps.length nc] 43));have kF6:=Hd ((kF4.out.below hb5 kF4.out.lt).alloc (.cells #[.int .i64 p.id,.int .i64 0,.slice nA ps.length nc] 43));have kP6:=Hd ((kP4.out.below hb5 kP4.out.lt).alloc (.cells #[.int .i64 p.id,.int .i64 0,.slice nA ps.length nc] 43));have kR6:=Hd ((kR4.out.below hb5 kR4.out.lt).alloc (.cells #[.int .i64 p.id,.int .i64 0,.slice nA ps.length nc] 43));have kM6:=Hd (Blk.new w5 43 #[.int .i64 p.id,.int .i64 0,.slice nA ps.length nc]);have h56:=(Below.refl w5.heap.size w5).alloc (lQ _) (.cells #[.int .i64 p.id,.int .i64 0,.slice nA ps.length nc] 43);have hr6:=Hd (hr4.out.stays (zo.of (hb5.alloc hb5.size (.cells #[.int .i64 p.id,.int .i64 0,.slice nA ps.length nc] 43))));have hp6:=Hd (hp4.out.stays (zo.of (hb5.alloc hb5.size (.cells #[.int .i64 p.id,.int .i64 0,.slice nA ps.length nc] 43))));have hn6:=Hd (SlP.map hn h56.size (fun _ _ hb=>hb) (fun b off i hb _ _ hc=>zjh.keep hc (zc.of_below h56 (fun _=>True)) hb trivial));clear hb4 kF4 kP4 kR4 hr4 hp4 hn h56;go_upto_region 6 with fail;clear hb5;generalize w5.alloc (.cells #[.int .i64 p.id,.int .i64 0,.slice nA ps.length nc] 43) = w6 at *;generalize w5.heap.size = N9 at *;have g0:=kP6.out.cell 0;have lP:=kP6.out.lt;have r1:=kR6.out.cell 1;have lR:=kR6.out.lt;have m0:=kM6.out.cell 0;have m1:=kM6.out.cell 1;have m2:=kM6.out.cell 2;have lM:=kM6.out.lt;simp at g0 r1 m0 m1 m2;go_upto_region 8 with fail;go_wp2;clear g0 lP r1 lR m0 m1 m2 lM
  go_loopw [62] (fun kv wr=>∃ k : Nat,k <= ps.length /\ kv = .int .i64 k /\ Hid (Below w6.heap.size w6 wr)) (fun kv _=>ps.length - (intOf kv).toNat)
  case atStart=>exact ⟨0,by omega,rfl,Hd (Below.refl _ _)⟩
  case round=>
   obtain ⟨k,hk,rfl,hbr⟩:=hrel;rename World=>wr;have n0 : (0 : Int) <= (k : Int):=by omega
   by_cases hlt : k < ps.length
   ·have n1 : (k : Int) < (ps.length : Int):=by omega
    obtain ⟨A',c',hv2,-,-,hA⟩:=hn6.out;obtain ⟨nb,no,rfl,hnb,-,hni⟩:=hA (by omega);injection hv2 with e1 _ e3;subst e1;obtain ⟨a0,a1,a2⟩:=hni k hlt;rw [<- hbr.out.cell (p:=⟨nb,no + k * 3,none⟩) hnb] at a0;rw [<- hbr.out.cell (p:=⟨nb,no + k * 3 + 1,none⟩) hnb] at a1;rw [<- hbr.out.cell (p:=⟨nb,no + k * 3 + 2,none⟩) hnb] at a2;obtain ⟨B',d',hq2,-,-,hB⟩:=hp6.out;obtain ⟨qb,qo,rfl,hqb,hqi⟩:=hB (by omega);injection hq2 with e1 _ e3;subst e1;obtain ⟨b0,-⟩:=hqi k hlt;generalize (ps.getD k zu.zero).kind = kd at *;clear hA hni hB hqi;have hbx:=Hd (hbr.out.alloc hbr.out.size (.cells #[.int .u8 kd,.int .u8 1,.int .i64 0] 48));have kT:=Hd (Blk.new wr 48 #[.int .u8 kd,.int .u8 1,.int .i64 0]);go_upto_region 11 with fail;clear a0 a1 a2;generalize wr.alloc (.cells #[.int .u8 kd,.int .u8 1,.int .i64 0] 48) = wx at *;generalize wr.heap.size = NT at *;refine zC rfl (by kernel_rfl) ?_;have y0:=fun (u : Ups wx)=>(kT.out.ups u).cell 0;have y1:=fun (u : Ups wx)=>(kT.out.ups u).cell 1;have y2:=fun (u : Ups wx)=>(kT.out.ups u).cell 2;have z1:=fun (u : Ups wx)=>((kR6.out.below hbx.out kR6.out.lt).ups u).cell 1;simp at y0 y1 y2 z1;have z0:=fun (u : Ups wx)=>((hbx.out.trans (u.up.mono hbx.out.size)).cell (p:=⟨qb,qo + k * 2,none⟩) hqb).trans b0
    repeat (go_big_quiet_step (fail))
    refine wpQuiet_nil ?_;rintro w' ⟨u,rfl⟩;have hu:=Hd (hbx.out.trans (u.up.mono hbx.out.size));clear y0 y1 y2 z0 z1 hbx kT;generalize u.wld = wz at *;go_wp2;go_roundw
    case rel=>exact ⟨k + 1,by omega,by go_num,hu⟩
    case measure=>simp [intOf]; omega
   ·obtain rfl : k = ps.length:=by omega
    have n1 : ¬ (ps.length : Int) < (ps.length : Int):=by omega
    have hb7:=Hd (hb6.out.trans (hbr.out.mono hb6.out.size));have kF7:=Hd (kF6.out.below hbr.out kF6.out.lt);have kP7:=Hd (kP6.out.below hbr.out kP6.out.lt);have kR7:=Hd (kR6.out.below hbr.out kR6.out.lt);have hr7:=Hd (hr6.out.stays (zo.of hbr.out));have hp7:=Hd (hp6.out.stays (zo.of hbr.out));clear kF6 kP6 kR6 kM6 hr6 hp6 hn6 hb6 hbr hpt;go_upto_region 14 with fail;have f0:=kF7.out.cell 0;have f1:=kF7.out.cell 1;have f2:=kF7.out.cell 2;have f3:=kF7.out.cell 3;have lF:=kF7.out.lt;have r0:=kR7.out.cell 0;have r1:=kR7.out.cell 1;have lR:=kR7.out.lt;simp at f0 f1 f2 f3 r0 r1;go_wp2_with fail;refine (hal.out wr hr7.out hp7.out (htab'.out.below hb7.out)).mono ?_;rintro e w8 ⟨⟨mb,mn,mc,rfl,hmn,hmb,hm0,hm4⟩,hb8⟩;clear f0 f1 f2 f3 lF r0 r1 lR kF7 kR7 hr7 hp7 hal;have hb8w:=Hd (hb7.out.trans (hb8.mono hb7.out.size));have kP8:=Hd (kP7.out.below hb8 kP7.out.lt);clear kP7 hb7 hb8;go_upto_region 15 with fail;refine zC rfl (by kernel_rfl) ?_;have y0:=fun (u : Ups w8)=>(kP8.out.ups u).cell 0;simp at y0;have z0:=fun (u : Ups w8)=>u.cellAt hm0 hmb;have n2 : (0 : Int) < (mn : Int):=by omega
    have n3 : ((mn : Int) == 0) = false:=by simp; omega
    repeat (go_big_quiet_step (fail))
    refine wpQuiet_nil ?_;rintro w' ⟨u,rfl⟩;have hu:=Hd (hb8w.out.trans (u.up.mono hb8w.out.size));have hm4':=Hd (fun h=>(hm4 h).elim fun c hc=>Exists.intro c (And.intro hc.1 (u.cellAt hc.2 hmb)));have hmb' : mb < u.wld.heap.size:=Nat.lt_of_lt_of_le hmb u.up.size;clear y0 z0 hm0 hm4 hmb kP8;generalize u.wld = w9 at *;by_cases h1 : mn = 1
    ·have e1 : ((mn : Int) == 1) = true:=by simp [h1]
     go_wp2_with fail;refine (zbq w9 (htab'.out.below hu.out)).mono ?_;rintro e w10 ⟨rfl,hb10⟩;go_wp2;go_ret;exact ⟨rfl,hu.out.trans (hb10.mono hu.out.size)⟩
    ·have e1 : ((mn : Int) == 1) = false:=by simp; omega
     obtain ⟨c1,hc1,hm4⟩:=hm4'.out (by omega);have n4 : (1 : Int) < (mn : Int):=by omega
     go_wp2_with fail;refine (zbq w9 (htab'.out.below hu.out)).mono ?_;rintro e w10 ⟨rfl,hb10⟩;go_wp2;go_ret;exact ⟨rfl,hu.out.trans (hb10.mono hu.out.size)⟩
end
section
open Go.ChangeShapes Go.WideShapes Go.ChangeAt Go.RowKit
theorem zld (os : Os) (started : os.Started) (H : Type) (enc : TypeId × Value -> H) :
  ReturnsInHanded {} Tryz.checked os 3 .any (fun w args=>(Rows.matchOwnSpec.pre enc Tryz.prog Tryz.f3 Rows.matchOwnRow.domain false w args /\ laidMetH Tryz.prog Rows.matchOwnRow.laid w) /\ sizedMet enc Tryz.prog Tryz.f3 (OpenSpec.ofChange Rows.matchOwnSpec) false w args)
   (Rows.matchOwnSpec.post enc Tryz.prog Tryz.f3 false true false false):=by
 refine returnsInHanded_of_change_and (C:=Tryz.checked) (X:=fun w _=>laidMetH Tryz.prog Rows.matchOwnRow.laid w) (fun _ _ _ hh h=>h.of_heap hh) zkj started (by kernel_rfl) Tryz.func3
  (ChangeSpec.witness_shaped (enc:=enc) (C:=Tryz.checked) (os:=os) (X:=fun w _=>laidMetH Tryz.prog Rows.matchOwnRow.laid w) false (World.laidAll Tryz.prog os Rows.matchOwnRow.laid) #[.agg #[.int .u8 0,.int .u8 0,.slice none 0 0,.slice none 0 0],.int .u8 0] 8 (World.laidAll_os _ _ _)
   (World.shaped_of_ZipB (by kernel_rfl) (by kernel_rfl)) (by kernel_rfl) (by kernel_rfl) (by kernel_rfl)
   (by rw [MakeChecks.laidMetH_plain _ _ _ (by kernel_rfl)]; exact laidMet_laidAll _ (by kernel_rfl) (by kernel_rfl))) ?_
 intro W base args ds gs before hval0 hW hc _ hL _;have hval : ∀ (j : Nat) t v,Tryz.f3.params[j]? = some t -> args[j]? = some v -> Value.okWide Tryz.prog W .any base t v:=hval0;have hW':=hW;obtain ⟨p,q,hA0,hV,rfl,hfz,hnd⟩:=hW;have hA : DataW.TrodAll enc Tryz.prog W 0 (fun _=>true) true Tryz.f3.params.toList args.toList ds p:=hA0;rw [Tryz.params3] at hA hval;obtain ⟨v0,vs0,d0,ds0,p0,q0,hargs,rfl,rfl,h0,r0⟩:=trodAll_cons hA;obtain ⟨v1,vs1,d1,ds1,p1,q1,rfl,rfl,rfl,h1,r1⟩:=trodAll_cons r0;obtain ⟨rfl,rfl,rfl⟩:=trodAll_nil r1;obtain rfl : args = #[v0,v1]:=by cases args; simp_all
 obtain ⟨rfl,rfl⟩:=trodVars_none hV;obtain ⟨cs,rfl,hcsz⟩:=okWide_struct Tryz.underlying25 (hval 0 25 v0 rfl rfl);have k0:=h0;have lt0 : ∀ x ∈ p0,x.block < W.heap.size:=by obtain ⟨m,hm⟩:=k0; exact DataW.trod_lt m _ _ _ hm
 obtain ⟨s,vc,vp,hcs,hs⟩ : ∃ (s : zi) (vc vp : Value),cs = #[.int .u8 (s.towns : Int),.int .u8 (s.streets : Int),vc,vp] /\ zbS W vc vp s:=by
  obtain ⟨fuel,hf⟩:=h0;obtain ⟨s,vc,vp,h1,h2⟩:=zit hf;refine ⟨s,vc,vp,?_,h2⟩;cases cs
  simp [Value.cells] at h1;rw [h1]
 subst hcs;obtain ⟨a1,rfl,rfl,rfl,w1⟩:=open_int Tryz.underlying5 (hval 1 5 v1 rfl rfl) h1;clear hA0 hval0;refine (zvv s vc vp a1 W hs w1 (zfV hL)).mono fun e W' ⟨he,bel⟩=>?_;subst he;exact ⟨_,rfl,_,_,_,[],_,[],hW',trodAll_mk1 (shut_bool Tryz.underlying4 _),(trodAll_cons_mk (Below.trod zke (by kernel_rfl) (of_decide_eq_true (by kernel_rfl)) k0 bel lt0) (trodAll_cons_mk (shut_int Tryz.underlying5 w1) trodAll_mk0)),rfl,bel.frame _,fun h=>by cases h⟩
theorem zlX : Rows.MatchOwnSaid:=
 OpenClaim.holds_of_wide 3 Tryz.f3 rfl rfl rfl rfl rfl rfl rfl ⟨rfl,rfl,rfl,rfl,rfl⟩ rfl rfl rfl rfl rfl (by kernel_rfl) Tryz.func3 (by kernel_rfl)
  (of_decide_eq_true (by kernel_rfl)) (by unfold Func.isWrapper; first | (rw [if_pos (by decide +kernel)]; kernel_rfl) | (rw [if_neg (by decide +kernel)]; exact ⟨rfl,rfl⟩))
  (fun os started H enc _=>zld os started H enc)
theorem matchOwn_card_holds : Rows.MatchOwnCardSaid:=
 Claim7.holds_tied_plain_at .later [] [.data,.data,.data,.data,.pinned] true (true,"723741566ef359c4faf7b021fa85f20e4c6214f58269e36c64195f5ff5da4cec") false zlX (fun _ h=>by cases h) (by kernel_rfl) (fun _ h=>by cases h) matchOwn_row_tie rfl ⟨rfl,rfl⟩ (by kernel_rfl) rfl
  (fun f fn hf hfn=>by
   obtain rfl : f = 3:=Option.some.inj ((show Tryz.prog.funcNamed "letterbag/letterbaglaw14.MatchOwn" = some 3 by kernel_rfl).symm.trans hf) |>.symm;obtain rfl : fn = Tryz.f3:=(Option.some.inj (Tryz.func3.symm.trans hfn)).symm
   exact ⟨by kernel_rfl,fun j t ht=>by
    rw [Tryz.params3] at ht;have hm : t ∈ [25,5]:=by simpa using Array.mem_of_getElem? ht
    have hall : ([25,5].all fun u=>!Tryz.prog.wantsStandIn u) = true:=by kernel_rfl
    exact (show Tryz.prog.wantsStandIn t = false by simpa using List.all_eq_true.1 hall t hm)⟩)
  (by kernel_rfl)
#print axioms matchOwn_card_holds
end
end Go.Proofs.YtggimnndflkjkaaGreatDoor
