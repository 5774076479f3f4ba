/- MatchNever: with another number, letter, unit, box or country the reading of a point never means it. Conditions: none of its own; any sketch, bytes and number, in any world that the row's statement admits. -/
import Derived.Test.YtggimnndflkjkaaGreatDoorC01
import Derived.Test.YtggimnndflkjkaaGreatDoorC21
import Derived.Test.YtggimnndflkjkaaGreatDoorC46
import Derived.Test.YtggimnndflkjkaaGreatDoorX01
import Derived.Test.YtggimnndflkjkaaGreatDoorTie
import Derived.Test.YtggimnndflkjkaaGreatDoorCards
import Derived.SevenTiedAt
set_option linter.all false
set_option maxRecDepth 100000
set_option maxHeartbeats 0
namespace Go.Proofs.YtggimnndflkjkaaGreatDoor
section
open Go.RowKit Go.Maps
theorem zqC {x : zi} {p : zh} {c : Int} {ps : List zu} {k : Nat} (h : zjM x p c ps k) (hp : zaX (zb x) p.id = (p,true)) {B : Nat} {e : Ending} {w' : World}
  (he : zzc (zae (zb x) && zR c ps) (zaX (zb x) p.id).2 (zaX (zb x) p.id).1.id (zaU (zb x) c ps (zaX (zb x) p.id).1) B e w') :
  ∃ er : Int,er ≠ 0 /\ (k ≠ 4 -> er = 140) /\ e = .returned (.tuple #[.agg #[.int .i64 0,.int .i64 0,.slice none 0 0],.int .i64 er]):=by
 rw [hp,zeE x,Bool.true_and,h.none_] at he;rcases he with ⟨h1,rfl⟩ | ⟨-,h1,-⟩ | ⟨-,-,-,rfl⟩ | ⟨-,-,ns,nv,h1,-⟩
 ·exact ⟨2,by decide,fun hk=>(by rw [h.right hk] at h1; cases h1),rfl⟩
 ·cases h1
 ·exact ⟨140,by decide,fun _=>rfl,rfl⟩
 ·cases h1
def zzR (id : Int) (B : Nat) (w' : World) (A : Option Addr) (n c : Nat) : Prop:=
 SlP (fun b=>B <= b) w' (.slice A n c) n fun b off i=>∃ (a d : Int) (A2 : Option Addr) (n2 c2 : Nat),a ≠ id /\ w'.cell? ⟨b,off + i * 3,none⟩ = some (.int .i64 a) /\ w'.cell? ⟨b,off + i * 3 + 1,none⟩ = some (.int .i64 d) /\ w'.cell? ⟨b,off + i * 3 + 2,none⟩ = some (.slice A2 n2 c2)
theorem zte {x : zi} {p : zh} {c : Int} {ps : List zu} {k : Nat} (h : zjM x p c ps k) (hp : p ∈ (zb x).points) {B : Nat} {e : Ending} {w' : World}
  (he : ztS (zae (zb x) && zR c ps) (ziF (zb x) c ps) B e w') :
  ∃ (A : Option Addr) (n cp : Nat) (er : Int),e = .returned (.tuple #[.slice A n cp,.int .i64 er]) /\ (k ≠ 4 -> er = 0 /\ zzR p.id B w' A n cp):=by
 rw [zeE x,Bool.true_and] at he;rcases he with ⟨h1,rfl⟩ | ⟨-,v,ms,rfl,hown,hpl⟩
 ·exact ⟨none,0,0,2,rfl,fun hk=>(by rw [h.right hk] at h1; cases h1)⟩
 ·obtain ⟨A,cp,rfl⟩:=hown.form_
  have hn:=zwB x p hp c ps h.none_;refine ⟨A,ms.length,cp,0,rfl,fun _=>⟨rfl,?_⟩⟩;refine SlP.map (hown.sl (fun _=>rfl)) (lQ _) (fun _ _ hb=>hb) fun b off i _ _ hi hc=>?_;obtain ⟨-,-,hc⟩:=hc;have c0:=hc hi 0 (by omega);have c1:=hc hi 1 (by omega);have c2:=hc hi 2 (by omega);simp only [zgi,zcl.value,List.getElem?_cons_zero,List.getElem?_cons_succ,Nat.add_zero] at c0 c1 c2;refine ⟨ms[i].point,ms[i].cost,ms[i].A,ms[i].n,ms[i].c,?_,c0,c1,c2⟩;have hm : ms[i].plain ∈ ziF (zb x) c ps:=by rw [<- hpl]; exact List.mem_map_of_mem (List.getElem_mem hi)
  exact hn _ hm
theorem zvC {c : Int} {ps : List zu} (h : zR c ps = true) : 0 < ps.length:=by
 cases ps with
 | nil=>rw [zlr] at h; cases h
 | cons a l=>simp
theorem zno (u : Nat) (w : World) (h : u < 1000000) (ht : zbz w) : Calls Tryz.prog 19 #[.int .i64 (u : Int)] w fun e w'=>e = .returned (.string (zef u)) /\ Below w.heap.size w w':=zuU (u : Int) w (by omega) (by omega) ht
def ziG (x : zi) (p : zh) (k NO : Nat) (w0 wx : World) (c : Int) (A : Option Addr) (n m : Nat) (ps : List zu) : Prop:=
 Below NO w0 wx /\ Blk wx NO 39 #[.int .u8 c,.slice A n m] /\ zav wx (.slice A n m) ps /\ zjM x p c ps k
theorem zqB (x : zi) (vc vp : Value) (a1 a2 a3 : Int) (w : World) (hs : zbS w vc vp x) (hw1 : (Lit.int .u8 a1).wf = true) (hw2 : (Lit.int .u8 a2).wf = true) (hw3 : (Lit.int .u16 a3).wf = true) (htab : zbz w) :
  Calls Tryz.prog 6 #[.agg #[.int .u8 (x.towns : Int),.int .u8 (x.streets : Int),vc,vp],.int .u8 a1,.int .u8 a2,.int .u16 a3] w fun e w'=>e = .returned (.bool true) /\ Below w.heap.size w w':=by
 obtain ⟨wh,rfl,hwh⟩ : ∃ n : Nat,a1 = (n : Int) /\ n < 256:=by
  have:=bounds_u8 hw1;exact ⟨a1.toNat,by omega,by omega⟩
 obtain ⟨wy,rfl,hwy⟩ : ∃ n : Nat,a2 = (n : Int) /\ n < 256:=by
  have:=bounds_u8 hw2;exact ⟨a2.toNat,by omega,by omega⟩
 obtain ⟨u,rfl,hu⟩ : ∃ n : Nat,a3 = (n : Int) /\ n < 65536:=by
  have:=bounds_u16 hw3;exact ⟨a3.toNat,by omega,by omega⟩
 obtain ⟨cA,cc,rfl,-⟩:=hs.c;obtain ⟨pA,pc,rfl,-⟩:=hs.p;have hs':=Hd hs;have htab':=Hd htab;clear hs hw1 hw2 hw3 htab;go_enter Tryz.func6,Tryz.ntmps6;go_upto_region 1 with fail;have hb0:=Hd ((Below.refl w.heap.size w).alloc (lQ _) (.cells #[.int .u8 (x.towns : Int),.int .u8 (x.streets : Int),.slice cA x.cuts.length cc,.slice pA x.points.length pc] 25));have kS:=Hd (Blk.new w 25 #[.int .u8 (x.towns : Int),.int .u8 (x.streets : Int),.slice cA x.cuts.length cc,.slice pA x.points.length pc]);generalize w.alloc (.cells #[.int .u8 (x.towns : Int),.int .u8 (x.streets : Int),.slice cA x.cuts.length cc,.slice pA x.points.length pc] 25) = W0 at *;have c0:=kS.out.cell 0;have c1:=kS.out.cell 1;have c2:=kS.out.cell 2;have c3:=kS.out.cell 3;have lS:=kS.out.lt;simp at c0 c1 c2 c3;go_wp2_with fail;refine (zik x _ _ wh W0 (hs'.out.stays (zo.of hb0.out)) hwh).mono ?_;rintro e w1 ⟨vt,vs,vr,vq,hr,hb1,hcase⟩;clear c0 c1 c2 c3 lS kS;have hbw:=Hd (hb0.out.trans (hb1.mono hb0.out.size));obtain ⟨⟨tA,tn,tc,rfl⟩,⟨sA,sn,sc,rfl⟩,⟨rA,rn,rc,rfl⟩,⟨qA,qn,qc,rfl⟩⟩:=hr.forms;obtain ⟨-,rfl⟩ | ⟨p,hp,rfl⟩:=hcase
 ·unfold zaz zh.zero
  have hb2:=Hd ((hbw.out.alloc hbw.out.size (.cells #[.slice tA tn tc,.slice sA sn sc,.slice rA rn rc,.slice qA qn qc] 31)).alloc (by have:=hbw.out.size; simp; omega) (.cells #[.int .i64 0,.int .i64 0,.int .i64 0,.int .i64 0,.string ⟨#[]⟩,.string ⟨#[]⟩,.int .i64 0,.int .i64 0] 33));go_upto_region 2 with fail;generalize (w1.alloc (.cells #[.slice tA tn tc,.slice sA sn sc,.slice rA rn rc,.slice qA qn qc] 31)).alloc (.cells #[.int .i64 0,.int .i64 0,.int .i64 0,.int .i64 0,.string ⟨#[]⟩,.string ⟨#[]⟩,.int .i64 0,.int .i64 0] 33) = w2 at *;go_wp2_with fail;refine (zbq w2 (htab'.out.below hb2.out)).mono ?_;rintro e w3 ⟨rfl,hb3⟩;go_wp2;go_ret;exact ⟨rfl,hb2.out.trans (hb3.mono hb2.out.size)⟩
 ·have F:=Hd (znB x p hp)
  unfold zaz;have hb2:=Hd ((hbw.out.alloc hbw.out.size (.cells #[.slice tA tn tc,.slice sA sn sc,.slice rA rn rc,.slice qA qn qc] 31)).alloc (by have:=hbw.out.size; simp; omega) (.cells #[.int .i64 p.id,.int .i64 p.town,.int .i64 p.street,.int .i64 p.number,.string p.letter,.string p.unit,.int .i64 p.box,.int .i64 p.seq] 33));have kF:=Hd ((Blk.new w1 31 #[.slice tA tn tc,.slice sA sn sc,.slice rA rn rc,.slice qA qn qc]).alloc (.cells #[.int .i64 p.id,.int .i64 p.town,.int .i64 p.street,.int .i64 p.number,.string p.letter,.string p.unit,.int .i64 p.box,.int .i64 p.seq] 33));have kP:=Hd (Blk.new_at (w1.alloc (.cells #[.slice tA tn tc,.slice sA sn sc,.slice rA rn rc,.slice qA qn qc] 31)) 33 #[.int .i64 p.id,.int .i64 p.town,.int .i64 p.street,.int .i64 p.number,.string p.letter,.string p.unit,.int .i64 p.box,.int .i64 p.seq] (w1.heap.size + 1) (by simp));have hr2:=Hd (hr.stays (zo.of (((Below.refl w1.heap.size w1).alloc (lQ _) (.cells #[.slice tA tn tc,.slice sA sn sc,.slice rA rn rc,.slice qA qn qc] 31)).alloc (by simp) (.cells #[.int .i64 p.id,.int .i64 p.town,.int .i64 p.street,.int .i64 p.number,.string p.letter,.string p.unit,.int .i64 p.box,.int .i64 p.seq] 33))));clear hr hb1;go_upto_region 2 with fail;generalize (w1.alloc (.cells #[.slice tA tn tc,.slice sA sn sc,.slice rA rn rc,.slice qA qn qc] 31)).alloc (.cells #[.int .i64 p.id,.int .i64 p.town,.int .i64 p.street,.int .i64 p.number,.string p.letter,.string p.unit,.int .i64 p.box,.int .i64 p.seq] 33) = w2 at *;generalize w1.heap.size + 1 = N6 at *;generalize w1.heap.size = N5 at *;have hbr2:=hb2;go_upto_region 4 with fail;have f0:=kF.out.cell 0;have f1:=kF.out.cell 1;have f2:=kF.out.cell 2;have f3:=kF.out.cell 3;have lF:=kF.out.lt;have g0:=kP.out.cell 0;have g1:=kP.out.cell 1;have g2:=kP.out.cell 2;have g3:=kP.out.cell 3;have g4:=kP.out.cell 4;have g5:=kP.out.cell 5;have g6:=kP.out.cell 6;have g7:=kP.out.cell 7;have lP:=kP.out.lt;simp at f0 f1 f2 f3 g0 g1 g2 g3 g4 g5 g6 g7;go_wp2_with fail;refine (zrV _ _ _ _ (zb x) p w2 hr2.out F.out.fine (htab'.out.below hb2.out)).mono ?_;rintro e w3 ⟨v,rfl,hown,hb3⟩;have hpp:=Hd hown.parts;obtain ⟨vA,vm,rfl⟩:=hown.form_;clear f0 f1 f2 f3 lF g0 g1 g2 g3 g4 g5 g6 g7 lP hown;have hpt:=Hd (fun (kq : Nat) (c2 : Int) (lv : Value) (qs : List zu) (hn : zjM x p c2 qs kq) (W : World) h1 h2 h3=>(zcA (.slice tA tn tc) (.slice sA sn sc) (.slice rA rn rc) (.slice qA qn qc) (zb x) c2 lv qs p.id W h1 (zbv x) h2 hn.small (fun _=>zbl x) h3).mono (fun e w' hh=>And.intro (zqC hn F.out.point hh.1) hh.2));have hal:=Hd (fun (kq : Nat) (c2 : Int) (lv : Value) (qs : List zu) (hn : zjM x p c2 qs kq) (W : World) h1 h2 h3=>(zfP (.slice tA tn tc) (.slice sA sn sc) (.slice rA rn rc) (.slice qA qn qc) (zb x) c2 lv qs W h1 (zbv x) h2 hn.small (fun _=>zbl x) h3 F.out.few (fun _=>zce x)).mono (fun e w' hh=>And.intro (zte hn hp hh.1) hh.2));have hp10 : (zm (zX (zb x) p)).length <= 10:=zcX _ 10;have hp0 : 0 < (zm (zX (zb x) p)).length:=zvC (zeL x p hp).1;have hu0 : (0 : Int) <= (u : Int):=by omega
  have hu1 : (u : Int) <= 65535:=by omega
  have hN0:=Hd (fun (kq : Nat)=>zoL x p hp kq u hu);have hN1:=Hd (fun (kq d : Nat) (hd : d < 20)=>zoK x p hp kq d hd);have hN2:=Hd (fun (kq d : Nat) (hd : d < 1000)=>ztf x p hp kq d hd);have hN3:=Hd (fun (kq : Nat)=>zvo x p hp kq u hu);have hN4:=Hd (zny x p hp);have hcb:=zzG x p hp;clear F hp;generalize zcT (zb x) p = c at *;generalize zm (zX (zb x) p) = ps at *;have hb4:=Hd ((hb2.out.trans (hb3.mono hb2.out.size)).alloc (Nat.le_trans hb2.out.size hb3.size) (.cells #[.int .u8 c,.slice vA ps.length vm] 39));have kF4:=Hd ((kF.out.below hb3 kF.out.lt).alloc (.cells #[.int .u8 c,.slice vA ps.length vm] 39));have kP4:=Hd ((kP.out.below hb3 kP.out.lt).alloc (.cells #[.int .u8 c,.slice vA ps.length vm] 39));have kR4:=Hd (Blk.new w3 39 #[.int .u8 c,.slice vA ps.length vm]);have hr4:=Hd (hr2.out.stays (zo.of (hb3.alloc hb3.size (.cells #[.int .u8 c,.slice vA ps.length vm] 39))));have hp4:=Hd (hpp.out.stays (zo.of ((Below.refl w3.heap.size w3).alloc (lQ _) (.cells #[.int .u8 c,.slice vA ps.length vm] 39))));clear kF kP hr2 hpp hb2 hbr2 hbw hb0 hs';go_upto_region 5 with fail;clear hb3;generalize w3.alloc (.cells #[.int .u8 c,.slice vA ps.length vm] 39) = w4 at *;generalize w3.heap.size = N8 at *;have r0:=kR4.out.cell 0;have r1:=kR4.out.cell 1;have lR:=kR4.out.lt;simp at r0 r1;have hb5:=Hd (hb4.out.alloc hb4.out.size (.cells #[.int .u8 c,.slice vA ps.length vm] 39));have h45:=(Below.refl w4.heap.size w4).alloc (lQ _) (.cells #[.int .u8 c,.slice vA ps.length vm] 39);have hbNO:=Hd h45;have kP5:=Hd (kP4.out.below h45 kP4.out.lt);have kR5:=Hd (kR4.out.below h45 kR4.out.lt);have kO5:=Hd (Blk.new w4 39 #[.int .u8 c,.slice vA ps.length vm]);have hp5:=Hd (hp4.out.stays (zo.of h45));have hNO5:=Hd h45.size;go_upto_region 6 with fail;clear r0 r1 lR h45;have kF0:=Hd kF4.out.lt;have kP0:=Hd kP4.out.lt;generalize w4.alloc (.cells #[.int .u8 c,.slice vA ps.length vm] 39) = w5 at *;obtain ⟨NO,hNOq⟩ : ∃ n,n = w4.heap.size:=⟨_,rfl⟩;rw [<- hNOq] at hbNO kO5 hNO5 kF0 kP0 ⊢;have hNOe:=Hd hNOq;clear hNOq;obtain ⟨kq,hkq⟩ : ∃ k,k = wy % 5:=⟨_,rfl⟩;have hkI : (wy : Int) % 5 = (kq : Int):=by omega
  go_upto_block 0 with fail;rw [hkI];have hk6 : kq < 5:=by omega
  have hkI':=Hd hkI;clear hkI hkq
  go_cut [] (fun wx=>∃ (c2 : Int) (A : Option Addr) (n m : Nat) (qs : List zu),Hid (ziG x p kq NO w4 wx c2 A n m qs))
  case first=>
   obtain rfl | rfl | rfl | rfl | rfl : kq = 0 \/ kq = 1 \/ kq = 2 \/ kq = 3 \/ kq = 4:=by omega
   ·have g3:=kP5.out.cell 3
    have lP:=kP5.out.lt;simp at g3;by_cases h0 : p.number = 0
    ·have e0 : (p.number == 0) = true:=by simp [h0]
     go_wp2_with fail;refine (zbq w5 (htab'.out.below hb5.out)).mono ?_;rintro e wz ⟨rfl,hbz⟩;go_wp2;go_ret;exact ⟨rfl,hb5.out.trans (hbz.mono hb5.out.size)⟩
    ·have e0 : (p.number == 0) = false:=by simpa using h0
     by_cases h1 : p.number = 1 + (u : Int)
     ·have e1 : (p.number == 1 + (u : Int)) = true:=by simp [h1]
      go_wp2_with fail;refine (zbq w5 (htab'.out.below hb5.out)).mono ?_;rintro e wz ⟨rfl,hbz⟩;go_wp2;go_ret;exact ⟨rfl,hb5.out.trans (hbz.mono hb5.out.size)⟩
     ·have e1 : (p.number == 1 + (u : Int)) = false:=by simpa using h1
      have hnev:=Hd (hN0.out 0 h0 h1);have hcast:=Hd (show ((1 + u : Nat) : Int) = (1 : Int) + (u : Int) by omega);have hit:=Hd (fun (W : World) (h : Below w5.heap.size w5 W)=>hcast.out ▸ zno (1 + u) W (by omega) (htab'.out.below (hb5.out.trans (h.mono hb5.out.size))));clear h0 h1;go_upto_region 10 with fail;refine zT (C:=fun wc=>Below w5.heap.size w5 wc) [true,true,true,true,true,false] [5] (by kernel_rfl) (by kernel_rfl) (by kernel_rfl) (fun _ h=>h) ?A10 ?q10 ?t10
      case q10=>
       intro S1 hS1 hSC hne;have y0:=fun (u : zaP S1)=>(kR5.out.below (hSC u.wld u.mem) kR5.out.lt).cell 0;have y1:=fun (u : zaP S1)=>(kR5.out.below (hSC u.wld u.mem) kR5.out.lt).cell 1;simp at y0 y1;simp only [zbM,if_true,if_false,Bool.false_eq_true]
       repeat (go_big_quiet_step ((go_at_call 19; exact zdd hS1 (hit.out _ (hSC _ (zaP.mem _))))))
       refine wpQuiet_nil ?_;rfl
      refine zB [5] (by kernel_rfl) fun j hj W1 hb1=>?_;obtain rfl:=mS.1 hj;refine ⟨_,rfl,rfl,zy (ops:=#[]) (K:=fun a' w'=>(∀ w9,Below w'.heap.size w' w9 -> (fun wc=>Below w5.heap.size w5 wc) w9) /\ mkG Tryz.prog _ _ (fun wc=>Below w5.heap.size w5 wc) _ 0 [] a' w') rfl fun Q' hQ=>?_⟩;simp only [gX,gQ,gZ];have hb1:=Hd hb1;have hQ:=Hd hQ;go_wp2_with fail;refine (znR c (.slice vA ps.length vm) ps 1 (zef (1 + u)) W1 (hp5.out.stays (zo.of hb1.out)) (by omega) hp0).mono ?_;rintro e W2 ⟨ov,rfl,hown,hb2⟩;obtain ⟨oA,om,rfl⟩:=hown.form_;have hown:=Hd hown;have hb2:=Hd hb2;go_wp2;refine hQ.out _ _ rfl ⟨fun w9 h9=>za hb1.out (za hb2.out h9),?_⟩;clear hQ;refine zaM rfl ?_;intro W3 hb3;have hb13:=Hd (za hb1.out (za hb2.out hb3));have hfin:=Hd (show ziG x p 0 NO w4 (W3.setRow NO #[.int .u8 c,.slice oA (zdW 1 (zef (1 + u)) ps).length om]) c oA (zdW 1 (zef (1 + u)) ps).length om (zdW 1 (zef (1 + u)) ps) from ⟨Below.setRow_ (hbNO.out.trans (hb13.out.mono hNO5.out)) (lQ NO) _,Blk.setRow_ (kO5.out.below hb13.out kO5.out.lt) _,zaD.parts (zaw.keep ze (zaw.keep ze hown.out (zc.of_below hb3 _)) (zfw W3 NO _ (by have:=kO5.out.lt; have:=hb1.out.size; omega))),hnev.out⟩);have kO3:=Hd (kO5.out.below hb13.out kO5.out.lt);refine wpList_store_rowTo rfl 39 _ _ rfl rfl NO #[.int .u8 c,.slice oA (zdW 1 (zef (1 + u)) ps).length om] rfl rfl 39 _ kO3.out (by kernel_rfl) rfl (by kernel_rfl) ?_;clear hown hb2 hb3 hb13 kO3;go_wp2;go_meet
      case rel=>exact ⟨_,_,_,_,_,hfin⟩
   ·have g4:=kP5.out.cell 4
    have lP:=kP5.out.lt;simp at g4;by_cases h0 : p.letter = ⟨#[]⟩
    ·have e0 : p.letter.toList.isEmpty = true:=by rw [h0,zaL]; rfl
     go_wp2_with fail;refine (zbq w5 (htab'.out.below hb5.out)).mono ?_;rintro e wz ⟨rfl,hbz⟩;go_wp2;go_ret;exact ⟨rfl,hb5.out.trans (hbz.mono hb5.out.size)⟩
    ·have e0 : p.letter.toList.isEmpty = false:=by
      cases he : p.letter.toList.isEmpty with
      | false=>rfl
      | true=>exact absurd (zvW he) h0
     obtain ⟨d,hd⟩ : ∃ d,d = u % 20:=⟨_,rfl⟩;have hd1 : d < 20:=by omega
     have hdI : (u : Int) % 20 = (d : Int):=by omega
     clear hd;have hnev:=Hd (hN1.out 1 d hd1 h0);clear h0;have r0:=kR5.out.cell 0;have r1:=kR5.out.cell 1;have lR:=kR5.out.lt;simp at r0 r1;have hcv:=zhV w5 (67 + (d : Int)) (67 + d) (by omega) (by omega);have he : UInt8.ofNat (67 + d) = 67 + UInt8.ofNat d:=by simp
     have hnev' : Hid (zjM x p c (zdW 2 ⟨#[67 + UInt8.ofNat d]⟩ ps) 1):=Hd (by rw [<- he]; exact hnev.out);clear he hnev;go_upto_region 14 with fail;go_wp2_with fail;have hb1:=Hd ((Below.refl w5.heap.size w5).alloc (lQ _) (.cells #[.int .u8 (67 + (d : Int))] 5));refine (znR c _ ps 2 _ _ (hp5.out.stays (zo.of hb1.out)) (by omega) hp0).mono ?_;rintro e W2 ⟨ov,rfl,hown,hb2⟩;obtain ⟨oA,om,rfl⟩:=hown.form_;have hb12:=Hd (hb1.out.trans (hb2.mono hb1.out.size));have kO2:=Hd (kO5.out.below hb12.out kO5.out.lt);have hown':=Hd hown;have hbs:=Hd hb1.out.size;clear hcv r0 r1 lR hown hb2 hb1;have o0:=kO2.out.cell 0;have o1:=kO2.out.cell 1;have z0:=kO2.out.frozen 0;have z1:=kO2.out.frozen 1;have lO:=kO2.out.lt;simp at o0 o1
     have hfin:=Hd (show ziG x p 1 NO w4 ((W2.setCell ⟨NO,0,none⟩ (.int .u8 c)).setCell ⟨NO,1,none⟩ (.slice oA (zdW 2 ⟨#[67 + UInt8.ofNat d]⟩ ps).length om)) c oA (zdW 2 ⟨#[67 + UInt8.ofNat d]⟩ ps).length om (zdW 2 ⟨#[67 + UInt8.ofNat d]⟩ ps) from
      ⟨((hbNO.out.trans (hb12.out.mono hNO5.out)).setCell (lQ NO) _).setCell (lQ NO) _,(kO2.out.set_ 0 _).set_ 1 _,zaD.parts (zaw.keep ze (zaw.keep ze hown'.out (zc.set_ _ _ _ (by have:=kO5.out.lt; have:=hbs.out; simp at this ⊢; omega))) (zc.set_ _ _ _ (by have:=kO5.out.lt; have:=hbs.out; simp at this ⊢; omega))),hnev'.out⟩)
     go_wp2;go_meet
     case rel=>exact ⟨_,_,_,_,_,hfin⟩
   ·have g5:=kP5.out.cell 5
    have lP:=kP5.out.lt;simp at g5;by_cases h0 : p.unit = ⟨#[]⟩
    ·have e0 : p.unit.toList.isEmpty = true:=by rw [h0,zaL]; rfl
     go_wp2_with fail;refine (zbq w5 (htab'.out.below hb5.out)).mono ?_;rintro e wz ⟨rfl,hbz⟩;go_wp2;go_ret;exact ⟨rfl,hb5.out.trans (hbz.mono hb5.out.size)⟩
    ·have e0 : p.unit.toList.isEmpty = false:=by
      cases he : p.unit.toList.isEmpty with
      | false=>rfl
      | true=>exact absurd (zvW he) h0
     obtain ⟨d,hd⟩ : ∃ d,d = u % 1000:=⟨_,rfl⟩;have hd1 : d < 1000:=by omega
     have hdI : (u : Int) % 1000 = (d : Int):=by omega
     clear hd;have hnev:=Hd (hN2.out 2 d hd1 h0);clear h0;have hit:=Hd (fun (W : World) (h : Below w5.heap.size w5 W)=>zno d W (by omega) (htab'.out.below (hb5.out.trans (h.mono hb5.out.size))));have hs1 : (⟨#[85]⟩ : ByteArray).size = 1:=rfl;have hs2 : (zef d).size <= 6:=(zgW _ (by omega)).2;go_upto_region 18 with fail;refine zT (C:=fun wc=>Below w5.heap.size w5 wc) [true,true,true,true,true,false,false] [5,6] (by kernel_rfl) (by kernel_rfl) (by kernel_rfl) (fun _ h=>h) ?A18 ?q18 ?t18
     case q18=>
      intro S1 hS1 hSC hne;have y0:=fun (u : zaP S1)=>(kR5.out.below (hSC u.wld u.mem) kR5.out.lt).cell 0;have y1:=fun (u : zaP S1)=>(kR5.out.below (hSC u.wld u.mem) kR5.out.lt).cell 1;simp at y0 y1;simp only [zbM,if_true,if_false,Bool.false_eq_true]
      repeat (go_big_quiet_step ((go_at_call 19; exact zdd hS1 (hit.out _ (hSC _ (zaP.mem _))))))
      refine wpQuiet_nil ?_;rfl
     refine zB [5] (by kernel_rfl) fun j hj W0 hb0=>?_;obtain rfl:=mS.1 hj;refine ⟨_,rfl,rfl,zy (ops:=#[]) (K:=fun a' w'=>(∀ w9,Below w'.heap.size w' w9 -> (fun wc=>Below w5.heap.size w5 wc) w9) /\ mkG Tryz.prog _ _ (fun wc=>Below w5.heap.size w5 wc) _ 1 [6] a' w') rfl fun Q' hQ=>?_⟩;simp only [gX,gQ,gZ];have hb0:=Hd hb0;have hQ:=Hd hQ;go_wp2;refine hQ.out _ _ rfl ⟨fun w9 h9=>za hb0.out h9,?_⟩;clear hQ;refine zB [6] (by kernel_rfl) fun j hj W1 hb1=>?_;obtain rfl:=mS.1 hj;have hb1:=za hb0.out hb1;refine ⟨_,rfl,rfl,zy (ops:=#[]) (K:=fun a' w'=>(∀ w9,Below w'.heap.size w' w9 -> (fun wc=>Below w5.heap.size w5 wc) w9) /\ mkG Tryz.prog _ _ (fun wc=>Below w5.heap.size w5 wc) _ 0 [] a' w') rfl fun Q' hQ=>?_⟩;simp only [gX,gQ,gZ];have hb1:=Hd hb1;have hQ:=Hd hQ;go_wp2_with fail;refine (znR c (.slice vA ps.length vm) ps 6 _ W1 (hp5.out.stays (zo.of hb1.out)) (by omega) hp0).mono ?_;rintro e W2 ⟨ov,rfl,hown,hb2⟩;obtain ⟨oA,om,rfl⟩:=hown.form_;have hown:=Hd hown;have hb2:=Hd hb2;go_wp2;refine hQ.out _ _ rfl ⟨fun w9 h9=>za hb1.out (za hb2.out h9),?_⟩;clear hQ;refine zaM rfl ?_;intro W3 hb3;have hb13:=Hd (za hb1.out (za hb2.out hb3));have hfin:=Hd (show ziG x p 2 NO w4 (W3.setRow NO #[.int .u8 c,.slice oA (zdW 6 (⟨#[85]⟩ ++ zef d) ps).length om]) c oA (zdW 6 (⟨#[85]⟩ ++ zef d) ps).length om (zdW 6 (⟨#[85]⟩ ++ zef d) ps) from ⟨Below.setRow_ (hbNO.out.trans (hb13.out.mono hNO5.out)) (lQ NO) _,Blk.setRow_ (kO5.out.below hb13.out kO5.out.lt) _,zaD.parts (zaw.keep ze (zaw.keep ze hown.out (zc.of_below hb3 _)) (zfw W3 NO _ (by have:=kO5.out.lt; have:=hb1.out.size; omega))),hnev.out⟩);have kO3:=Hd (kO5.out.below hb13.out kO5.out.lt);refine wpList_store_rowTo rfl 39 _ _ rfl rfl NO #[.int .u8 c,.slice oA (zdW 6 (⟨#[85]⟩ ++ zef d) ps).length om] rfl rfl 39 _ kO3.out (by kernel_rfl) rfl (by kernel_rfl) ?_;clear hown hb2 hb3 hb13 kO3;go_wp2;go_meet
     case rel=>exact ⟨_,_,_,_,_,hfin⟩
   ·have g6:=kP5.out.cell 6
    have lP:=kP5.out.lt;simp at g6;by_cases h0 : p.box = 0
    ·have e0 : (p.box == 0) = true:=by simp [h0]
     go_wp2_with fail;refine (zbq w5 (htab'.out.below hb5.out)).mono ?_;rintro e wz ⟨rfl,hbz⟩;go_wp2;go_ret;exact ⟨rfl,hb5.out.trans (hbz.mono hb5.out.size)⟩
    ·have e0 : (p.box == 0) = false:=by simpa using h0
     by_cases h1 : p.box = 1 + (u : Int)
     ·have e1 : (p.box == 1 + (u : Int)) = true:=by simp [h1]
      go_wp2_with fail;refine (zbq w5 (htab'.out.below hb5.out)).mono ?_;rintro e wz ⟨rfl,hbz⟩;go_wp2;go_ret;exact ⟨rfl,hb5.out.trans (hbz.mono hb5.out.size)⟩
     ·have e1 : (p.box == 1 + (u : Int)) = false:=by simpa using h1
      have hnev:=Hd (hN3.out 3 h0 h1);have hcast:=Hd (show ((1 + u : Nat) : Int) = (1 : Int) + (u : Int) by omega);have hit:=Hd (fun (W : World) (h : Below w5.heap.size w5 W)=>hcast.out ▸ zno (1 + u) W (by omega) (htab'.out.below (hb5.out.trans (h.mono hb5.out.size))));clear h0 h1;go_upto_region 22 with fail;refine zT (C:=fun wc=>Below w5.heap.size w5 wc) [true,true,true,true,true,false] [5] (by kernel_rfl) (by kernel_rfl) (by kernel_rfl) (fun _ h=>h) ?A22 ?q22 ?t22
      case q22=>
       intro S1 hS1 hSC hne;have y0:=fun (u : zaP S1)=>(kR5.out.below (hSC u.wld u.mem) kR5.out.lt).cell 0;have y1:=fun (u : zaP S1)=>(kR5.out.below (hSC u.wld u.mem) kR5.out.lt).cell 1;simp at y0 y1;simp only [zbM,if_true,if_false,Bool.false_eq_true]
       repeat (go_big_quiet_step ((go_at_call 19; exact zdd hS1 (hit.out _ (hSC _ (zaP.mem _))))))
       refine wpQuiet_nil ?_;rfl
      refine zB [5] (by kernel_rfl) fun j hj W1 hb1=>?_;obtain rfl:=mS.1 hj;refine ⟨_,rfl,rfl,zy (ops:=#[]) (K:=fun a' w'=>(∀ w9,Below w'.heap.size w' w9 -> (fun wc=>Below w5.heap.size w5 wc) w9) /\ mkG Tryz.prog _ _ (fun wc=>Below w5.heap.size w5 wc) _ 0 [] a' w') rfl fun Q' hQ=>?_⟩;simp only [gX,gQ,gZ];have hb1:=Hd hb1;have hQ:=Hd hQ;go_wp2_with fail;refine (znR c (.slice vA ps.length vm) ps 7 (zef (1 + u)) W1 (hp5.out.stays (zo.of hb1.out)) (by omega) hp0).mono ?_;rintro e W2 ⟨ov,rfl,hown,hb2⟩;obtain ⟨oA,om,rfl⟩:=hown.form_;have hown:=Hd hown;have hb2:=Hd hb2;go_wp2;refine hQ.out _ _ rfl ⟨fun w9 h9=>za hb1.out (za hb2.out h9),?_⟩;clear hQ;refine zaM rfl ?_;intro W3 hb3;have hb13:=Hd (za hb1.out (za hb2.out hb3));have hfin:=Hd (show ziG x p 3 NO w4 (W3.setRow NO #[.int .u8 c,.slice oA (zdW 7 (zef (1 + u)) ps).length om]) c oA (zdW 7 (zef (1 + u)) ps).length om (zdW 7 (zef (1 + u)) ps) from ⟨Below.setRow_ (hbNO.out.trans (hb13.out.mono hNO5.out)) (lQ NO) _,Blk.setRow_ (kO5.out.below hb13.out kO5.out.lt) _,zaD.parts (zaw.keep ze (zaw.keep ze hown.out (zc.of_below hb3 _)) (zfw W3 NO _ (by have:=kO5.out.lt; have:=hb1.out.size; omega))),hnev.out⟩);have kO3:=Hd (kO5.out.below hb13.out kO5.out.lt);refine wpList_store_rowTo rfl 39 _ _ rfl rfl NO #[.int .u8 c,.slice oA (zdW 7 (zef (1 + u)) ps).length om] rfl rfl 39 _ kO3.out (by kernel_rfl) rfl (by kernel_rfl) ?_;clear hown hb2 hb3 hb13 kO3;go_wp2;go_meet
      case rel=>exact ⟨_,_,_,_,_,hfin⟩
   ·have hnev:=Hd hN4.out
    have r0:=kR5.out.cell 0;have r1:=kR5.out.cell 1;have lR:=kR5.out.lt;simp at r0 r1;have o0:=kO5.out.cell 0;have z0:=kO5.out.frozen 0;have lO:=kO5.out.lt;simp at o0;have hbF:=Hd (hbNO.out.setCell (p:=⟨NO,0,none⟩) (lQ NO) (.int .u8 (1 + c % 3)));have hfin:=Hd (show ziG x p 4 NO w4 (w5.setCell ⟨NO,0,none⟩ (.int .u8 (1 + c % 3))) (1 + c % 3) vA ps.length vm ps from ⟨hbF.out,kO5.out.set_ 0 (.int .u8 (1 + c % 3)),hp4.out.stays (zo.of (by have h:=hbF.out; rw [hNOe.out] at h ⊢; exact h)),hnev.out⟩);go_wp2;go_meet
    case rel=>exact ⟨_,_,_,_,_,hfin⟩
  case rest=>
   obtain ⟨c2,A5,n5,m5,qs,h5⟩:=hcut;rename World=>w6;have hb6:=Hd (show Below w4.heap.size w4 w6 from by have h:=h5.out.1; rw [hNOe.out] at h; exact h);have kO6:=Hd h5.out.2.1;have hp6:=Hd h5.out.2.2.1;have hnv:=Hd h5.out.2.2.2;have hP:=Hd (hpt.out kq c2 (.slice A5 n5 m5) qs h5.out.2.2.2);have hA:=Hd (hal.out kq c2 (.slice A5 n5 m5) qs h5.out.2.2.2);clear h5 hpt hal hN0 hN1 hN2 hN3 hN4 hnv kP5 kR5 kO5 hp5 hNO5 hbNO hb5;have hb6w:=Hd (hb4.out.trans (hb6.out.mono hb4.out.size));have kF6:=Hd (kF4.out.below hb6.out kF4.out.lt);have kP6:=Hd (kP4.out.below hb6.out kP4.out.lt);have hr6:=Hd (hr4.out.stays (zo.of hb6.out));clear kF4 kP4 kR4 hr4 hp4 hb4 hb6 kF0 kP0 hNOe;go_upto_region 25 with fail;have f0:=kF6.out.cell 0;have f1:=kF6.out.cell 1;have f2:=kF6.out.cell 2;have f3:=kF6.out.cell 3;have lF:=kF6.out.lt;have g0:=kP6.out.cell 0;have lP:=kP6.out.lt;have r0:=kO6.out.cell 0;have r1:=kO6.out.cell 1;have lO:=kO6.out.lt;simp at f0 f1 f2 f3 g0 r0 r1;go_wp2_with fail;refine (hP.out w6 hr6.out hp6.out (htab'.out.below hb6w.out)).mono ?_;rintro e w7 ⟨⟨er,her0,her4,rfl⟩,hb7⟩;clear f0 f1 f2 f3 lF g0 lP r0 r1 lO hP;have h67:=hb7.alloc hb7.size (.cells #[.int .i64 0,.int .i64 0,.slice none 0 0] 43);have hb8:=Hd (hb6w.out.trans (h67.mono hb6w.out.size));have kF8:=Hd (kF6.out.below h67 kF6.out.lt);have kP8:=Hd (kP6.out.below h67 kP6.out.lt);have kO8:=Hd (kO6.out.below h67 kO6.out.lt);have hr8:=Hd (hr6.out.stays (zo.of h67));have hp8:=Hd (hp6.out.stays (zo.of h67));have her0':=Hd her0;have her4':=Hd her4;clear her0 her4 h67 kF6 kP6 kO6 hr6 hp6 hb6w;go_upto_region 26 with fail;clear hb7;generalize w7.alloc (.cells #[.int .i64 0,.int .i64 0,.slice none 0 0] 43) = w8 at *;generalize w7.heap.size = NM at *;have f0:=kF8.out.cell 0;have f1:=kF8.out.cell 1;have f2:=kF8.out.cell 2;have f3:=kF8.out.cell 3;have lF:=kF8.out.lt;have r0:=kO8.out.cell 0;have r1:=kO8.out.cell 1;have lO:=kO8.out.lt;simp at f0 f1 f2 f3 r0 r1;go_wp2_with fail;refine (hA.out w8 hr8.out hp8.out (htab'.out.below hb8.out)).mono ?_;rintro e w9 ⟨⟨mA,mn,mc,eg,rfl,hlist⟩,hb9⟩;clear f0 f1 f2 f3 lF r0 r1 lO hA;have hb9w:=Hd (hb8.out.trans (hb9.mono hb8.out.size));have kP9:=Hd (kP8.out.below hb9 kP8.out.lt);have hlist':=Hd hlist;clear kF8 kP8 kO8 hr8 hp8 hb8 hb9 hlist;go_upto_region 27 with fail;have hkI:=hkI'.out;by_cases hk4 : kq = 4
   ·subst hk4
    have e9 : (er != 0) = true:=by simpa using her0'.out
    go_wp2_with fail;refine (zbq w9 (htab'.out.below hb9w.out)).mono ?_;rintro e wz ⟨rfl,hbz⟩;go_wp2;go_ret;exact ⟨rfl,hb9w.out.trans (hbz.mono hb9w.out.size)⟩
   ·obtain rfl:=her4'.out hk4
    obtain ⟨rfl,hl0⟩:=hlist'.out hk4;have hl:=Hd hl0;have e9 : ((kq : Int) == 4) = false:=by simp; omega
    clear hl0 hlist' her4' her0';go_wp2;clear e9 hkI
    go_loopw [140] (fun iv wr=>∃ k : Nat,k <= mn /\ iv = .int .i64 k /\ Hid (Below w9.heap.size w9 wr)) (fun iv _=>mn - (intOf iv).toNat)
    case atStart=>exact ⟨0,by omega,rfl,Hd (Below.refl _ _)⟩
    case round=>
     obtain ⟨k,hk,rfl,hbr⟩:=hrel;rename World=>wr;have n0 : (0 : Int) <= (k : Int):=by omega
     by_cases hlt : k < mn
     ·have n1 : (k : Int) < (mn : Int):=by omega
      obtain ⟨A',c',hq2,hnc,hcm,hB⟩:=hl.out;have hkb : k < 9223372036854775807:=by unfold maxLen at hcm; omega
      obtain ⟨qb,qo,rfl,hqb,-,hqi⟩:=hB (by omega);injection hq2 with e1 _ e3;subst e1;obtain ⟨a,d,A2,n2,c3,hne,b0,b1,b2⟩:=hqi k hlt;rw [<- hbr.out.cell (p:=⟨qb,qo + k * 3,none⟩) hqb] at b0;rw [<- hbr.out.cell (p:=⟨qb,qo + k * 3 + 1,none⟩) hqb] at b1;rw [<- hbr.out.cell (p:=⟨qb,qo + k * 3 + 2,none⟩) hqb] at b2;have e1 : (a == p.id) = false:=by simpa using hne
      have hbx:=Hd (hbr.out.alloc hbr.out.size (.cells #[.int .i64 a,.int .i64 d,.slice A2 n2 c3] 43));have kP:=kP9.out.below hbr.out kP9.out.lt;have g0:=kP.cell 0;have lP:=kP.lt;simp at g0;clear hB hqi hne kP hcm hnc;go_wp2;go_roundw
      case rel=>exact ⟨k + 1,by omega,by go_num,hbx⟩
      case measure=>simp [intOf]; omega
     ·obtain rfl : k = mn:=by omega
      have n1 : ¬ (k : Int) < (k : Int):=by omega
      have hbe:=Hd (hb9w.out.trans (hbr.out.mono hb9w.out.size));go_wp2_with fail;refine (zbq wr (htab'.out.below hbe.out)).mono ?_;rintro e wz ⟨rfl,hbz⟩;go_wp2;go_ret;exact ⟨rfl,hbe.out.trans (hbz.mono hbe.out.size)⟩
end
section
open Go.ChangeShapes Go.WideShapes Go.ChangeAt Go.RowKit
theorem ziS (os : Os) (started : os.Started) (H : Type) (enc : TypeId × Value -> H) :
  ReturnsInHanded {} Tryz.checked os 6 .any (fun w args=>(Rows.matchNeverSpec.pre enc Tryz.prog Tryz.f6 Rows.matchNeverRow.domain false w args /\ laidMetH Tryz.prog Rows.matchNeverRow.laid w) /\ sizedMet enc Tryz.prog Tryz.f6 (OpenSpec.ofChange Rows.matchNeverSpec) false w args)
   (Rows.matchNeverSpec.post enc Tryz.prog Tryz.f6 false true false false):=by
 refine returnsInHanded_of_change_and (C:=Tryz.checked) (X:=fun w _=>laidMetH Tryz.prog Rows.matchNeverRow.laid w) (fun _ _ _ hh h=>h.of_heap hh) zkj started (by kernel_rfl) Tryz.func6
  (ChangeSpec.witness_shaped (enc:=enc) (C:=Tryz.checked) (os:=os) (X:=fun w _=>laidMetH Tryz.prog Rows.matchNeverRow.laid w) false (World.laidAll Tryz.prog os Rows.matchNeverRow.laid) #[.agg #[.int .u8 0,.int .u8 0,.slice none 0 0,.slice none 0 0],.int .u8 0,.int .u8 0,.int .u16 0] 8 (World.laidAll_os _ _ _)
   (World.shaped_of_ZipB (by kernel_rfl) (by kernel_rfl)) (by kernel_rfl) (by kernel_rfl) (by kernel_rfl)
   (by rw [MakeChecks.laidMetH_plain _ _ _ (by kernel_rfl)]; exact laidMet_laidAll _ (by kernel_rfl) (by kernel_rfl))) ?_
 intro W base args ds gs before hval0 hW hc _ hL _;have hval : ∀ (j : Nat) t v,Tryz.f6.params[j]? = some t -> args[j]? = some v -> Value.okWide Tryz.prog W .any base t v:=hval0;have hW':=hW;obtain ⟨p,q,hA0,hV,rfl,hfz,hnd⟩:=hW;have hA : DataW.TrodAll enc Tryz.prog W 0 (fun _=>true) true Tryz.f6.params.toList args.toList ds p:=hA0;rw [Tryz.params6] at hA hval;obtain ⟨v0,vs0,d0,ds0,p0,q0,hargs,rfl,rfl,h0,r0⟩:=trodAll_cons hA;obtain ⟨v1,vs1,d1,ds1,p1,q1,rfl,rfl,rfl,h1,r1⟩:=trodAll_cons r0;obtain ⟨v2,vs2,d2,ds2,p2,q2,rfl,rfl,rfl,h2,r2⟩:=trodAll_cons r1;obtain ⟨v3,vs3,d3,ds3,p3,q3,rfl,rfl,rfl,h3,r3⟩:=trodAll_cons r2;obtain ⟨rfl,rfl,rfl⟩:=trodAll_nil r3;obtain rfl : args = #[v0,v1,v2,v3]:=by cases args; simp_all
 obtain ⟨rfl,rfl⟩:=trodVars_none hV;obtain ⟨cs,rfl,hcsz⟩:=okWide_struct Tryz.underlying25 (hval 0 25 v0 rfl rfl);have k0:=h0;have lt0 : ∀ x ∈ p0,x.block < W.heap.size:=by obtain ⟨m,hm⟩:=k0; exact DataW.trod_lt m _ _ _ hm
 obtain ⟨s,vc,vp,hcs,hs⟩ : ∃ (s : zi) (vc vp : Value),cs = #[.int .u8 (s.towns : Int),.int .u8 (s.streets : Int),vc,vp] /\ zbS W vc vp s:=by
  obtain ⟨fuel,hf⟩:=h0;obtain ⟨s,vc,vp,h1,h2⟩:=zit hf;refine ⟨s,vc,vp,?_,h2⟩;cases cs
  simp [Value.cells] at h1;rw [h1]
 subst hcs;obtain ⟨a1,rfl,rfl,rfl,w1⟩:=open_int Tryz.underlying5 (hval 1 5 v1 rfl rfl) h1;obtain ⟨a2,rfl,rfl,rfl,w2⟩:=open_int Tryz.underlying5 (hval 2 5 v2 rfl rfl) h2;obtain ⟨a3,rfl,rfl,rfl,w3⟩:=open_int Tryz.underlying55 (hval 3 55 v3 rfl rfl) h3;clear hA0 hval0;refine (zqB s vc vp a1 a2 a3 W hs w1 w2 w3 (zfV hL)).mono fun e W' ⟨he,bel⟩=>?_;subst he;exact ⟨_,rfl,_,_,_,[],_,[],hW',trodAll_mk1 (shut_bool Tryz.underlying4 _),(trodAll_cons_mk (Below.trod zke (by kernel_rfl) (of_decide_eq_true (by kernel_rfl)) k0 bel lt0) (trodAll_cons_mk (shut_int Tryz.underlying5 w1) (trodAll_cons_mk (shut_int Tryz.underlying5 w2) (trodAll_cons_mk (shut_int Tryz.underlying55 w3) trodAll_mk0)))),rfl,bel.frame _,fun h=>by cases h⟩
theorem zjS : Rows.MatchNeverSaid:=
 OpenClaim.holds_of_wide 6 Tryz.f6 rfl rfl rfl rfl rfl rfl rfl ⟨rfl,rfl,rfl,rfl,rfl⟩ rfl rfl rfl rfl rfl (by kernel_rfl) Tryz.func6 (by kernel_rfl)
  (of_decide_eq_true (by kernel_rfl)) (by unfold Func.isWrapper; first | (rw [if_pos (by decide +kernel)]; kernel_rfl) | (rw [if_neg (by decide +kernel)]; exact ⟨rfl,rfl⟩))
  (fun os started H enc _=>ziS os started H enc)
theorem matchNever_card_holds : Rows.MatchNeverCardSaid:=
 Claim7.holds_tied_plain_at .later [] [.data,.data,.data,.data,.pinned] true (true,"723741566ef359c4faf7b021fa85f20e4c6214f58269e36c64195f5ff5da4cec") false zjS (fun _ h=>by cases h) (by kernel_rfl) (fun _ h=>by cases h) matchNever_row_tie rfl ⟨rfl,rfl⟩ (by kernel_rfl) rfl
  (fun f fn hf hfn=>by
   obtain rfl : f = 6:=Option.some.inj ((show Tryz.prog.funcNamed "letterbag/letterbaglaw14.MatchNever" = some 6 by kernel_rfl).symm.trans hf) |>.symm;obtain rfl : fn = Tryz.f6:=(Option.some.inj (Tryz.func6.symm.trans hfn)).symm
   exact ⟨by kernel_rfl,fun j t ht=>by
    rw [Tryz.params6] at ht;have hm : t ∈ [25,5,5,55]:=by simpa using Array.mem_of_getElem? ht
    have hall : ([25,5,5,55].all fun u=>!Tryz.prog.wantsStandIn u) = true:=by kernel_rfl
    exact (show Tryz.prog.wantsStandIn t = false by simpa using List.all_eq_true.1 hall t hm)⟩)
  (by kernel_rfl)
#print axioms matchNever_card_holds
end
end Go.Proofs.YtggimnndflkjkaaGreatDoor
