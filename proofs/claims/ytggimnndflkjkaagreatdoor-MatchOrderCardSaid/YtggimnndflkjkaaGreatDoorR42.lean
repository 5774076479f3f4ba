import Derived.Test.YtggimnndflkjkaaGreatDoorR01
import Derived.Test.YtggimnndflkjkaaGreatDoorR08
import Derived.Test.YtggimnndflkjkaaGreatDoorR40
import Derived.Test.YtggimnndflkjkaaGreatDoorR41
import Derived.Great.Walk
set_option linter.all false
set_option maxRecDepth 100000
set_option maxHeartbeats 0
namespace Go.Proofs.YtggimnndflkjkaaGreatDoor
section
open Go.RowKit
def zcu : ByteArray:=⟨#[83,80,82,73,78,71,70,73,69,76,68]⟩
def zvR : ByteArray:=⟨#[83,80,82,73,78,71,70,69,76,68]⟩
def maB : ByteArray:=⟨#[77,65]⟩
def zdi : ByteArray:=⟨#[48,49,49,48,49]⟩
def zhU : ByteArray:=⟨#[48,49,49,48,50]⟩
def zhn : ByteArray:=⟨#[78,79,82,84,72]⟩
def zlW : ByteArray:=⟨#[77,65,73,78]⟩
def zzB : ByteArray:=⟨#[77,65,78,69]⟩
def zxO : ByteArray:=⟨#[77,65,73,78,69]⟩
def zfr : ByteArray:=⟨#[83,84,82,69,69,84]⟩
def zzW : ByteArray:=⟨#[79,76,68,32,80,79,83,84]⟩
def zyR : ByteArray:=⟨#[82,79,65,68]⟩
def zkh : ByteArray:=⟨#[79,76,68,32,80,79,83,84,32,82,79,65,68]⟩
def zai : ByteArray:=⟨#[]⟩
def zV : zw:=
  ⟨[⟨1,1,zcu,maB,[zdi,zhU]⟩],[⟨5,1,zhn,zlW,zfr,[zkh]⟩],[⟨1,5,1,99,0,zdi,7⟩,⟨1,5,100,198,2,zhU,8⟩,⟨1,0,1,50,0,zdi,7⟩],
   [⟨11,1,5,12,zai,zai,0,1⟩,⟨12,1,5,12,zai,⟨#[51]⟩,0,2⟩,⟨13,1,0,0,zai,zai,9,3⟩]⟩
end
section
open Go.RowKit
deriving instance DecidableEq for zP
deriving instance DecidableEq for zeC
deriving instance DecidableEq for zby
def zeF (a b : ByteArray) : Nat × Bool:=if 60 < a.size \/ 60 < b.size then (0,false) else (zyq (zbr a) (zbr b),true)
theorem zmt : zaH = zeF:=by
 funext a b
 unfold zaH zeF;rw [zwK]
def zmC (a b : ByteArray) : Int × Bool:=
 if zcD b.size = 0 \/ (b.size : Int) + zcD b.size < a.size \/ (a.size : Int) + zcD b.size < b.size then (0,false)
 else if (zeF a b).2 = true /\ ((zeF a b).1 : Int) <= zcD b.size then (((zeF a b).1 : Int),true) else (0,false)
theorem zcs : zaK = zmC:=by
 funext a b
 unfold zaK zmC;rw [zmt]
def zmp (a b : ByteArray) : Int × Bool:=if (zeF a b).2 = true /\ (zeF a b).1 = 1 then (4,true) else (0,false)
theorem zdz : zaq = zmp:=by
 funext a b
 unfold zaq zmp;rw [zmt]
def zrY (n p s u b t r c : ByteArray) (k : Nat) : ByteArray:=[n,zai,p,s,u,zai,b,t,r,c].getD (k - 1) zai
def ziq (n p s u b t r c : ByteArray) : List zu:=zm (zrY n p s u b t r c)
def r12 : ByteArray:=⟨#[49,50]⟩
def r13 : ByteArray:=⟨#[49,51]⟩
def r9 : ByteArray:=⟨#[57]⟩
def ztv : List zu:=ziq r12 zai zzW zyR zai zcu maB zdi
def zpb : List zu:=ziq r13 zhn zlW zfr zai zcu maB zai
def zmd : List zu:=ziq zai zai zai zai r9 zvR zai zhU
def zlo : List zu:=ziq r12 zai zlW zai zai zcu zai zdi
def zvG : List zu:=ziq r12 zhn zzB zfr zai zcu maB zdi
def zqT : List zu:=ziq r12 zhn zxO zfr zai zcu maB zdi
theorem zek : zae zV = true:=by decide +kernel
theorem zlq : (zR 1 ztv && (zR 1 zpb && (zR 1 zmd && (zR 1 zlo && (zR 1 zvG && zR 1 zqT))))) = true:=by decide +kernel
def zxS (p : zu) : Bool:=decide (p.text.size <= 1000) && (zfS p.text && (decide (0 <= p.kind) && decide (p.kind <= 255)))
theorem zhb {ps : List zu} (h : ps.all zxS = true) : zH ps:=by
 intro p hp;have:=List.all_eq_true.1 h p hp;unfold zxS at this;simp only [Bool.and_eq_true,decide_eq_true_eq] at this;exact ⟨this.1,zgY this.2.1,this.2.2.1,this.2.2.2⟩
theorem zqQ : zH ztv:=zhb (by decide +kernel)
theorem zlm : zH zpb:=zhb (by decide +kernel)
theorem zln : zH zmd:=zhb (by decide +kernel)
theorem zlp : zH zlo:=zhb (by decide +kernel)
theorem zqS : zH zvG:=zhb (by decide +kernel)
theorem zqU : zH zqT:=zhb (by decide +kernel)
theorem zuD : zaU zV 1 ztv (zaX zV 11).1 = some [⟨1,1,0⟩,⟨4,4,0⟩,⟨8,1,0⟩,⟨9,1,0⟩,⟨10,1,0⟩]:=by
 unfold zaU zeb zax zap zZ zbu zaj zF zQ;rw [zcs,zdz]
 decide +kernel
theorem zsx : zfi zV 1 zpb = [⟨1,5,3⟩]:=by
 unfold zfi zfh zfv zfE zch zjA zjN zZ zax zaj zF;rw [zcs]
 decide +kernel
theorem zwO : zfE zV 1 zmd = [⟨1,0,2⟩]:=by
 unfold zfE zch zjA zjN zax zaj;rw [zcs]
 decide +kernel
def zlR (l : List zeC) : List (Int × Int):=l.map fun m=>(m.point,m.cost)
theorem zyu : zlR (ziF zV 1 zlo) = [(11,4),(12,9)]:=by
 unfold ziF zcq zhg zaU zeb zax zap zZ zbu zaj zF zQ;rw [zcs,zdz]
 decide +kernel
theorem zyv : zlR (ziF zV 1 zvG) = []:=by
 unfold ziF zcq zhg zaU zeb zax zap zZ zbu zaj zF zQ;rw [zcs,zdz]
 decide +kernel
theorem zyw : zlR (ziF zV 1 zqT) = [(11,1),(12,6)]:=by
 unfold ziF zcq zhg zaU zeb zax zap zZ zbu zaj zF zQ;rw [zcs,zdz]
 decide +kernel
theorem zyt : zlR (ziF zV 1 zmd) = [(13,6)]:=by
 unfold ziF zcq zhg zaU zeb zax zap zZ zbu zaj zF zQ;rw [zcs,zdz]
 decide +kernel
theorem zys : zlR (ziF zV 1 zpb) = []:=by
 unfold ziF zcq zhg zaU zeb zax zap zZ zbu zaj zF zQ;rw [zcs,zdz]
 decide +kernel
theorem znh : zks zV where
 t:=by
  intro t ht;simp only [zV,List.mem_cons,List.not_mem_nil,or_false] at ht;subst ht;unfold zam;refine ⟨by simp,by simp,by decide,by decide,fun x hx=>?_⟩;simp only [List.mem_cons,List.not_mem_nil,or_false] at hx;rcases hx with rfl | rfl <;> decide
 s:=by
  intro t ht;simp only [zV,List.mem_cons,List.not_mem_nil,or_false] at ht;subst ht;unfold zam;refine ⟨by simp,by simp,by decide,by decide,by decide,fun x hx=>?_⟩;simp only [List.mem_cons,List.not_mem_nil,or_false] at hx;subst hx
  decide
 r:=by
  intro t ht;simp only [zV,List.mem_cons,List.not_mem_nil,or_false] at ht;unfold zam;rcases ht with rfl | rfl | rfl <;> decide
 p:=by
  intro t ht;simp only [zV,List.mem_cons,List.not_mem_nil,or_false] at ht;unfold zam;rcases ht with rfl | rfl | rfl <;> decide
theorem zni : zrv zV where
 t:=fun id=>by
  rcases zdR zJ.zero (fun t=>decide (t.id = id)) zV.towns with h | h
  ·unfold zas
   rw [h]; decide
  ·simp only [zV,List.mem_cons,List.not_mem_nil,or_false] at h
   unfold zas;rw [show zV.towns = [⟨1,1,zcu,maB,[zdi,zhU]⟩] from rfl,h]; decide
 s:=fun id=>by
  rcases zdR zz.zero (fun t=>decide (t.id = id)) zV.streets with h | h
  ·unfold zn
   rw [h]; decide
  ·simp only [zV,List.mem_cons,List.not_mem_nil,or_false] at h
   unfold zn;rw [show zV.streets = [⟨5,1,zhn,zlW,zfr,[zkh]⟩] from rfl,h]; decide
 p:=by
  intro t ht;simp only [zV,List.mem_cons,List.not_mem_nil,or_false] at ht;unfold zam;rcases ht with rfl | rfl | rfl <;> decide
theorem zqf : zV.points.Pairwise fun a b=>a.id ≠ b.id:=by decide
end
section
open Go.RowKit Go.Maps
def zgo (w : World) (v : Value) (l : List (Int × Int)) : Prop:=
 ∃ A c,v = .slice A (2 * l.length) c /\ l.length <= 1000 /\ (0 < l.length -> ∃ b off,A = some ⟨b,off,none⟩ /\ b < w.heap.size /\ ∀ i,i < l.length ->
  w.cell? ⟨b,off + 2 * i,none⟩ = some (.int .i64 (l.getD i (0,0)).1) /\ w.cell? ⟨b,off + (2 * i + 1),none⟩ = some (.int .i64 (l.getD i (0,0)).2))
theorem zuA {ms : List zcl} {l : List (Int × Int)} (h : zlR (ms.map zcl.plain) = l) {i : Nat} (hi : i < ms.length) : ms[i].point = (l.getD i (0,0)).1 /\ ms[i].cost = (l.getD i (0,0)).2:=by
 subst h;unfold zlR;rw [zD _ _ _ (by simpa using hi)];simp [zcl.plain]
theorem zwI (vt vs vr vp : Value) (f : zw) (c : Int) (pv : Value) (ps : List zu) (wv : Value) (l : List (Int × Int)) (w : World) (hf : zaf w vt vs vr vp f) (hfine : zks f) (hv : zav w pv ps) (hps : zH ps) (hg : zrv f) (hval : zae f = true) (hright : zR c ps = true) (htab : zbz w)
  (hlen : f.points.length <= 64) (hids : f.points.Pairwise fun a b=>a.id ≠ b.id) (hall : zlR (ziF f c ps) = l) (hw : zgo w wv l) :
  Calls Tryz.prog 25 #[.agg #[vt,vs,vr,vp],.agg #[.int .u8 c,pv],wv] w fun e w'=>e = .returned (.bool true) /\ Below w.heap.size w w':=by
 have hf':=Hd hf;have hv':=Hd hv;have hcall:=Hd (fun W h1 h2 h3=>zfP vt vs vr vp f c pv ps W h1 hfine h2 hps (fun _=>hg) h3 hlen (fun _=>hids));obtain ⟨⟨tA,tn,tc,rfl⟩,⟨sA,sn,sc,rfl⟩,⟨rA,rn,rc,rfl⟩,⟨pA,pn,pc,rfl⟩⟩:=hf.forms;obtain ⟨qA,qc,rfl,-⟩:=hv;obtain ⟨wA,wc,rfl,hwl,hwc⟩:=hw;have hwc':=Hd hwc;have hall':=Hd hall;have hok : Hid ((zae f && zR c ps) = true):=Hd (by rw [hval,hright]; rfl);have htab':=Hd htab;clear hf hfine hps hg hval hright htab hlen hids hall hwc;have hb1 : Hid (Below w.heap.size w ((w.alloc (.cells #[.slice tA tn tc,.slice sA sn sc,.slice rA rn rc,.slice pA pn pc] 31)).alloc (.cells #[.int .u8 c,.slice qA ps.length qc] 39))):=Hd (((Below.refl _ _).alloc (lQ _) _).alloc (by simp) _);have k3:=Hd ((Blk.new w 31 #[.slice tA tn tc,.slice sA sn sc,.slice rA rn rc,.slice pA pn pc]).alloc (.cells #[.int .u8 c,.slice qA ps.length qc] 39));have k4:=Hd (Blk.new_at (w.alloc (.cells #[.slice tA tn tc,.slice sA sn sc,.slice rA rn rc,.slice pA pn pc] 31)) 39 #[.int .u8 c,.slice qA ps.length qc] (w.heap.size + 1) (by simp));go_enter Tryz.func25,Tryz.ntmps25;go_upto_region 1 with fail;generalize (w.alloc (.cells #[.slice tA tn tc,.slice sA sn sc,.slice rA rn rc,.slice pA pn pc] 31)).alloc (.cells #[.int .u8 c,.slice qA ps.length qc] 39) = W at *;have q0:=k3.out.cell 0;have q1:=k3.out.cell 1;have q2:=k3.out.cell 2;have q3:=k3.out.cell 3;have r0:=k4.out.cell 0;have r1:=k4.out.cell 1;have l3:=k3.out.lt;have l4:=k4.out.lt;simp at q0 q1 q2 q3 r0 r1;go_wp2_with fail;refine (hcall.out W (hf'.out.stays (zo.of hb1.out)) (hv'.out.stays (zo.of hb1.out)) (htab'.out.below hb1.out)).mono ?_;rintro e w1 ⟨hres,hb2⟩;rw [hok.out] at hres;obtain ⟨h0,-⟩ | ⟨-,v,ms,rfl,hown,hpl⟩:=hres
 ·cases h0
 obtain ⟨mA,mc,rfl⟩:=hown.form_;have hml : Hid (ms.length = l.length):=Hd (by rw [<- hall'.out,<- hpl]; simp [zlR]);rw [hml.out];have hbw:=Hd (hb1.out.trans (hb2.mono hb1.out.size));have hsl:=Hd (hown.sl (fun _=>rfl));have hget:=Hd (fun i (hi : i < ms.length)=>zuA (l:=l) (by rw [hpl]; exact hall'.out) hi);clear hcall k3 k4 q0 q1 q2 q3 r0 r1 l3 l4 hown hpl hb2 hb1 hall';go_wp2
 go_loopw [9,10,29] (fun _ _ iv wr=>∃ k : Nat,k <= l.length /\ iv = .int .i64 k /\ Hid (Below w.heap.size w wr) /\ Hid (Below w1.heap.size w1 wr)) (fun _ _ iv _=>l.length - (intOf iv).toNat)
 case atStart=>exact ⟨0,by omega,rfl,hbw,Hd (Below.refl _ _)⟩
 case round=>
  obtain ⟨k,hk,rfl,hbr,hb1r⟩:=hrel;rename World=>wr;have n0 : (0 : Int) <= (k : Int):=by omega
  by_cases hlt : k < l.length
  ·have n1 : (k : Int) < (l.length : Int):=by omega
   have hkm : k < ms.length:=by rw [hml.out]; exact hlt
   obtain ⟨A',c',hv2,-,-,hA⟩:=hsl.out;obtain ⟨b,off,rfl,hb,-,hi⟩:=hA (by omega);have hi':=hi k hkm;obtain ⟨rfl,-,hi2⟩:=hi';have a0:=hi2 hkm 0 (by omega);have a1:=hi2 hkm 1 (by omega);have a2:=hi2 hkm 2 (by omega);rw [<- hb1r.out.cell (p:=⟨b,0 + k * 3 + 0,none⟩) hb] at a0;rw [<- hb1r.out.cell (p:=⟨b,0 + k * 3 + 1,none⟩) hb] at a1;rw [<- hb1r.out.cell (p:=⟨b,0 + k * 3 + 2,none⟩) hb] at a2;obtain ⟨g1,g2⟩:=hget.out k hkm;obtain ⟨wb,wo,rfl,hwb,hwi⟩:=hwc'.out (by omega);obtain ⟨c1,c2⟩:=hwi k hlt;have hmk : ∀ v,zgi ms[k] = [.int .i64 ms[k].point,.int .i64 ms[k].cost,ms[k].value]:=fun _=>rfl;generalize ms[k] = m at *;obtain ⟨m0,m1,m2,m3,m4,m5⟩:=m;simp only [zgi,zcl.value,List.getElem?_cons_zero,List.getElem?_cons_succ,Nat.zero_add,Nat.add_zero] at a0 a1 a2 g1 g2;injection hv2 with e1 e2 e3;subst e1;rw [<- g1] at c1;rw [<- g2] at c2;have hbx:=Hd (hbr.out.alloc hbr.out.size (.cells #[.int .i64 m0,.int .i64 m1,.slice m2 m3 m4] 43));have hb1x:=Hd (hb1r.out.alloc hb1r.out.size (.cells #[.int .i64 m0,.int .i64 m1,.slice m2 m3 m4] 43));have kM:=Hd (Blk.new wr 43 #[.int .i64 m0,.int .i64 m1,.slice m2 m3 m4]);have lb : b < wr.heap.size:=Nat.lt_of_lt_of_le hb hb1r.out.size;clear hi hi2 hA hwi hmk g1 g2 e2 e3;go_upto_region 7 with fail;clear a0 a1 a2 lb;generalize wr.alloc (.cells #[.int .i64 m0,.int .i64 m1,.slice m2 m3 m4] 43) = W7 at *;have lM:=kM.out.lt;generalize wr.heap.size = N at *;have hw2 : IntKind.i64.wrap (2 * (k : Int)) = 2 * (k : Int):=by simp [IntKind.wrap,IntKind.bits,IntKind.signed]; omega
   have hw3 : IntKind.i64.wrap (2 * (k : Int) + 1) = 2 * (k : Int) + 1:=by simp [IntKind.wrap,IntKind.bits,IntKind.signed]; omega
   have n2 : (0 : Int) <= 2 * (k : Int):=by omega
   have n3 : 2 * (k : Int) < ((2 * l.length : Nat) : Int):=by omega
   have n4 : (0 : Int) <= 2 * (k : Int) + 1:=by omega
   have n5 : 2 * (k : Int) + 1 < ((2 * l.length : Nat) : Int):=by omega
   have t2 : (2 * (k : Int)).toNat = 2 * k:=by omega
   have t3 : (2 * (k : Int) + 1).toNat = 2 * k + 1:=by omega
   refine zC rfl (by kernel_rfl) ?_;have y0:=fun (u : Ups W7)=>(kM.out.below u.up lM).cell 0;have y1:=fun (u : Ups W7)=>(kM.out.below u.up lM).cell 1;simp at y0 y1;have z1:=fun (u : Ups W7)=>((hbx.out.trans (u.up.mono hbx.out.size)).cell (p:=⟨wb,wo + 2 * k,none⟩) hwb).trans c1;have z2:=fun (u : Ups W7)=>((hbx.out.trans (u.up.mono hbx.out.size)).cell (p:=⟨wb,wo + (2 * k + 1),none⟩) hwb).trans c2
   repeat (go_big_quiet_step (fail))
   refine wpQuiet_nil ?_;rintro w' ⟨u,rfl⟩;have hu1:=Hd (hbx.out.trans (u.up.mono hbx.out.size));have hu2:=Hd (hb1x.out.trans (u.up.mono hb1x.out.size));clear y0 y1 z1 z2 hbx hb1x kM;generalize u.wld = wz at *;go_wp2;go_roundw
   case rel=>exact ⟨k + 1,by omega,by go_num,hu1,hu2⟩
   case measure=>simp [intOf]; omega
  ·obtain rfl : k = l.length:=by omega
   go_wp2;go_ret;exact ⟨rfl,hbr.out⟩
end
section
open Go.RowKit Go.Maps
theorem zdK (x1 x3 x4 x5 x7 x8 x9 x10 : ByteArray) (w : World) :
  Calls Tryz.prog 22 #[.string x1,.string x3,.string x4,.string x5,.string x7,.string x8,.string x9,.string x10] w fun e w'=>∃ v,e = .returned (.agg #[.int .u8 1,v]) /\ zaD w.heap.size w' v (ziq x1 x3 x4 x5 x7 x8 x9 x10) /\ Below w.heap.size w w':=by
 have hL : Hid (∀ k,zrY x1 x3 x4 x5 x7 x8 x9 x10 (k + 1) = [x1,⟨#[]⟩,x3,x4,x5,⟨#[]⟩,x7,x8,x9,x10].getD k ⟨#[]⟩):=Hd fun k=>rfl;have hps : Hid (ziq x1 x3 x4 x5 x7 x8 x9 x10 = zG (zrY x1 x3 x4 x5 x7 x8 x9 x10) 10):=Hd rfl;rw [hps.out];clear hps;generalize zrY x1 x3 x4 x5 x7 x8 x9 x10 = ov at *;obtain ⟨i0,hi0,hz0,hz1,hz2⟩:=info_parts zoA;have kR:=Hd ((Blk.new w 39 #[.int .u8 0,.slice none 0 0]).alloc (.cells #[.int .u8 1,.slice none 0 0] 39));have kO:=Hd (Blk.new_at (w.alloc (.cells #[.int .u8 0,.slice none 0 0] 39)) 39 #[.int .u8 1,.slice none 0 0] (w.heap.size + 1) (by simp));have hb0:=Hd (((Below.refl w.heap.size w).alloc (lQ _) (.cells #[.int .u8 0,.slice none 0 0] 39)).alloc (by simp) (.cells #[.int .u8 1,.slice none 0 0] 39));go_enter Tryz.func22,Tryz.ntmps22;go_upto_region 2 with fail;generalize (w.alloc (.cells #[.int .u8 0,.slice none 0 0] 39)).alloc (.cells #[.int .u8 1,.slice none 0 0] 39) = W at *;have hRO : w.heap.size < w.heap.size + 1:=by omega
 have hwO : w.heap.size <= w.heap.size:=lQ _;generalize w.heap.size + 1 = O at *;have hbw:=Hd (hb0.out.alloc hb0.out.size (.cells #[.string x1,.string ⟨#[]⟩,.string x3,.string x4,.string x5,.string ⟨#[]⟩,.string x7,.string x8,.string x9,.string x10] 9));have kXe : Hid (Blk (W.alloc (.cells #[.string x1,.string ⟨#[]⟩,.string x3,.string x4,.string x5,.string ⟨#[]⟩,.string x7,.string x8,.string x9,.string x10] 9)) W.heap.size 9 ([x1,⟨#[]⟩,x3,x4,x5,⟨#[]⟩,x7,x8,x9,x10].map Value.string).toArray):=Hd (Blk.new W 9 _);have kRe:=Hd (kR.out.alloc (.cells #[.string x1,.string ⟨#[]⟩,.string x3,.string x4,.string x5,.string ⟨#[]⟩,.string x7,.string x8,.string x9,.string x10] 9));have kOe:=Hd (kO.out.alloc (.cells #[.string x1,.string ⟨#[]⟩,.string x3,.string x4,.string x5,.string ⟨#[]⟩,.string x7,.string x8,.string x9,.string x10] 9));have hOX : O < W.heap.size:=kO.out.lt;have hl10 : Hid ([x1,⟨#[]⟩,x3,x4,x5,⟨#[]⟩,x7,x8,x9,x10].length = 10):=Hd rfl;generalize [x1,⟨#[]⟩,x3,x4,x5,⟨#[]⟩,x7,x8,x9,x10] = L at *;clear kR kO hb0;go_wp2_with (refine Go.Great.wpList_buildSliceTo rfl 77 9 10 _ rfl W.heap.size rfl (some 29) rfl Tryz.underlying77 #[.string x1,.string ⟨#[]⟩,.string x3,.string x4,.string x5,.string ⟨#[]⟩,.string x7,.string x8,.string x9,.string x10] (by kernel_rfl) ?_; generalize W.alloc (.cells #[.string x1,.string ⟨#[]⟩,.string x3,.string x4,.string x5,.string ⟨#[]⟩,.string x7,.string x8,.string x9,.string x10] 9) = wx at *; generalize W.heap.size = X at *)
 go_loopw [18,19,31] (fun _ _ iv wr=>∃ k : Nat,k <= 10 /\ iv = .int .i64 k /\ Hid (Below w.heap.size w wr) /\ Hid (Blk wr w.heap.size 39 #[.int .u8 0,.slice none 0 0]) /\ Hid (Blk wr X 9 (L.map Value.string).toArray) /\ Hid (zpF (X + 1) O 1 (zG ov k) wr)) (fun _ _ iv _=>10 - (intOf iv).toNat)
 case atStart=>exact ⟨0,by omega,rfl,hbw,kRe,kXe,Hd ⟨_,kOe.out,zaw.nil_⟩⟩
 case round=>
  obtain ⟨k,hk,rfl,hbr,hkR,hkX,hop⟩:=hrel;rename World=>wr;have n0 : (0 : Int) <= (k : Int):=by omega
  obtain ⟨v,hbk,hown⟩:=hop.out;obtain ⟨vA,vc,rfl⟩:=hown.form_;have hbk':=Hd hbk;have hown':=Hd hown;clear hown hbk;by_cases hlt : k < 10
  ·have n1 : (k : Int) < 10:=by omega
   have a0:=zlH hkX.out (k:=k) (by rw [hl10.out]; exact hlt);have lX:=hkX.out.lt;have hst : Hid (zG ov (k + 1) = zG ov k ++ (if (L.getD k ⟨#[]⟩).size = 0 then [] else [⟨(k + 1 : Nat),L.getD k ⟨#[]⟩⟩])):=Hd (by rw [zgE,hL.out]);have hlen : Hid ((zG ov k).length <= 10):=Hd (Nat.le_trans (zcX ov k) (by omega));generalize L.getD k ⟨#[]⟩ = q at *;generalize zG ov k = pl at *;by_cases hz : q.size = 0
   ·have e1 : q.toList.isEmpty = true:=by rw [zaL,hz]; rfl
    rw [if_pos hz,List.append_nil] at hst;clear hz;go_wp2;go_roundw
    case rel=>exact ⟨k + 1,by omega,by go_num,hbr,hkR,hkX,Hd (by rw [hst.out]; exact hop.out)⟩
    case measure=>simp [intOf]; omega
   ·have e1 : q.toList.isEmpty = false:=by rw [zaL]; simpa using hz
    rw [if_neg hz] at hst;clear hz;have hx1:=hbk'.out.cell 1;have lO:=hbk'.out.lt;have fO:=hbk'.out.frozen 1;simp at hx1;have hwn:=Hd ((Below.refl wr.heap.size wr).alloc (lQ _) (.cells #[.int .u8 ((k : Int) + 1),.string q] 50));have hoA:=Hd (zaw.keep ze hown'.out (zc.of_below hwn.out _));have hneq : some O ≠ Value.ownBlock (.slice vA pl.length vc):=fun e=>by have:=(hown'.out.block_lt e.symm).1; omega
    have hneR : some w.heap.size ≠ Value.ownBlock (.slice vA pl.length vc):=fun e=>by have:=(hown'.out.block_lt e.symm).1; omega
    have hneX : some X ≠ Value.ownBlock (.slice vA pl.length vc):=fun e=>by have:=(hown'.out.block_lt e.symm).1; omega
    have sd1 : pl.length + 1 <= maxLen:=by have:=hlen.out; unfold maxLen; omega
    have sd4 : (pl.length + 1) * 24 <= 140737488355328:=by have:=hlen.out; omega
    have sd3 : X + 1 <= wr.heap.size:=lX;go_wp2_with (at_builtin; refine wpList_append_lies _ rfl (.tmp 39) (.tmp 45) 37 rfl (X + 1) 50 i0 (.agg #[.int .u8 0,.string ⟨#[]⟩]) 2 24 Tryz.underlying37 hi0 hz0 hz1 hz2 rfl (by decide) (.slice vA pl.length vc) pl.length (pl.flatMap zak) rfl (by exact hoA.out.1) ⟨wr.heap.size,0,none⟩ 1 1 [.int .u8 ((k : Int) + 1),.string q] rfl rfl (by exact World.news_of_block (cs:=#[.int .u8 ((k : Int) + 1),.string q]) (heap_alloc_new _ _)) (by exact zbB ⟨((k + 1 : Nat) : Int),q⟩) Nat.one_pos sd1 sd4 (by simp; omega) (wr.heap.size + 1) (by simp) ?_; intro g cap1 w3 hown3 hgr3 hat3 hlt3; have hbk1:=Blk.grown (by exact hbk'.out.alloc _) hgr3 hneq; have y1:=hbk1.cell 1; have yf:=hbk1.frozen 1; simp only [List.getElem?_toArray,List.getElem?_cons_succ,List.getElem?_cons_zero] at y1; clear hbk1);have hR:=zpF.add (p:=⟨((k + 1 : Nat) : Int),q⟩) hbr.out hbk'.out hown'.out hwn.out (show O < X + 1 by omega) (by omega) hown3 rfl hgr3 (hat3.imp_right (fun e=>by simp [e]));have hkR3:=(Blk.grown (by exact hkR.out.alloc _) hgr3 hneR).far (p:=⟨O,1,none⟩) (by simp; omega) (.slice (some ⟨g,0,none⟩) (pl.length + 1) cap1);have hkX3:=(Blk.grown (by exact hkX.out.alloc _) hgr3 hneX).far (p:=⟨O,1,none⟩) (by simp; omega) (.slice (some ⟨g,0,none⟩) (pl.length + 1) cap1);clear hown3 hgr3 hat3 hlt3;go_roundw
    case rel=>exact ⟨k + 1,by omega,by go_num,Hd hR.1,Hd hkR3,Hd hkX3,Hd (by rw [hst.out]; exact hR.2)⟩
    case measure=>simp [intOf]; omega
  ·obtain rfl : k = 10:=by omega
   have q0:=hbk'.out.cell 0;have q1:=hbk'.out.cell 1;have lO:=hbk'.out.lt;have lR:=hkR.out.lt;have t0':=hkR.out.cell 0;have t1':=hkR.out.cell 1;simp at q0 q1 t0' t1';have fR0:=hkR.out.frozen 0;have fR1:=hkR.out.frozen 1;go_wp2;refine bodyPost_ret (results_cell_row (P:=Tryz.prog) Tryz.results22 _ _ _ _ _ _ _ rfl ((hkR.out.set_ 0 (.int .u8 1)).set_ 1 (.slice vA (zG ov 10).length vc)) Tryz.underlying39 rfl (by kernel_rfl)) rfl ?_
   have hown2 : zaD (X + 1) ((wr.setCell ⟨w.heap.size,0,none⟩ (.int .u8 1)).setCell ⟨w.heap.size,1,none⟩ (.slice vA (zG ov 10).length vc)) (.slice vA (zG ov 10).length vc) (zG ov 10):=
    zaw.keep ze (zaw.keep ze hown'.out (zc.set_ _ _ _ (by simp; omega))) (zc.set_ _ _ _ (by simp; omega))
   have hbe:=(hbr.out.setCell (p:=⟨w.heap.size,0,none⟩) (by simp <;> omega) (.int .u8 1)).setCell (p:=⟨w.heap.size,1,none⟩) (by simp <;> omega) (.slice vA (zG ov 10).length vc);refine ⟨_,rfl,?_,hbe⟩;exact zaw.base ze hown2 (by omega)
end
section
open Go.RowKit Go.Maps
theorem zr {w : World} {b : Nat} {t : TypeId} {cs : Array Value} (h : Blk w b t cs) (i : Nat) (v : Value) (hi : cs[i]? = some v) : w.cell? ⟨b,i,none⟩ = some v:=by rw [h.cell,hi]
theorem zse {w : World} {b : Nat} {t : TypeId} {l : List ByteArray} (h : Blk w b t (l.map Value.string).toArray) (hs : ∀ x ∈ l,x.size <= maxLen) (hl : l.length <= maxLen) : zan w (.slice (some ⟨b,0,none⟩) l.length l.length) l:=
 ⟨_,_,rfl,lQ _,hl,fun _=>⟨b,0,rfl,h.lt,fun i hi=>by
  have e : l.getD i ByteArray.empty = l[i]:=znm l _ i hi;simp only;rw [e];refine ⟨?_,hs _ (List.getElem_mem hi)⟩;rw [Nat.zero_add,h.cell,List.getElem?_toArray,List.getElem?_map,List.getElem?_eq_getElem hi]
  rfl⟩⟩
def ex2 : Array Value:=#[.string zdi,.string zhU]
def zhZ (n : Nat) : Array Value:=#[.int .i64 1,.int .u8 1,.string zcu,.string maB,.slice (some ⟨n + 1,0,none⟩) 2 2]
def zng : Array Value:=#[.string zkh]
def zdl (n : Nat) : Array Value:=#[.int .i64 5,.int .i64 1,.string zhn,.string zlW,.string zfr,.slice (some ⟨n + 3,0,none⟩) 1 1]
def zAe : Array Value:=#[.int .i64 1,.int .i64 5,.int .i64 1,.int .i64 99,.int .u8 0,.string zdi,.int .i64 7]
def zAf : Array Value:=#[.int .i64 1,.int .i64 5,.int .i64 100,.int .i64 198,.int .u8 2,.string zhU,.int .i64 8]
def zAg : Array Value:=#[.int .i64 1,.int .i64 0,.int .i64 1,.int .i64 50,.int .u8 0,.string zdi,.int .i64 7]
def zdk : Array Value:=zAe ++ zAf ++ zAg
def zAb : Array Value:=#[.int .i64 11,.int .i64 1,.int .i64 5,.int .i64 12,.string ⟨#[]⟩,.string ⟨#[]⟩,.int .i64 0,.int .i64 1]
def zAc : Array Value:=#[.int .i64 12,.int .i64 1,.int .i64 5,.int .i64 12,.string ⟨#[]⟩,.string ⟨#[51]⟩,.int .i64 0,.int .i64 2]
def zAd : Array Value:=#[.int .i64 13,.int .i64 1,.int .i64 0,.int .i64 0,.string ⟨#[]⟩,.string ⟨#[]⟩,.int .i64 9,.int .i64 3]
def zdj : Array Value:=zAb ++ zAc ++ zAd
theorem zwN {w7 : World} {n : Nat} (b2 : Blk w7 (n + 1) 9 ex2) (b3 : Blk w7 (n + 2) 79 (zhZ n)) (b4 : Blk w7 (n + 3) 9 zng) (b5 : Blk w7 (n + 4) 83 (zdl n)) (b6 : Blk w7 (n + 5) 72 zdk) (b7 : Blk w7 (n + 6) 33 zdj) :
  zaf w7 (.slice (some ⟨n + 2,0,none⟩) 1 1) (.slice (some ⟨n + 4,0,none⟩) 1 1) (.slice (some ⟨n + 5,0,none⟩) 3 3) (.slice (some ⟨n + 6,0,none⟩) 3 3) zV:=by
 refine ⟨⟨_,_,rfl,by simp [zV],by decide,fun _=>⟨_,_,rfl,b3.lt,fun i hi=>?_⟩⟩,⟨_,_,rfl,by simp [zV],by decide,fun _=>⟨_,_,rfl,b5.lt,fun i hi=>?_⟩⟩,⟨_,_,rfl,by simp [zV],by decide,fun _=>⟨_,_,rfl,b6.lt,fun i hi=>?_⟩⟩,⟨_,_,rfl,by simp [zV],by decide,fun _=>⟨_,_,rfl,b7.lt,fun i hi=>?_⟩⟩⟩
 ·obtain rfl : i = 0:=by simpa [zV] using hi
  exact ⟨_,zr b3 _ _ rfl,zr b3 _ _ rfl,zr b3 _ _ rfl,zr b3 _ _ rfl,zr b3 _ _ rfl,zse (l:=[zdi,zhU]) b2 (by decide) (by decide)⟩
 ·obtain rfl : i = 0:=by simpa [zV] using hi
  exact ⟨_,zr b5 _ _ rfl,zr b5 _ _ rfl,zr b5 _ _ rfl,zr b5 _ _ rfl,zr b5 _ _ rfl,zr b5 _ _ rfl,zse (l:=[zkh]) b4 (by decide) (by decide)⟩
 ·have hi3 : i < 3:=hi
  obtain rfl | rfl | rfl : i = 0 \/ i = 1 \/ i = 2:=by omega
  ·exact ⟨zr b6 _ _ rfl,zr b6 _ _ rfl,zr b6 _ _ rfl,zr b6 _ _ rfl,zr b6 _ _ rfl,zr b6 _ _ rfl,zr b6 _ _ rfl⟩
  ·exact ⟨zr b6 _ _ rfl,zr b6 _ _ rfl,zr b6 _ _ rfl,zr b6 _ _ rfl,zr b6 _ _ rfl,zr b6 _ _ rfl,zr b6 _ _ rfl⟩
  ·exact ⟨zr b6 _ _ rfl,zr b6 _ _ rfl,zr b6 _ _ rfl,zr b6 _ _ rfl,zr b6 _ _ rfl,zr b6 _ _ rfl,zr b6 _ _ rfl⟩
 ·have hi3 : i < 3:=hi
  obtain rfl | rfl | rfl : i = 0 \/ i = 1 \/ i = 2:=by omega
  ·exact ⟨zr b7 _ _ rfl,zr b7 _ _ rfl,zr b7 _ _ rfl,zr b7 _ _ rfl,zr b7 _ _ rfl,zr b7 _ _ rfl,zr b7 _ _ rfl,zr b7 _ _ rfl⟩
  ·exact ⟨zr b7 _ _ rfl,zr b7 _ _ rfl,zr b7 _ _ rfl,zr b7 _ _ rfl,zr b7 _ _ rfl,zr b7 _ _ rfl,zr b7 _ _ rfl,zr b7 _ _ rfl⟩
  ·exact ⟨zr b7 _ _ rfl,zr b7 _ _ rfl,zr b7 _ _ rfl,zr b7 _ _ rfl,zr b7 _ _ rfl,zr b7 _ _ rfl,zr b7 _ _ rfl,zr b7 _ _ rfl⟩
theorem zzf {w : World} {b g : Nat} {t : TypeId} {cs : Array Value} (h : Blk w b t cs) (hne : b ≠ g) (x0 x1 x2 x3 : Value) : Blk ((((w.setCell ⟨g,0,none⟩ x0).setCell ⟨g,1,none⟩ x1).setCell ⟨g,2,none⟩ x2).setCell ⟨g,3,none⟩ x3) b t cs:=
 (((h.far (p:=⟨g,0,none⟩) hne x0).far (p:=⟨g,1,none⟩) hne x1).far (p:=⟨g,2,none⟩) hne x2).far (p:=⟨g,3,none⟩) hne x3
theorem zsy (w : World) : Calls Tryz.prog 24 #[] w fun e w'=>∃ vt vs vr vp,e = .returned (.agg #[vt,vs,vr,vp]) /\ zaf w' vt vs vr vp zV /\ Below w.heap.size w w':=by
 go_enter Tryz.func24,Tryz.ntmps24;go_upto_region 1 with fail;have h0:=Below.refl w.heap.size w;have b1:=Blk.new w 31 #[.slice none 0 0,.slice none 0 0,.slice none 0 0,.slice none 0 0];have h1:=h0.alloc (lQ _) (.cells #[.slice none 0 0,.slice none 0 0,.slice none 0 0,.slice none 0 0] 31);have s1 : (w.alloc (.cells #[.slice none 0 0,.slice none 0 0,.slice none 0 0,.slice none 0 0] 31)).heap.size = w.heap.size + 1:=by simp
 generalize w.alloc (.cells #[.slice none 0 0,.slice none 0 0,.slice none 0 0,.slice none 0 0] 31) = w1 at *
 apply wp_region_lit
 refine Go.Great.wpList_buildSliceTo rfl 77 9 2 _ rfl (w.heap.size + 1) s1 (some 1) rfl Tryz.underlying77 ex2 (by kernel_rfl) ?_;have b2:=Blk.new_at w1 9 ex2 (w.heap.size + 1) s1.symm;have b1:=b1.alloc (.cells ex2 9);have h2:=h1.alloc (by omega) (.cells ex2 9);have s2 : (w1.alloc (.cells ex2 9)).heap.size = w.heap.size + 2:=by simp [s1]
 generalize w1.alloc (.cells ex2 9) = w2 at *;refine wpList_buildTo rfl 79 _ rfl (some 2) rfl (zhZ w.heap.size) (by kernel_rfl) ?_;refine Go.Great.wpList_buildSliceTo rfl 26 79 1 _ rfl (w.heap.size + 2) s2 (some 3) rfl Tryz.underlying26 (zhZ w.heap.size) (by kernel_rfl) ?_;have b3:=Blk.new_at w2 79 (zhZ w.heap.size) (w.heap.size + 2) s2.symm;have b2:=b2.alloc (.cells (zhZ w.heap.size) 79);have b1:=b1.alloc (.cells (zhZ w.heap.size) 79);have h3:=h2.alloc (by omega) (.cells (zhZ w.heap.size) 79);have s3 : (w2.alloc (.cells (zhZ w.heap.size) 79)).heap.size = w.heap.size + 3:=by simp [s2]
 generalize w2.alloc (.cells (zhZ w.heap.size) 79) = w3 at *;refine Go.Great.wpList_buildSliceTo rfl 77 9 1 _ rfl (w.heap.size + 3) s3 (some 4) rfl Tryz.underlying77 zng (by kernel_rfl) ?_;have b4:=Blk.new_at w3 9 zng (w.heap.size + 3) s3.symm;have b3:=b3.alloc (.cells zng 9);have b2:=b2.alloc (.cells zng 9);have b1:=b1.alloc (.cells zng 9);have h4:=h3.alloc (by omega) (.cells zng 9);have s4 : (w3.alloc (.cells zng 9)).heap.size = w.heap.size + 4:=by simp [s3]
 generalize w3.alloc (.cells zng 9) = w4 at *;refine wpList_buildTo rfl 83 _ rfl (some 5) rfl (zdl w.heap.size) (by kernel_rfl) ?_;refine Go.Great.wpList_buildSliceTo rfl 27 83 1 _ rfl (w.heap.size + 4) s4 (some 6) rfl Tryz.underlying27 (zdl w.heap.size) (by kernel_rfl) ?_;have b5:=Blk.new_at w4 83 (zdl w.heap.size) (w.heap.size + 4) s4.symm;have b4:=b4.alloc (.cells (zdl w.heap.size) 83);have b3:=b3.alloc (.cells (zdl w.heap.size) 83);have b2:=b2.alloc (.cells (zdl w.heap.size) 83);have b1:=b1.alloc (.cells (zdl w.heap.size) 83);have h5:=h4.alloc (by omega) (.cells (zdl w.heap.size) 83);have s5 : (w4.alloc (.cells (zdl w.heap.size) 83)).heap.size = w.heap.size + 5:=by simp [s4]
 generalize w4.alloc (.cells (zdl w.heap.size) 83) = w5 at *;refine wpList_buildTo rfl 72 _ rfl (some 7) rfl zAe (by kernel_rfl) ?_;refine wpList_buildTo rfl 72 _ rfl (some 8) rfl zAf (by kernel_rfl) ?_;refine wpList_buildTo rfl 72 _ rfl (some 9) rfl zAg (by kernel_rfl) ?_;refine Go.Great.wpList_buildSliceTo rfl 28 72 3 _ rfl (w.heap.size + 5) s5 (some 10) rfl Tryz.underlying28 zdk (by kernel_rfl) ?_;have b6:=Blk.new_at w5 72 zdk (w.heap.size + 5) s5.symm;have b5:=b5.alloc (.cells zdk 72);have b4:=b4.alloc (.cells zdk 72);have b3:=b3.alloc (.cells zdk 72);have b2:=b2.alloc (.cells zdk 72);have b1:=b1.alloc (.cells zdk 72);have h6:=h5.alloc (by omega) (.cells zdk 72);have s6 : (w5.alloc (.cells zdk 72)).heap.size = w.heap.size + 6:=by simp [s5]
 generalize w5.alloc (.cells zdk 72) = w6 at *;refine wpList_buildTo rfl 33 _ rfl (some 11) rfl zAb (by kernel_rfl) ?_;refine wpList_buildTo rfl 33 _ rfl (some 12) rfl zAc (by kernel_rfl) ?_;refine wpList_buildTo rfl 33 _ rfl (some 13) rfl zAd (by kernel_rfl) ?_;refine Go.Great.wpList_buildSliceTo rfl 29 33 3 _ rfl (w.heap.size + 6) s6 (some 14) rfl Tryz.underlying29 zdj (by kernel_rfl) ?_;have b7:=Blk.new_at w6 33 zdj (w.heap.size + 6) s6.symm;have b6:=b6.alloc (.cells zdj 33);have b5:=b5.alloc (.cells zdj 33);have b4:=b4.alloc (.cells zdj 33);have b3:=b3.alloc (.cells zdj 33);have b2:=b2.alloc (.cells zdj 33);have b1:=b1.alloc (.cells zdj 33);have h7:=h6.alloc (by omega) (.cells zdj 33);generalize w6.alloc (.cells zdj 33) = w7 at *;clear s1 s2 s3 s4 s5 s6 h0 h1 h2 h3 h4 h5 h6;have c0:=b1.cell 0;have c1:=b1.cell 1;have c2:=b1.cell 2;have c3:=b1.cell 3;have f0:=b1.frozen 0;have f1:=b1.frozen 1;have f2:=b1.frozen 2;have f3:=b1.frozen 3;have l1:=b1.lt;simp at c0 c1 c2 c3;have q2:=Hd b2;have q3:=Hd b3;have q4:=Hd b4;have q5:=Hd b5;have q6:=Hd b6;have q7:=Hd b7;have h7':=Hd h7;clear h7 b2 b3 b4 b5 b6 b7;go_wp2;refine bodyPost_ret (results_cell_row (P:=Tryz.prog) Tryz.results24 _ _ _ _ _ _ _ rfl ((((b1.set_ 0 _).set_ 1 _).set_ 2 _).set_ 3 _) Tryz.underlying31 rfl (by kernel_rfl)) rfl ?_
 exact ⟨_,_,_,_,rfl,zwN (zzf q2.out (by omega) _ _ _ _) (zzf q3.out (by omega) _ _ _ _) (zzf q4.out (by omega) _ _ _ _) (zzf q5.out (by omega) _ _ _ _) (zzf q6.out (by omega) _ _ _ _) (zzf q7.out (by omega) _ _ _ _),
  (((h7'.out.setCell (lQ _) _).setCell (lQ _) _).setCell (lQ _) _).setCell (lQ _) _⟩
end
section
open Go.RowKit Go.Maps
theorem zjF : zR 1 ztv = true /\ zR 1 zpb = true /\ zR 1 zmd = true /\ zR 1 zlo = true /\ zR 1 zvG = true /\ zR 1 zqT = true:=by
 have h:=zlq;simp only [Bool.and_eq_true] at h;exact h
def zgJ (w : World) (v : Value) (t s c : Int) : Prop:=∃ b off cap,v = .slice (some ⟨b,off,none⟩) 1 cap /\ b < w.heap.size /\ w.cell? ⟨b,off,none⟩ = some (.int .i64 t) /\ w.cell? ⟨b,off + 1,none⟩ = some (.int .i64 s) /\ w.cell? ⟨b,off + 2,none⟩ = some (.int .i64 c)
theorem zgJ.up {w w' : World} {v : Value} {t s c : Int} (h : zgJ w v t s c) (hb : Below w.heap.size w w') : zgJ w' v t s c:=by
 obtain ⟨b,off,cap,e,h1,h2,h3,h4⟩:=h;exact ⟨b,off,cap,e,Nat.lt_of_lt_of_le h1 hb.size,(hb.cell (p:=⟨b,off,none⟩) h1).trans h2,(hb.cell (p:=⟨b,off + 1,none⟩) h1).trans h3,(hb.cell (p:=⟨b,off + 2,none⟩) h1).trans h4⟩
theorem zmH {B : Nat} {w : World} {v : Value} {pl : List zby} {p : zby} (h : zco B w v pl) (hp : pl.Perm [p]) : zgJ w v p.town p.street p.cost:=by
 obtain rfl : pl = [p]:=List.perm_singleton.1 hp;obtain ⟨A,c,rfl,-,-,hA⟩:=h.sl (fun _=>rfl);obtain ⟨b,off,rfl,hb,-,hi⟩:=hA (by simp);obtain ⟨rfl,-,hc⟩:=hi 0 (by simp);have c0:=hc (by simp) 0 (by omega);have c1:=hc (by simp) 1 (by omega);have c2:=hc (by simp) 2 (by omega);exact ⟨b,0,c,rfl,hb,c0,c1,c2⟩
section
variable {vt vs vr vp pv : Value} {w : World}
theorem zmX (hf : zaf w vt vs vr vp zV) (hv : zav w pv zpb) : Calls Tryz.prog 20 #[.agg #[vt,vs,vr,vp],.agg #[.int .u8 1,pv]] w fun e w'=>∃ v,e = .returned (.tuple #[v,.int .i64 0]) /\ zgJ w' v 1 5 3 /\ Below w.heap.size w w':=by
 refine (zgD vt vs vr vp zV 1 pv zpb w hf znh hv zlm (fun _=>zni) (by decide) (by decide)).mono ?_;rintro e w' ⟨h,hb⟩;rw [zek,zjF.2.1,zsx] at h;rcases h with ⟨h,-⟩ | ⟨-,v,pl,rfl,h1,h2⟩
 ·cases h
 ·exact ⟨v,rfl,zmH h1 h2,hb⟩
theorem zpN (hf : zaf w vt vs vr vp zV) (hv : zav w pv zmd) : Calls Tryz.prog 21 #[.agg #[vt,vs,vr,vp],.agg #[.int .u8 1,pv]] w fun e w'=>∃ v,e = .returned (.tuple #[v,.int .i64 0]) /\ zgJ w' v 1 0 2 /\ Below w.heap.size w w':=by
 refine (zig vt vs vr vp zV 1 pv zmd w hf znh hv zln (fun _=>zni) (by decide)).mono ?_;rintro e w' ⟨h,hb⟩;rw [zek,zjF.2.2.1,zwO] at h;rcases h with ⟨h,-⟩ | ⟨-,v,pl,rfl,h1,h2⟩
 ·cases h
 ·exact ⟨v,rfl,zmH h1 h2,hb⟩
def zeB (w : World) (v : Value) : Prop:=∃ b off cap,v = .slice (some ⟨b,off,none⟩) 5 cap /\ b < w.heap.size /\ w.cell? ⟨b,off + 3,none⟩ = some (.int .u8 4) /\ w.cell? ⟨b,off + 4,none⟩ = some (.int .u8 4) /\ w.cell? ⟨b,off + 5,none⟩ = some (.int .i64 0)
theorem zeB.up {w w' : World} {v : Value} (h : zeB w v) (hb : Below w.heap.size w w') : zeB w' v:=by
 obtain ⟨b,off,cap,e,h1,h2,h3,h4⟩:=h;exact ⟨b,off,cap,e,Nat.lt_of_lt_of_le h1 hb.size,(hb.cell (p:=⟨b,off + 3,none⟩) h1).trans h2,(hb.cell (p:=⟨b,off + 4,none⟩) h1).trans h3,(hb.cell (p:=⟨b,off + 5,none⟩) h1).trans h4⟩
def zjK (N : Nat) (w : World) (v : Value) : Prop:=∃ b off cap,v = .slice (some ⟨b,off,none⟩) 5 cap /\ b ≠ N /\ b < w.heap.size /\ w.cell? ⟨b,off + 3,none⟩ = some (.int .u8 4) /\ w.cell? ⟨b,off + 4,none⟩ = some (.int .u8 4) /\ w.cell? ⟨b,off + 5,none⟩ = some (.int .i64 0)
theorem zjK.up {N : Nat} {w w' : World} {v : Value} (h : zjK N w v) (hb : Below w.heap.size w w') : zjK N w' v:=by
 obtain ⟨b,off,cap,e,h0,h1,h2,h3,h4⟩:=h;exact ⟨b,off,cap,e,h0,Nat.lt_of_lt_of_le h1 hb.size,(hb.cell (p:=⟨b,off + 3,none⟩) h1).trans h2,(hb.cell (p:=⟨b,off + 4,none⟩) h1).trans h3,(hb.cell (p:=⟨b,off + 5,none⟩) h1).trans h4⟩
theorem zjK.of_lt {N : Nat} {w : World} {v : Value} (h : zeB w v) (hN : w.heap.size <= N) : zjK N w v:=by
 obtain ⟨b,off,cap,e,h1,h2,h3,h4⟩:=h;exact ⟨b,off,cap,e,by omega,h1,h2,h3,h4⟩
theorem zjK.five {N : Nat} {w : World} {v : Value} (h : zjK N w v) : zeB w v:=by
 obtain ⟨b,off,cap,e,-,h1,h2,h3,h4⟩:=h;exact ⟨b,off,cap,e,h1,h2,h3,h4⟩
theorem zjK.set_ {N : Nat} {w : World} {v : Value} (h : zjK N w v) (i : Nat) (u : Value) : zjK N (w.setCell ⟨N,i,none⟩ u) v:=by
 obtain ⟨b,off,cap,e,h0,h1,h2,h3,h4⟩:=h;have hk : (w.setCell ⟨N,i,none⟩ u).heap[b]? = w.heap[b]?:=Below.heap_setCell w ⟨N,i,none⟩ u b h0;exact ⟨b,off,cap,e,h0,by simpa [World.setCell] using h1,(World.cell?_of_block hk).trans h2,(World.cell?_of_block hk).trans h3,(World.cell?_of_block hk).trans h4⟩
theorem zhy (hf : zaf w vt vs vr vp zV) (hv : zav w pv ztv) (htab : zbz w) : Calls Tryz.prog 13 #[.agg #[vt,vs,vr,vp],.agg #[.int .u8 1,pv],.int .i64 11] w fun e w'=>
  ∃ v,e = .returned (.tuple #[.agg #[.int .i64 11,.int .i64 0,v],.int .i64 0]) /\ (zeB w' v /\ ∀ N,N < w.heap.size -> zjK N w' v) /\ Below w.heap.size w w':=by
 refine (zcA vt vs vr vp zV 1 pv ztv 11 w hf znh hv zqQ (fun _=>zni) htab).mono ?_;rintro e w' ⟨h,hb⟩;rw [zek,zjF.1,zuD,show (zaX zV 11).2 = true from rfl,show (zaX zV 11).1.id = 11 from rfl] at h;rcases h with ⟨h,-⟩ | ⟨-,h,-⟩ | ⟨-,-,h,-⟩ | ⟨-,-,ns,nv,h1,rfl,h2⟩
 ·cases h
 ·cases h
 ·cases h
 ·cases h1
  obtain ⟨A,c,rfl,-,-,hA⟩:=h2;obtain ⟨b,off,rfl,hb2,hb3,hi⟩:=hA (by simp);obtain ⟨c0,c1,c2⟩:=hi 1 (by simp);exact ⟨_,rfl,⟨⟨b,off,c,rfl,hb2,c0,c1,c2⟩,fun N hN=>⟨b,off,c,rfl,by omega,hb2,c0,c1,c2⟩⟩,hb⟩
theorem zeD (ps : List zu) (l : List (Int × Int)) (wv : Value) (hps : zH ps) (hr : zR 1 ps = true) (hall : zlR (ziF zV 1 ps) = l) (hf : zaf w vt vs vr vp zV) (hv : zav w pv ps) (htab : zbz w) (hw : zgo w wv l) :
  Calls Tryz.prog 25 #[.agg #[vt,vs,vr,vp],.agg #[.int .u8 1,pv],wv] w fun e w'=>e = .returned (.bool true) /\ Below w.heap.size w w':=
 zwI vt vs vr vp zV 1 pv ps wv l w hf znh hv hps zni zek hr htab (by decide) zqf hall hw
theorem zoR {w : World} {N : Nat} {a b c d : Int} (h : Blk w N 3 #[.int .i64 a,.int .i64 b,.int .i64 c,.int .i64 d]) : zgo w (.slice (some ⟨N,0,none⟩) 4 4) [(a,b),(c,d)]:=
 ⟨_,_,rfl,by simp,fun _=>⟨N,0,rfl,h.lt,fun i hi=>by
  have hi2 : i < 2:=hi;obtain rfl | rfl : i = 0 \/ i = 1:=by omega
  ·exact ⟨h.cell 0,h.cell 1⟩
  ·exact ⟨h.cell 2,h.cell 3⟩⟩⟩
theorem zvA {w : World} {N : Nat} {a b : Int} (h : Blk w N 3 #[.int .i64 a,.int .i64 b]) : zgo w (.slice (some ⟨N,0,none⟩) 2 2) [(a,b)]:=
 ⟨_,_,rfl,by simp,fun _=>⟨N,0,rfl,h.lt,fun i hi=>by
  obtain rfl : i = 0:=by simpa using hi
  exact ⟨h.cell 0,h.cell 1⟩⟩⟩
theorem zgo.up {w w' : World} {v : Value} {l : List (Int × Int)} (h : zgo w v l) (hb : Below w.heap.size w w') : zgo w' v l:=by
 obtain ⟨A,c,e,hl,hA⟩:=h;refine ⟨A,c,e,hl,fun h0=>?_⟩;obtain ⟨b,off,e2,hlt,hi⟩:=hA h0;exact ⟨b,off,e2,Nat.lt_of_lt_of_le hlt hb.size,fun i h=>⟨(hb.cell (p:=⟨b,off + 2 * i,none⟩) hlt).trans (hi i h).1,(hb.cell (p:=⟨b,off + (2 * i + 1),none⟩) hlt).trans (hi i h).2⟩⟩
theorem zmF {w : World} : zgo w (.slice none 0 0) []:=⟨_,_,rfl,by simp,fun h=>absurd h (by simp)⟩
end
end
end Go.Proofs.YtggimnndflkjkaaGreatDoor
