import Derived.Test.YtggimnndflkjkaaGreatDoorR01
import Derived.Test.YtggimnndflkjkaaGreatDoorR19
import Derived.Lib.AppendIntMem
set_option linter.all false
set_option maxRecDepth 100000
set_option maxHeartbeats 0
namespace Go.Proofs.YtggimnndflkjkaaGreatDoor
section
open Go.RowKit
abbrev zbz (w : World) : Prop:=Lib.TabIs Tryz.prog w "internal/strconv.uint64pow10" .u64 Lib.pow10Tab
theorem zbz.below {w w' : World} (h : zbz w) (hb : Below w.heap.size w w') : zbz w':=Lib.tabBelow_of_tabIs h w' hb
def zao (n : Int) : ByteArray:=if n = 0 then ⟨#[]⟩ else ⟨(Lib.itoa n).toArray⟩
theorem zog (n : Int) (w : World) (h0 : -9223372036854775808 <= n) (h1 : n <= 9223372036854775807) (ht : zbz w) : Calls Tryz.prog 90 #[.int .i64 n] w fun e w'=>e = .returned (.string (zao n)) /\ Below w.heap.size w w':=by
 have hd : Hid (zao n = if n = 0 then ⟨#[]⟩ else ⟨(Lib.itoa n).toArray⟩):=Hd rfl;have hi : Hid (Calls Tryz.prog 19 #[.int .i64 n] w fun e w'=>e = .returned (.string ⟨(Lib.itoa n).toArray⟩) /\ Below w.heap.size w w'):=Hd ((Sh.strconv_Itoa n h0 h1 w ht).mono fun e w' ⟨he,k,os,hw⟩=>⟨he,by rw [hw]; exact Lib.below_grow _ _ (lQ _) k os⟩);by_cases hz : n = 0
 ·have e0 : (n == 0) = true:=by simp [hz]
  rw [if_pos hz] at hd;clear hz hi;go_enter Tryz.func90,Tryz.ntmps90;go_wp2;go_ret;exact ⟨by rw [hd.out]; rfl,Below.refl _ _⟩
 ·have e0 : (n == 0) = false:=by simpa using hz
  rw [if_neg hz] at hd;clear hz;go_enter Tryz.func90,Tryz.ntmps90;go_wp2_with fail;refine hi.out.mono ?_;rintro e w' ⟨rfl,hb⟩;clear hi;go_wp2;go_ret;exact ⟨by rw [hd.out]; rfl,hb⟩
structure zpH where
 town : zJ
 street : zz
 point : zh
def zfF (vt vs vr vp : Value) (r : zpH) (ct cs : Value) : Array Value:=#[vt,vs,vr,vp,.int .i64 r.town.id,.int .u8 r.town.country,.string r.town.name,.string r.town.region,ct,
 .int .i64 r.street.id,.int .i64 r.street.town,.string r.street.pre,.string r.street.name,.string r.street.suffix,cs,
 .int .i64 r.point.id,.int .i64 r.point.town,.int .i64 r.point.street,.int .i64 r.point.number,.string r.point.letter,.string r.point.unit,.int .i64 r.point.box,.int .i64 r.point.seq]
theorem ztw (vt vs vr vp ct cs : Value) (r : zpH) (w : World) (ht : zt vt) (hs : zt vs) (hr : zt vr) (hp : zt vp) (hct : zt ct) (hcs : zt cs) :
  Calls Tryz.prog 92 #[.agg (zfF vt vs vr vp r ct cs)] w fun e w'=>e = .returned (.string r.point.letter) /\ Below w.heap.size w w':=by
 obtain ⟨tA,tn,tc,rfl⟩:=ht;obtain ⟨sA,sn,sc,rfl⟩:=hs;obtain ⟨rA,rn,rc,rfl⟩:=hr;obtain ⟨pA,pn,pc,rfl⟩:=hp;obtain ⟨cA,cn,cc,rfl⟩:=hct;obtain ⟨dA,dn,dc,rfl⟩:=hcs;have hb : Below w.heap.size w (w.alloc (.cells (zfF (.slice tA tn tc) (.slice sA sn sc) (.slice rA rn rc) (.slice pA pn pc) r (.slice cA cn cc) (.slice dA dn dc)) 135)):=(Below.refl _ _).alloc (lQ _) _;obtain ⟨⟨t0,t1,t2,t3,t4⟩,⟨s0,s1,s2,s3,s4,s5⟩,⟨p0,p1,p2,p3,p4,p5,p6,p7⟩⟩:=r;unfold zfF at *;go_enter Tryz.func92,Tryz.ntmps92;go_wp2;go_ret;exact ⟨rfl,hb⟩
theorem zxt (vt vs vr vp ct cs : Value) (r : zpH) (w : World) (ht : zt vt) (hs : zt vs) (hr : zt vr) (hp : zt vp) (hct : zt ct) (hcs : zt cs) :
  Calls Tryz.prog 93 #[.agg (zfF vt vs vr vp r ct cs)] w fun e w'=>e = .returned (.string r.point.unit) /\ Below w.heap.size w w':=by
 obtain ⟨tA,tn,tc,rfl⟩:=ht;obtain ⟨sA,sn,sc,rfl⟩:=hs;obtain ⟨rA,rn,rc,rfl⟩:=hr;obtain ⟨pA,pn,pc,rfl⟩:=hp;obtain ⟨cA,cn,cc,rfl⟩:=hct;obtain ⟨dA,dn,dc,rfl⟩:=hcs;have hb : Below w.heap.size w (w.alloc (.cells (zfF (.slice tA tn tc) (.slice sA sn sc) (.slice rA rn rc) (.slice pA pn pc) r (.slice cA cn cc) (.slice dA dn dc)) 135)):=(Below.refl _ _).alloc (lQ _) _;obtain ⟨⟨t0,t1,t2,t3,t4⟩,⟨s0,s1,s2,s3,s4,s5⟩,⟨p0,p1,p2,p3,p4,p5,p6,p7⟩⟩:=r;unfold zfF at *;go_enter Tryz.func93,Tryz.ntmps93;go_wp2;go_ret;exact ⟨rfl,hb⟩
theorem zvI (vt vs vr vp ct cs : Value) (r : zpH) (w : World) (ht : zt vt) (hs : zt vs) (hr : zt vr) (hp : zt vp) (hct : zt ct) (hcs : zt cs) :
  Calls Tryz.prog 152 #[.agg (zfF vt vs vr vp r ct cs)] w fun e w'=>e = .returned (.string r.town.name) /\ Below w.heap.size w w':=by
 obtain ⟨tA,tn,tc,rfl⟩:=ht;obtain ⟨sA,sn,sc,rfl⟩:=hs;obtain ⟨rA,rn,rc,rfl⟩:=hr;obtain ⟨pA,pn,pc,rfl⟩:=hp;obtain ⟨cA,cn,cc,rfl⟩:=hct;obtain ⟨dA,dn,dc,rfl⟩:=hcs;have hb : Below w.heap.size w (w.alloc (.cells (zfF (.slice tA tn tc) (.slice sA sn sc) (.slice rA rn rc) (.slice pA pn pc) r (.slice cA cn cc) (.slice dA dn dc)) 135)):=(Below.refl _ _).alloc (lQ _) _;obtain ⟨⟨t0,t1,t2,t3,t4⟩,⟨s0,s1,s2,s3,s4,s5⟩,⟨p0,p1,p2,p3,p4,p5,p6,p7⟩⟩:=r;unfold zfF at *;go_enter Tryz.func152,Tryz.ntmps152;go_wp2;go_ret;exact ⟨rfl,hb⟩
theorem zty (vt vs vr vp ct cs : Value) (r : zpH) (w : World) (ht : zt vt) (hs : zt vs) (hr : zt vr) (hp : zt vp) (hct : zt ct) (hcs : zt cs) :
  Calls Tryz.prog 154 #[.agg (zfF vt vs vr vp r ct cs)] w fun e w'=>e = .returned (.string r.town.region) /\ Below w.heap.size w w':=by
 obtain ⟨tA,tn,tc,rfl⟩:=ht;obtain ⟨sA,sn,sc,rfl⟩:=hs;obtain ⟨rA,rn,rc,rfl⟩:=hr;obtain ⟨pA,pn,pc,rfl⟩:=hp;obtain ⟨cA,cn,cc,rfl⟩:=hct;obtain ⟨dA,dn,dc,rfl⟩:=hcs;have hb : Below w.heap.size w (w.alloc (.cells (zfF (.slice tA tn tc) (.slice sA sn sc) (.slice rA rn rc) (.slice pA pn pc) r (.slice cA cn cc) (.slice dA dn dc)) 135)):=(Below.refl _ _).alloc (lQ _) _;obtain ⟨⟨t0,t1,t2,t3,t4⟩,⟨s0,s1,s2,s3,s4,s5⟩,⟨p0,p1,p2,p3,p4,p5,p6,p7⟩⟩:=r;unfold zfF at *;go_enter Tryz.func154,Tryz.ntmps154;go_wp2;go_ret;exact ⟨rfl,hb⟩
theorem zyQ (vt vs vr vp ct cs : Value) (r : zpH) (w : World) (ht : zt vt) (hs : zt vs) (hr : zt vr) (hp : zt vp) (hct : zt ct) (hcs : zt cs) :
  Calls Tryz.prog 155 #[.agg (zfF vt vs vr vp r ct cs)] w fun e w'=>e = .returned (.string r.street.pre) /\ Below w.heap.size w w':=by
 obtain ⟨tA,tn,tc,rfl⟩:=ht;obtain ⟨sA,sn,sc,rfl⟩:=hs;obtain ⟨rA,rn,rc,rfl⟩:=hr;obtain ⟨pA,pn,pc,rfl⟩:=hp;obtain ⟨cA,cn,cc,rfl⟩:=hct;obtain ⟨dA,dn,dc,rfl⟩:=hcs;have hb : Below w.heap.size w (w.alloc (.cells (zfF (.slice tA tn tc) (.slice sA sn sc) (.slice rA rn rc) (.slice pA pn pc) r (.slice cA cn cc) (.slice dA dn dc)) 135)):=(Below.refl _ _).alloc (lQ _) _;obtain ⟨⟨t0,t1,t2,t3,t4⟩,⟨s0,s1,s2,s3,s4,s5⟩,⟨p0,p1,p2,p3,p4,p5,p6,p7⟩⟩:=r;unfold zfF at *;go_enter Tryz.func155,Tryz.ntmps155;go_wp2;go_ret;exact ⟨rfl,hb⟩
theorem zvH (vt vs vr vp ct cs : Value) (r : zpH) (w : World) (ht : zt vt) (hs : zt vs) (hr : zt vr) (hp : zt vp) (hct : zt ct) (hcs : zt cs) :
  Calls Tryz.prog 156 #[.agg (zfF vt vs vr vp r ct cs)] w fun e w'=>e = .returned (.string r.street.name) /\ Below w.heap.size w w':=by
 obtain ⟨tA,tn,tc,rfl⟩:=ht;obtain ⟨sA,sn,sc,rfl⟩:=hs;obtain ⟨rA,rn,rc,rfl⟩:=hr;obtain ⟨pA,pn,pc,rfl⟩:=hp;obtain ⟨cA,cn,cc,rfl⟩:=hct;obtain ⟨dA,dn,dc,rfl⟩:=hcs;have hb : Below w.heap.size w (w.alloc (.cells (zfF (.slice tA tn tc) (.slice sA sn sc) (.slice rA rn rc) (.slice pA pn pc) r (.slice cA cn cc) (.slice dA dn dc)) 135)):=(Below.refl _ _).alloc (lQ _) _;obtain ⟨⟨t0,t1,t2,t3,t4⟩,⟨s0,s1,s2,s3,s4,s5⟩,⟨p0,p1,p2,p3,p4,p5,p6,p7⟩⟩:=r;unfold zfF at *;go_enter Tryz.func156,Tryz.ntmps156;go_wp2;go_ret;exact ⟨rfl,hb⟩
theorem ztz (vt vs vr vp ct cs : Value) (r : zpH) (w : World) (ht : zt vt) (hs : zt vs) (hr : zt vr) (hp : zt vp) (hct : zt ct) (hcs : zt cs) :
  Calls Tryz.prog 157 #[.agg (zfF vt vs vr vp r ct cs)] w fun e w'=>e = .returned (.string r.street.suffix) /\ Below w.heap.size w w':=by
 obtain ⟨tA,tn,tc,rfl⟩:=ht;obtain ⟨sA,sn,sc,rfl⟩:=hs;obtain ⟨rA,rn,rc,rfl⟩:=hr;obtain ⟨pA,pn,pc,rfl⟩:=hp;obtain ⟨cA,cn,cc,rfl⟩:=hct;obtain ⟨dA,dn,dc,rfl⟩:=hcs;have hb : Below w.heap.size w (w.alloc (.cells (zfF (.slice tA tn tc) (.slice sA sn sc) (.slice rA rn rc) (.slice pA pn pc) r (.slice cA cn cc) (.slice dA dn dc)) 135)):=(Below.refl _ _).alloc (lQ _) _;obtain ⟨⟨t0,t1,t2,t3,t4⟩,⟨s0,s1,s2,s3,s4,s5⟩,⟨p0,p1,p2,p3,p4,p5,p6,p7⟩⟩:=r;unfold zfF at *;go_enter Tryz.func157,Tryz.ntmps157;go_wp2;go_ret;exact ⟨rfl,hb⟩
theorem ztx (vt vs vr vp ct cs : Value) (r : zpH) (w : World) (ht : zt vt) (hs : zt vs) (hr : zt vr) (hp : zt vp) (hct : zt ct) (hcs : zt cs) (h0 : -9223372036854775808 <= r.point.number) (h1 : r.point.number <= 9223372036854775807) (htab : zbz w) :
  Calls Tryz.prog 89 #[.agg (zfF vt vs vr vp r ct cs)] w fun e w'=>e = .returned (.string (zao r.point.number)) /\ Below w.heap.size w w':=by
 obtain ⟨tA,tn,tc,rfl⟩:=ht;obtain ⟨sA,sn,sc,rfl⟩:=hs;obtain ⟨rA,rn,rc,rfl⟩:=hr;obtain ⟨pA,pn,pc,rfl⟩:=hp;obtain ⟨cA,cn,cc,rfl⟩:=hct;obtain ⟨dA,dn,dc,rfl⟩:=hcs;have hb : Below w.heap.size w (w.alloc (.cells (zfF (.slice tA tn tc) (.slice sA sn sc) (.slice rA rn rc) (.slice pA pn pc) r (.slice cA cn cc) (.slice dA dn dc)) 135)):=(Below.refl _ _).alloc (lQ _) _;have hdg:=Hd (zog r.point.number _ h0 h1 (htab.below hb));generalize zao r.point.number = dg at *;obtain ⟨⟨t0,t1,t2,t3,t4⟩,⟨s0,s1,s2,s3,s4,s5⟩,⟨p0,p1,p2,p3,p4,p5,p6,p7⟩⟩:=r;unfold zfF at *;go_enter Tryz.func89,Tryz.ntmps89;go_wp2_with fail;refine hdg.out.mono ?_;rintro e w2 ⟨rfl,hb2⟩;have hend:=hb.trans (hb2.mono hb.size);go_wp2;go_ret;exact ⟨rfl,hend⟩
theorem zyP (vt vs vr vp ct cs : Value) (r : zpH) (w : World) (ht : zt vt) (hs : zt vs) (hr : zt vr) (hp : zt vp) (hct : zt ct) (hcs : zt cs) (h0 : -9223372036854775808 <= r.point.box) (h1 : r.point.box <= 9223372036854775807) (htab : zbz w) :
  Calls Tryz.prog 94 #[.agg (zfF vt vs vr vp r ct cs)] w fun e w'=>e = .returned (.string (zao r.point.box)) /\ Below w.heap.size w w':=by
 obtain ⟨tA,tn,tc,rfl⟩:=ht;obtain ⟨sA,sn,sc,rfl⟩:=hs;obtain ⟨rA,rn,rc,rfl⟩:=hr;obtain ⟨pA,pn,pc,rfl⟩:=hp;obtain ⟨cA,cn,cc,rfl⟩:=hct;obtain ⟨dA,dn,dc,rfl⟩:=hcs;have hb : Below w.heap.size w (w.alloc (.cells (zfF (.slice tA tn tc) (.slice sA sn sc) (.slice rA rn rc) (.slice pA pn pc) r (.slice cA cn cc) (.slice dA dn dc)) 135)):=(Below.refl _ _).alloc (lQ _) _;have hdg:=Hd (zog r.point.box _ h0 h1 (htab.below hb));generalize zao r.point.box = dg at *;obtain ⟨⟨t0,t1,t2,t3,t4⟩,⟨s0,s1,s2,s3,s4,s5⟩,⟨p0,p1,p2,p3,p4,p5,p6,p7⟩⟩:=r;unfold zfF at *;go_enter Tryz.func94,Tryz.ntmps94;go_wp2_with fail;refine hdg.out.mono ?_;rintro e w2 ⟨rfl,hb2⟩;have hend:=hb.trans (hb2.mono hb.size);go_wp2;go_ret;exact ⟨rfl,hend⟩
theorem zxs (vt vs vr vp ct cs : Value) (f : zw) (r : zpH) (w : World) (hf : zaf w vt vs vr vp f) (hct : zt ct) (hcs : zt cs) (hn0 : 0 <= zW r.point) (hn1 : zW r.point <= 1000000) :
  Calls Tryz.prog 95 #[.agg (zfF vt vs vr vp r ct cs)] w fun e w'=>e = .returned (.string (zdD f r.point.town r.point.street (zW r.point)).1.code) /\ Below w.heap.size w w':=by
 obtain ⟨ht,hs,hr,hp⟩:=hf.forms;obtain ⟨tA,tn,tc,rfl⟩:=ht;obtain ⟨sA,sn,sc,rfl⟩:=hs;obtain ⟨rA,rn,rc,rfl⟩:=hr;obtain ⟨pA,pn,pc,rfl⟩:=hp;obtain ⟨cA,cn,cc,rfl⟩:=hct;obtain ⟨dA,dn,dc,rfl⟩:=hcs;have hb : Below w.heap.size w (w.alloc (.cells (zfF (.slice tA tn tc) (.slice sA sn sc) (.slice rA rn rc) (.slice pA pn pc) r (.slice cA cn cc) (.slice dA dn dc)) 135)):=(Below.refl _ _).alloc (lQ _) _;have hho:=Hd (zuL _ _ _ _ f r.point _ (hf.stays (zo.of hb)) hn0 hn1);generalize zdD f r.point.town r.point.street (zW r.point) = ho at *;obtain ⟨⟨a0,a1,a2,a3,a4,a5,a6⟩,ok⟩:=ho;obtain ⟨⟨t0,t1,t2,t3,t4⟩,⟨s0,s1,s2,s3,s4,s5⟩,⟨p0,p1,p2,p3,p4,p5,p6,p7⟩⟩:=r;clear hf;simp only at hho;unfold zfF at *;unfold zaz zaV at hho;simp only at hho;go_enter Tryz.func95,Tryz.ntmps95;go_wp2_with fail;refine hho.out.mono ?_;rintro e w2 ⟨rfl,hb2⟩;have hend:=hb.trans (hb2.mono hb.size);have hend2:=hend.alloc hend.size (.cells #[.int .i64 a0,.int .i64 a1,.int .i64 a2,.int .i64 a3,.int .u8 a4,.string a5,.int .i64 a6] 72);clear hho;go_wp2;go_ret;exact ⟨rfl,hend2⟩
end
end Go.Proofs.YtggimnndflkjkaaGreatDoor
