import Derived.Test.YtggimnndflkjkaaGreatDoorR01
import Derived.Test.YtggimnndflkjkaaGreatDoorR13
set_option linter.all false
set_option maxRecDepth 100000
set_option maxHeartbeats 0
namespace Go.Proofs.YtggimnndflkjkaaGreatDoor
section
open Go.RowKit Go.Maps
def zem (town : Int) : List zdb -> List ByteArray -> Option (List zdb)
 | L,[]=>some L
 | L,a :: t=>if zci a && !zcg (town,a) L then zem town ((town,a) :: L) t else none
def zep (towns : List zJ) (S : List (Int × Int)) (L : List zdb) (s : zz) : Option (List zdb):=
 if !(zbR s.id S).isSome && ((zS towns s.town).isSome && (zcn s.id && ((decide (s.pre.size = 0) || (decide (((zS towns s.town).getD zJ.zero).country = 1) && zcg s.pre (zaQ 1 s.pre))) &&
  ((zci s.name && (decide (s.suffix.size = 0) || zcg s.suffix (zaQ 2 s.suffix))) && (decide (s.text.size <= 40) && (decide (s.others.length <= 8) && !zcg (s.town,s.text) L)))))) then zem s.town ((s.town,s.text) :: L) s.others else none
theorem zlE (s : zz) : s.text.size <= s.pre.size + s.name.size + s.suffix.size + 3:=by
 have h1:=zeu (zfn (zfn ⟨#[]⟩ s.pre) s.name) s.suffix;have h2:=zeu (zfn ⟨#[]⟩ s.pre) s.name;have h3:=zeu ⟨#[]⟩ s.pre;have h0 : (⟨#[]⟩ : ByteArray).size = 0:=rfl;unfold zz.text zad;omega
variable {w0 w : World} {N n : Nat} {L : zhr} {M4 : List ((Int × Int) × Value)} {rs : List zj}
theorem zpo (h : CS w0 N n w L M4 rs) (s : zz) (cv : Value) (hid : zam s.id) (htw : zam s.town) (hx : zan w0 cv s.others) (hsz : s.pre.size <= 1000 /\ s.name.size <= 1000 /\ s.suffix.size <= 1000 /\ ∀ x ∈ s.others,x.size <= 1000000) (hn : n < 900000) :
  Calls Tryz.prog 74 #[.pointer (some ⟨N + 8,0,none⟩),.agg (zcj s cv)] w fun e w'=>e = .returned (.bool (zep (L.towns.map (·.1)) L.streets L.labels s).isSome) /\ Below w0.heap.size w0 w' /\
   (∀ L',zep (L.towns.map (·.1)) L.streets L.labels s = some L' -> CS w0 N (n + 10) w' { L with streets:=(s.id,s.town) :: L.streets,labels:=L' } M4 rs):=by
 obtain ⟨A,nc,cc,rfl⟩:=hx.form;have hb1 : Below w.heap.size w (w.alloc (.cells (zcj s (.slice A nc cc)) 83)):=(Below.refl _ _).alloc (lQ _) _;have kT:=Hd (Blk.new w 83 (zcj s (.slice A nc cc)));have h1:=Hd (h.up hb1);have hNw:=h.blk.lt;clear h hb1
 have hd : Hid (zep (L.towns.map (·.1)) L.streets L.labels s = if !(zbR s.id L.streets).isSome && ((zS (L.towns.map (·.1)) s.town).isSome && (zcn s.id && ((decide (s.pre.size = 0) || (decide (((zS (L.towns.map (·.1)) s.town).getD zJ.zero).country = 1) && zcg s.pre (zaQ 1 s.pre))) &&
  ((zci s.name && (decide (s.suffix.size = 0) || zcg s.suffix (zaQ 2 s.suffix))) && (decide (s.text.size <= 40) && (decide (s.others.length <= 8) && !zcg (s.town,s.text) L.labels)))))) then zem s.town ((s.town,s.text) :: L.labels) s.others else none):=Hd rfl
 obtain ⟨⟨vi,vc,vn,vr,vcs⟩,vA,vm,vk,-,hvt,hlk⟩:=h1.out.town_look s.town htw
 have hct : ((zS (L.towns.map (·.1)) s.town).getD zJ.zero).country = vc:=by
  rcases hvt with h | ⟨h,h2⟩
  ·rw [h]; rfl
  ·rw [h,<- h2]; rfl
 rw [hct] at hd;have hlk0:=Hd hlk;have hls0:=Hd fun (W : World) (h : CS w0 N n W L M4 rs)=>h.m2.look_ok zdf Tryz.underlying67 (zzb W) s.id (zaJ s.id hid);have htsz:=zlE s;clear hlk hct hvt;generalize hr : zep (L.towns.map (·.1)) L.streets L.labels s = r at *;generalize hse : (zbR s.id L.streets).isSome = se at *
 obtain ⟨ov,hov⟩ : ∃ ov : Int,orV zY (.int .i64 0) (zbR s.id L.streets) = .int .i64 ov:=by
  cases zbR s.id L.streets with
  | none=>exact ⟨0,rfl⟩
  | some v=>exact ⟨v,rfl⟩
 rw [hov] at hls0;generalize (zS (L.towns.map (·.1)) s.town).isSome = sf at *;clear hov hse;have hsx:=Hd (zeq s.id s.town s.pre s.name s.suffix (.slice A nc cc) · hsz.1 hsz.2.1 hsz.2.2.1 ⟨_,_,_,rfl⟩);have htx : Hid (s.text = zad s.pre s.name s.suffix):=Hd rfl;generalize s.text = text at *;rw [<- htx.out] at hsx;clear htx;obtain ⟨sid,town,pre,name,suffix,others⟩:=s;simp only at hd hlk0 hls0 hx hsz hid htw htsz hsx;unfold zcj at *;simp only at kT h1;go_enter Tryz.func74,Tryz.ntmps74;go_wp2;generalize w.alloc _ = W at *;generalize hT : w.heap.size = T at *;have hNT : Hid (N + 8 < T):=Hd hNw;have g0:=h1.out.blk.cell 0;have t1:=kT.out.cell 1;have lB:=h1.out.blk.lt;have lT:=kT.out.lt;have hk1:=hlk0.out _ _ (h1.out.up ((Below.refl _ _).drew));have hk2:=hlk0.out _ _ (h1.out.up (((Below.refl W.heap.size W).alloc (lQ _) (.cells #[.int .i64 0,.int .u8 0,.string ⟨#[]⟩,.string ⟨#[]⟩,.slice none 0 0] 79)).drew));unfold zcB at hk1 hk2;simp at g0 t1;refine zez ?A1 (fun w'=>Below W.heap.size W w' /\ Blk w' W.heap.size 79 #[.int .i64 vi,.int .u8 vc,.string vn,.string vr,.slice vA vm vk]) ?h1 ?h2
 case h1=>
  intro Q' hQ
  go_region
  all_goals exact hQ _ ⟨((Below.refl _ _).alloc (lQ _) _).drew,Blk.new W 79 _⟩
 rintro W1 ⟨hb1,kV⟩;have h2:=Hd (h1.out.up hb1);have kT1:=Hd (kT.out.below hb1 kT.out.lt);have kV1:=Hd kV;generalize W.heap.size = V at *;clear hb1 h1 kT g0 t1 hk1 hk2 hlk0 lB lT kV;go_wp2;have g2:=h2.out.blk.cell 2;have t0:=kT1.out.cell 0;have lB:=h2.out.blk.lt;have lT:=kT1.out.lt;have hk1:=hls0.out _ (h2.out.up ((Below.refl _ _).drew));simp only [zY] at hk1;simp at g2 t0;refine zez ?A2 (fun w'=>Below W1.heap.size W1 w') ?h3 ?h4
 case h3=>
  intro Q' hQ
  go_region
  all_goals exact hQ _ (Below.refl _ _).drew
 intro W2 hb2;have h3:=Hd (h2.out.up hb2);have kT2:=Hd (kT1.out.below hb2 kT1.out.lt);have kV2:=Hd (kV1.out.below hb2 kV1.out.lt);clear hb2 h2 kT1 kV1 g2 t0 hk1 hls0 lB lT
 cases se with
 | true=>
  go_wp2;go_ret;exact ⟨zf (by rw [hd.out]; first | done | rfl | simp),h3.out.below,fun L' h=>by rw [hd.out] at h; first | (cases h; done) | simp at h⟩
 | false=>
 cases sf with
 | false=>
  go_wp2;go_ret;exact ⟨zf (by rw [hd.out]; first | done | rfl | simp),h3.out.below,fun L' h=>by rw [hd.out] at h; first | (cases h; done) | simp at h⟩
 | true=>
 have t0:=kT2.out.cell 0;have t2:=kT2.out.cell 2;have lT:=kT2.out.lt;have v1:=kV2.out.cell 1;have lV:=kV2.out.lt;simp at t0 t2 v1;have hisid:=Hd ziO;go_wp2_with fail;refine (hisid.out _ _).mono ?_;rintro e w2 ⟨rfl,rfl⟩
 cases b1 : zcn sid with
 | false=>
  rw [b1] at hd;go_wp2;go_ret;exact ⟨zf (by rw [hd.out]; first | done | rfl | simp),h3.out.below,fun L' h=>by rw [hd.out] at h; first | (cases h; done) | simp at h⟩
 | true=>
 rw [b1] at hd;clear b1 hisid;simp only [Bool.true_and,Bool.not_false] at hd;have hlong:=Hd zuT;have hnm:=Hd (ziY name · (by omega));generalize zci name = on at *;obtain ⟨ok1,hok1⟩ : ∃ ok1 : Bool,Hid (ok1 = (decide (pre.size = 0) || (decide (vc = 1) && zcg pre (zaQ 1 pre)))):=⟨_,Hd rfl⟩;obtain ⟨ok2,hok2⟩ : ∃ ok2 : Bool,Hid (ok2 = (on && (decide (suffix.size = 0) || zcg suffix (zaQ 2 suffix)))):=⟨_,Hd rfl⟩;rw [<- hok1.out,<- hok2.out] at hd;go_upto_region 5 with fail
 go_cut [4,56] (fun s4 s56 wx=>s4 = .bool false /\ s56 = .bool (!ok1) /\ Below w2.heap.size w2 wx)
 case first=>
  by_cases hr0 : pre.size = 0
  ·have e0:=zcc hr0
   have ho : Hid (ok1 = true):=Hd (by rw [hok1.out,decide_eq_true hr0]; rfl);clear hr0;go_wp2_with fail;go_meet
   case rel=>exact ⟨rfl,by rw [ho.out]; rfl,Below.refl _ _⟩
  ·have e0:=zcS hr0
   rw [decide_eq_false hr0] at hok1;clear hr0;by_cases hc1 : vc = 1
   ·rw [decide_eq_true hc1] at hok1
    have e1 : (vc != 1) = false:=by simp [hc1]
    clear hc1;go_wp2_with fail;refine (hlong.out 1 pre w2).mono ?_;rintro e w4 ⟨rfl,hb4⟩
    cases b3 : zcg pre (zaQ 1 pre) with
    | true=>
     have ho : Hid (ok1 = true):=Hd (by rw [hok1.out,b3]; rfl);clear b3;go_wp2_with fail;go_meet
     case rel=>exact ⟨rfl,by rw [ho.out]; rfl,hb4⟩
    | false=>
     have ho : Hid (ok1 = false):=Hd (by rw [hok1.out,b3]; rfl);clear b3;go_wp2_with fail;go_meet
     case rel=>exact ⟨rfl,by rw [ho.out]; rfl,hb4⟩
   ·rw [decide_eq_false hc1] at hok1
    have e1 : (vc != 1) = true:=by simpa using hc1
    have ho : Hid (ok1 = false):=Hd (by rw [hok1.out]; rfl);clear hc1;go_wp2_with fail;go_meet
    case rel=>exact ⟨rfl,by rw [ho.out]; rfl,Below.refl _ _⟩
 obtain ⟨rfl,rfl,hb4⟩:=hcut;have h4:=Hd (h3.out.up hb4);have kT4:=Hd (kT2.out.below hb4 kT2.out.lt);clear hb4 h3 kT2 kV2 t0 t2 v1 lT lV hok1
 cases ok1 with
 | false=>
  go_wp2;go_ret;exact ⟨zf (by rw [hd.out]; first | done | rfl | simp),h4.out.below,fun L' h=>by rw [hd.out] at h; first | (cases h; done) | simp at h⟩
 | true=>
 simp only [Bool.true_and,Bool.not_true] at hd ⊢;go_upto_region 7 with fail;have t3:=kT4.out.cell 3;have t4:=kT4.out.cell 4;have lT:=kT4.out.lt;simp at t3 t4
 go_cut [4,71] (fun s4 s71 wx=>s4 = .bool false /\ s71 = .bool (!ok2) /\ Below wc.heap.size wc wx)
 case first=>
  go_wp2_with fail;refine (hnm.out _).mono ?_;rintro e w5 ⟨rfl,hb5⟩
  cases on with
  | false=>
   have ho : Hid (ok2 = false):=Hd (by rw [hok2.out]; rfl);clear t3 t4;go_wp2_with fail;go_meet
   case rel=>exact ⟨rfl,by rw [ho.out]; rfl,hb5⟩
  | true=>
  have t4':=(kT4.out.below hb5 kT4.out.lt).cell 4;have lT5:=(kT4.out.below hb5 kT4.out.lt).lt;simp at t4';clear t3 t4;by_cases hr0 : suffix.size = 0
  ·have e0:=zcc hr0
   have ho : Hid (ok2 = true):=Hd (by rw [hok2.out,decide_eq_true hr0]; rfl);clear hr0;go_wp2_with fail;go_meet
   case rel=>exact ⟨rfl,by rw [ho.out]; rfl,hb5⟩
  ·have e0:=zcS hr0
   rw [decide_eq_false hr0] at hok2;clear hr0;go_wp2_with fail;refine (hlong.out 2 suffix w5).mono ?_;rintro e w6 ⟨rfl,hb6⟩;have hb7:=hb5.trans (hb6.mono hb5.size)
   cases b3 : zcg suffix (zaQ 2 suffix) with
   | true=>
    have ho : Hid (ok2 = true):=Hd (by rw [hok2.out,b3]; rfl);clear b3;go_wp2_with fail;go_meet
    case rel=>exact ⟨rfl,by rw [ho.out]; rfl,hb7⟩
   | false=>
    have ho : Hid (ok2 = false):=Hd (by rw [hok2.out,b3]; rfl);clear b3;go_wp2_with fail;go_meet
    case rel=>exact ⟨rfl,by rw [ho.out]; rfl,hb7⟩
 obtain ⟨rfl,rfl,hb5⟩:=hcut;have h5:=Hd (h4.out.up hb5);have kT5:=Hd (kT4.out.below hb5 kT4.out.lt);clear hb5 h4 kT4 t3 t4 lT hok2 hnm hlong
 cases ok2 with
 | false=>
  go_wp2;go_ret;exact ⟨zf (by rw [hd.out]; first | done | rfl | simp),h5.out.below,fun L' h=>by rw [hd.out] at h; first | (cases h; done) | simp at h⟩
 | true=>
 simp only [Bool.true_and,Bool.not_true] at hd ⊢;have t0:=kT5.out.cell 0;have t1:=kT5.out.cell 1;have t2:=kT5.out.cell 2;have t3:=kT5.out.cell 3;have t4:=kT5.out.cell 4;have t5:=kT5.out.cell 5;have lT:=kT5.out.lt;simp at t0 t1 t2 t3 t4 t5;go_wp2_with fail;refine (hsx.out _).mono ?_;rintro e w6 ⟨rfl,hb6⟩;have h6:=Hd (h5.out.up hb6);have kT6:=Hd (kT5.out.below hb6 kT5.out.lt);clear hb6 h5 kT5 t0 t1 t2 t3 t4 t5 lT hsx;have t1:=kT6.out.cell 1;have t5:=kT6.out.cell 5;have lT:=kT6.out.lt;simp at t1 t5;obtain ⟨hxA,hxc,hxe,hxn,hxm,hxi⟩:=hx;obtain ⟨rfl,rfl,rfl⟩:=Value.slice.inj hxe;have hxi':=Hd hxi;have hx8:=hxm;unfold maxLen at hx8;clear hxi hxe;generalize hlen : others.length = m at *;by_cases h40 : text.size <= 40
 rotate_left
 ·have d4 : decide ((40 : Int) < (text.size : Int)) = true:=decide_eq_true (by omega)
  rw [decide_eq_false h40] at hd;clear h40;go_wp2;go_ret;exact ⟨zf (by rw [hd.out]; first | done | rfl | simp),h6.out.below,fun L' h=>by rw [hd.out] at h; first | (cases h; done) | simp at h⟩
 have d4 : decide ((40 : Int) < (text.size : Int)) = false:=decide_eq_false (by omega);rw [decide_eq_true h40] at hd;by_cases h8 : m <= 8
 rotate_left
 ·have d8 : decide ((8 : Int) < (m : Int)) = true:=decide_eq_true (by omega)
  rw [decide_eq_false h8] at hd;clear h8;go_wp2;go_ret;exact ⟨zf (by rw [hd.out]; first | done | rfl | simp),h6.out.below,fun L' h=>by rw [hd.out] at h; first | (cases h; done) | simp at h⟩
 have d8 : decide ((8 : Int) < (m : Int)) = false:=decide_eq_false (by omega);rw [decide_eq_true h8] at hd;have hfr:=Hd (zrL h6.out town text htw (by omega) (by omega));go_wp2_with fail;refine hfr.out.mono ?_;rintro e w7 ⟨rfl,hbw7,hkp,hcs7⟩;have kT7 : Hid (Blk w7 T 83 #[.int .i64 sid,.int .i64 town,.string pre,.string name,.string suffix,.slice A m cc]):=Hd ((hkp.block T kT6.out.lt (by have:=hNT.out; omega)).trans kT6.out);clear hfr hkp t1 t5 lT kT6
 cases hmb : zcg (town,text) L.labels with
 | true=>
  rw [hmb] at hd;clear hcs7;go_wp2;go_ret;exact ⟨zf (by rw [hd.out]; first | done | rfl | simp),hbw7,fun L' h=>by rw [hd.out] at h; first | (cases h; done) | simp at h⟩
 | false=>
 rw [hmb] at hd;have h7:=Hd (hcs7 hmb);clear hcs7 hmb h6 hbw7 d4 d8;have hd2 : Hid (r = zem town ((town,text) :: L.labels) others):=Hd (by rw [hd.out]; rfl);clear hd;have t5:=kT7.out.cell 5;have lT:=kT7.out.lt;simp at t5;have hlen':=Hd hlen;have h8':=Hd h8;clear hlen h8;go_wp2
 go_loopw [94] (fun iv wr=>∃ (k : Nat) (Lb : List zdb),k <= m /\ iv = .int .i64 k /\ Hid (CS w0 N (n + 1 + k) wr { L with labels:=Lb } M4 rs) /\ Hid (Blk wr T 83 #[.int .i64 sid,.int .i64 town,.string pre,.string name,.string suffix,.slice A m cc]) /\ Hid (r = zem town Lb (others.drop k))) (fun iv _=>m - (intOf iv).toNat)
 case atStart=>exact ⟨0,_,by omega,rfl,h7,kT7,Hd (by rw [hd2.out]; rfl)⟩
 case round=>
  obtain ⟨k,Lb,hk,rfl,hcs,kTr,hrr⟩:=hrel;rename World=>wr;have n0 : (0 : Int) <= (k : Int):=by omega
  clear h7 kT7 t5 lT hd2;by_cases hlt : k < m
  ·have n1 : (k : Int) < (m : Int):=by omega
   obtain ⟨b,off,rfl,hb,hi⟩:=hxi'.out (by omega);have g:=(hcs.out.below.cell (p:=⟨b,off + k,none⟩) hb).trans (hi k hlt).1;have hxs:=hsz.2.2.2 (others.getD k ByteArray.empty) (by rw [zD _ _ _ (by rw [hlen'.out]; exact hlt)]; exact List.getElem_mem _);have hdr:=Hd (zaI others ByteArray.empty k (by rw [hlen'.out]; exact hlt));clear hi;generalize others.getD k ByteArray.empty = x at g hxs hdr;have hstep : Hid (r = if zci x && !zcg (town,x) Lb then zem town ((town,x) :: Lb) (others.drop (k + 1)) else none):=Hd (by rw [hrr.out,hdr.out]; rfl);have hrn:=Hd (ziY x wr hxs);clear hrr hdr;go_wp2_with fail;refine hrn.out.mono ?_;rintro e w8 ⟨rfl,hb8⟩;have h8c:=Hd (hcs.out.up hb8);have kT8:=Hd (kTr.out.below hb8 kTr.out.lt);clear hrn g hcs kTr hb8;have t1:=kT8.out.cell 1;have lT:=kT8.out.lt;simp at t1
   cases b1 : zci x with
   | false=>
    have hno : Hid (r = none):=Hd (by rw [hstep.out,b1]; rfl);clear b1;go_wp2;go_ret;exact ⟨zf (by rw [hno.out]; rfl),h8c.out.below,fun L' h=>by rw [hno.out] at h; cases h⟩
   | true=>
   have hfr:=Hd (zrL h8c.out town x htw hxs (by have:=h8'.out; omega));go_wp2_with fail;refine hfr.out.mono ?_;rintro e w9 ⟨rfl,hbw9,hkp,hcs9⟩;have kT9 : Hid (Blk w9 T 83 #[.int .i64 sid,.int .i64 town,.string pre,.string name,.string suffix,.slice (some ⟨b,off,none⟩) m cc]):=Hd ((hkp.block T kT8.out.lt (by have:=hNT.out; omega)).trans kT8.out);clear hfr hkp t1 lT kT8 h8c
   cases b2 : zcg (town,x) Lb with
   | true=>
    have hno : Hid (r = none):=Hd (by rw [hstep.out,b1,b2]; rfl);clear b1 b2 hcs9;go_wp2;go_ret;exact ⟨zf (by rw [hno.out]; rfl),hbw9,fun L' h=>by rw [hno.out] at h; cases h⟩
   | false=>
    have hst : Hid (r = zem town ((town,x) :: Lb) (others.drop (k + 1))):=Hd (by rw [hstep.out,b1,b2]; rfl);have hcsn:=Hd (hcs9 b2);clear b1 b2 hcs9 hstep hbw9;go_wp2;go_roundw
    case rel=>exact ⟨k + 1,_,by omega,by go_num,hcsn,kT9,hst⟩
    case measure=>simp [intOf]; omega
  ·obtain rfl : k = m:=by omega
   have hsome : Hid (r = some Lb):=Hd (by rw [hrr.out,List.drop_of_length_le (by rw [hlen'.out]; omega)]; rfl);clear hrr;go_wp2;have g2:=fun (u : Ups wr)=>(hcs.out.up u.up).blk.cell 2;have r0:=fun (u : Ups wr)=>(Blk.ups kTr.out u).cell 0;have r1:=fun (u : Ups wr)=>(Blk.ups kTr.out u).cell 1;simp at g2 r0 r1;refine zL 8 (by kernel_rfl) (by kernel_rfl) ?_;simp only [tS,tZ,dS,dZ]
   repeat (go_big_quiet_step (fail))
   refine wpQuiet_nil ?_;rintro _ ⟨u3,rfl⟩;have ha:=hcs.out.up u3.up;obtain ⟨W11,hput,hmv,hgr⟩:=ha.m2.put zdf Tryz.underlying67 (by have:=h8'.out; unfold maxLen; omega) zbm sid town (zaJ sid hid);simp only [zY] at hput;have hfin:=Hd ((ha.put2 hmv hgr).mono (n':=n + 10) (by have:=h8'.out; omega));clear g2 r0 r1 ha hmv hgr hcs kTr;generalize u3.wld = W12 at *;go_wp2;go_ret
   exact ⟨zf (by rw [hsome.out]; rfl),hfin.out.below,fun L' h=>by
    rw [hsome.out] at h;cases h
    exact hfin.out⟩
end
section
open Go.RowKit Go.Maps
def zdT (key : Int × Int) (rs : List zj) : List zj:=rs.filter fun g=>decide ((g.town,g.street) = key)
variable {w0 w : World} {N n : Nat} {L : zhr} {M4 : List ((Int × Int) × Value)} {rs : List zj}
theorem zml.far {B : Nat} {k1 k2 : Int × Int} (h : zml B w M4 rs) (hne : k1 ≠ k2) {g : Nat} (h1 : (orV id (Value.slice none 0 0) (zbR k1 M4)).ownBlock = some g) : (orV id (Value.slice none 0 0) (zbR k2 M4)).ownBlock ≠ some g:=by
 intro h2
 cases e1 : zbR k1 M4 with
 | none=>rw [e1] at h1; cases h1
 | some v1=>
  cases e2 : zbR k2 M4 with
  | none=>rw [e2] at h2; cases h2
  | some v2=>
   rw [e1] at h1;rw [e2] at h2;exact h.apart k1 k2 v1 v2 g hne e1 e2 h1 h2
theorem CS.put4 (h : CS w0 N n w L M4 rs) {wb wE wX wA w3 : World} {key : Int × Int} {a : zj} {v : Value} {g cap : Nat} (hb : Below w.heap.size w wb) (hE : wb.grownBy wE (some (N + 4))) (hX : Below wE.heap.size wE wX)
  (hv : orV id (Value.slice none 0 0) (zbR key M4) = v) (hk : (a.town,a.street) = key)
  (hown : wA.ownsRow (N + 9) 72 7 (.slice (some ⟨g,0,none⟩) ((zdT key rs).length + 1) cap) ((zdT key rs).length + 1) ((zdT key rs).flatMap zoY ++ zoY a)) (hgr : wX.grownBy wA v.ownBlock) (hat : v.ownBlock = some g \/ wX.heap.size <= g)
  (hm : zbc Tryz.prog 202 zbU (@id Value) w3 (N + 4) (n + 1) ((key,.slice (some ⟨g,0,none⟩) ((zdT key rs).length + 1) cap) :: M4)) (hg3 : wA.grownBy w3 (some (N + 4))) :
  CS w0 N (n + 1) w3 L ((key,.slice (some ⟨g,0,none⟩) ((zdT key rs).length + 1) cap) :: M4) (rs ++ [a]):=by
 have hrow : zbx (N + 9) w v (zdT key rs):=by rw [<- hv]; exact h.rows.row key
 have hvB : ∀ j,v.ownBlock = some j -> N + 9 <= j /\ j < w.heap.size:=fun j hj=>hrow.block_lt hj;have s1:=hb.size;have s2:=hE.size;have s3:=hX.size;have s4:=hgr.size
 have K : zc (fun b=>b ≠ N + 4 /\ some b ≠ v.ownBlock) w w3:=
  ((((zc.of_below hb _).trans (zc.of_grown hE fun b hp e=>hp.1 (by injection e))).trans (zc.of_below hX _)).trans (zc.of_grown hgr fun b hp=>hp.2)).trans (zc.of_grown hg3 fun b hp e=>hp.1 (by injection e))
 have low : ∀ b,b <= N + 8 -> b ≠ N + 4 -> w3.heap[b]? = w.heap[b]?:=fun b hb1 hb2=>
  K.block b (by have:=h.blk.lt; omega) ⟨hb2,fun e=>by have:=(hvB b e.symm).1; omega⟩
 have hbase:=h.base
 exact {
  base:=h.base
  below:=((((h.below.trans (hb.mono h.below.size)).grown hE (Nat.le_trans h.below.size s1) (fun j e=>by injection e with e; omega)).trans (hX.mono (by have:=h.below.size; omega))).grown hgr (by have:=h.below.size; omega) (fun j e=>by have:=(hvB j e).1; omega)).grown hg3 (by have:=h.below.size; omega) (fun j e=>by injection e with e; omega)
  blk:=(low _ (by omega) (by omega)).trans h.blk
  m0:=(h.m0.same (low _ (by omega) (by omega))).mono (by omega)
  m1:=(h.m1.same (low _ (by omega) (by omega))).mono (by omega)
  m2:=(h.m2.same (low _ (by omega) (by omega))).mono (by omega)
  m3:=(h.m3.same (low _ (by omega) (by omega))).mono (by omega)
  m4:=hm
  m5:=(h.m5.same (low _ (by omega) (by omega))).mono (by omega)
  m6:=(h.m6.same (low _ (by omega) (by omega))).mono (by omega)
  m7:=(h.m7.same (low _ (by omega) (by omega))).mono (by omega)
  tx:=h.tx
  rows:={
   row:=fun k=>by
    by_cases hke : key = k
    ·subst hke
     rw [zbR,if_pos rfl]
     have e : ((rs ++ [a]).filter fun g=>decide ((g.town,g.street) = key)) = zdT key rs ++ [a]:=by
      rw [List.filter_append]; simp [zdT,hk]
     rw [e];have hA : zbx (N + 9) wA (.slice (some ⟨g,0,none⟩) ((zdT key rs).length + 1) cap) (zdT key rs ++ [a]):=⟨by simpa using hown,fun _ _=>trivial⟩;exact hA.keep ze (zc.of_grown hg3 fun b hb e=>by injection e with e; omega)
    ·rw [zbR,if_neg hke]
     have e : ((rs ++ [a]).filter fun g=>decide ((g.town,g.street) = k)) = rs.filter fun g=>decide ((g.town,g.street) = k):=by
      rw [List.filter_append]; simp [hk,hke]
     rw [e];refine (h.rows.row k).far (fun _ _ _ _ _ _=>trivial) fun j hj=>K.block j ((h.rows.row k).block_lt hj).2 ⟨by have:=((h.rows.row k).block_lt hj).1; omega,fun e=>?_⟩;exact h.rows.far (Ne.symm hke) hj (by rw [hv]; exact e.symm)
   apart:=fun k1 k2 v1 v2 j hne h1 h2 hj hj2=>by
    have new : ∀ k u,key ≠ k -> zbR k M4 = some u -> u.ownBlock ≠ some g:=fun k u hke hu e=>by
     have hu' : (orV id (Value.slice none 0 0) (zbR k M4)).ownBlock = some g:=by rw [hu]; exact e
     rcases hat with ha | ha
     ·exact h.rows.far (Ne.symm hke) hu' (by rw [hv]; exact ha)
     ·have:=((h.rows.row k).block_lt hu').2; omega
    rw [zbR] at h1 h2;by_cases e1 : key = k1
    ·rw [if_pos e1] at h1
     injection h1 with h1;subst h1;injection hj with hj;subst hj;rw [if_neg (fun e2=>hne (e1.symm.trans e2))] at h2;exact new k2 v2 (fun e2=>hne (e1.symm.trans e2)) h2 hj2
    ·rw [if_neg e1] at h1
     by_cases e2 : key = k2
     ·rw [if_pos e2] at h2
      injection h2 with h2;subst h2;injection hj2 with hj2;subst hj2;exact new k1 v1 e1 h1 hj
     ·rw [if_neg e2] at h2
      exact h.rows.apart k1 k2 v1 v2 j hne h1 h2 hj hj2 } }
end
end Go.Proofs.YtggimnndflkjkaaGreatDoor
