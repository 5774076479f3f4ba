import Derived.Test.YtggimnndflkjkaaGreatDoorR01
import Derived.Test.YtggimnndflkjkaaGreatDoorR14
import Derived.Deep.RegionHeld3
import Derived.Deep.RegionHeldLaw
import Derived.Deep.AppendLies
import Derived.Great.BuildSlice
set_option linter.all false
set_option maxRecDepth 100000
set_option maxHeartbeats 0
namespace Go.Proofs.YtggimnndflkjkaaGreatDoor
section
open Go.RowKit Go.Maps
def zdE (towns : List zJ) (S : List (Int × Int)) (rs : List zj) (g : zj) : Bool:=
 (zS towns g.town).isSome && (zcE S g.street g.town && (decide (1 <= g.low) && (decide (g.high <= 999999) && (zhJ g.low g.high g.parity && (!(zdT (g.town,g.street) rs).any (zle g) &&
  (zcg g.code ((zS towns g.town).getD zJ.zero).codes && zcn g.route))))))
theorem zbx.ranges {B : Nat} {w : World} {v : Value} {ps : List zj} (h : zbx B w v ps) : zeh w v ps:=
 (h.sl fun _=>rfl).plain fun b off i _ _ hi ⟨ho,_,hc⟩=>by
  subst ho;have hc':=hc hi;rw [zD _ _ _ hi];exact ⟨hc' 0 (by omega),hc' 1 (by omega),hc' 2 (by omega),hc' 3 (by omega),hc' 4 (by omega),hc' 5 (by omega),hc' 6 (by omega)⟩
theorem zwC {α : Type} (p : α -> Bool) (l : List α) (d : α) (k : Nat) (h : k < l.length) : (l.drop k).any p = (p (l.getD k d) || (l.drop (k + 1)).any p):=by
 rw [zaI l d k h,List.any_cons]
theorem zAh {a b c d e f g : Value} (ha : a.oneCell' = true) (hb : b.oneCell' = true) (hc : c.oneCell' = true) (hd : d.oneCell' = true) (he : e.oneCell' = true) (hf : f.oneCell' = true) (hg : g.oneCell' = true) : ∀ u ∈ [a,b,c,d,e,f,g],u.oneCell' = true:=by
 intro u hu; simp at hu; rcases hu with rfl | rfl | rfl | rfl | rfl | rfl | rfl <;> assumption
variable {w0 w : World} {N n : Nat} {L : zhr} {M4 : List ((Int × Int) × Value)} {rs : List zj}
theorem ztE (h : CS w0 N n w L M4 rs) (g : zj) (htw : zam g.town) (hst : zam g.street) (hn : n < 900000) (hrs : ∀ x ∈ rs,0 <= x.low /\ x.high <= 1000000) (hl : rs.length <= 100000) :
  Calls Tryz.prog 75 #[.pointer (some ⟨N + 8,0,none⟩),.agg (zaV g)] w fun e w'=>e = .returned (.bool (zdE (L.towns.map (·.1)) L.streets rs g)) /\ Below w0.heap.size w0 w' /\
   (zdE (L.towns.map (·.1)) L.streets rs g = true -> ∃ M4',CS w0 N (n + 1) w' L M4' (rs ++ [g])):=by
 have hb1 : Below w.heap.size w (w.alloc (.cells (zaV g) 72)):=(Below.refl _ _).alloc (lQ _) _;have kT:=Hd (Blk.new w 72 (zaV g));have h1:=Hd (h.up hb1);have hNw:=h.blk.lt;have hrl:=Hd (fun (j : Nat) (hj : (orV id (Value.slice none 0 0) (zbR (g.town,g.street) M4)).ownBlock = some j)=>((h.rows.row (g.town,g.street)).block_lt hj).2);clear h hb1
 have hd : Hid (zdE (L.towns.map (·.1)) L.streets rs g = ((zS (L.towns.map (·.1)) g.town).isSome && (zcE L.streets g.street g.town && (decide (1 <= g.low) && (decide (g.high <= 999999) && (zhJ g.low g.high g.parity && (!(zdT (g.town,g.street) rs).any (zle g) &&
  (zcg g.code ((zS (L.towns.map (·.1)) g.town).getD zJ.zero).codes && zcn g.route)))))))):=Hd rfl
 obtain ⟨⟨vi,vc,vn,vr,vcs⟩,vA,vm,vk,hvx,hvt,hlk⟩:=h1.out.town_look g.town htw
 have hct : ((zS (L.towns.map (·.1)) g.town).getD zJ.zero).codes = vcs:=by
  rcases hvt with h | ⟨h,h2⟩
  ·rw [h]; rfl
  ·rw [h,<- h2]; rfl
 rw [hct] at hd;have hlk0:=Hd hlk;have hvx0:=Hd hvx;clear hlk hct hvt hvx;generalize hr : zdE (L.towns.map (·.1)) L.streets rs g = r at *;generalize (zS (L.towns.map (·.1)) g.town).isSome = sf at *;have hmeet:=Hd fun (x : zj) (W : World) (ha : 0 <= g.low /\ g.high <= 1000000) (hx : 0 <= x.low /\ x.high <= 1000000)=>zyG g x W ha hx;have hap : Hid (zdT (g.town,g.street) (rs ++ [g]) = zdT (g.town,g.street) rs ++ [g]):=Hd (by unfold zdT; rw [List.filter_append]; simp);obtain ⟨town,street,low,high,parity,code,route⟩:=g;simp only at hd hlk0 htw hst hap hmeet hrl;unfold zaV at *;simp only at kT h1;go_enter Tryz.func75,Tryz.ntmps75;go_wp2;generalize w.alloc _ = W at *;generalize hT : w.heap.size = T at *;have hNT : Hid (N + 8 < T):=Hd hNw;have g0:=h1.out.blk.cell 0;have t0:=kT.out.cell 0;have lB:=h1.out.blk.lt;have lT:=kT.out.lt;have hk1:=hlk0.out _ _ (h1.out.up ((Below.refl _ _).drew));have hk2:=hlk0.out _ _ (h1.out.up (((Below.refl W.heap.size W).alloc (lQ _) (.cells #[.int .i64 0,.int .u8 0,.string ⟨#[]⟩,.string ⟨#[]⟩,.slice none 0 0] 79)).drew));unfold zcB at hk1 hk2;simp at g0 t0;refine zez ?A1 (fun w'=>Below W.heap.size W w' /\ Blk w' W.heap.size 79 #[.int .i64 vi,.int .u8 vc,.string vn,.string vr,.slice vA vm vk]) ?h1 ?h2
 case h1=>
  intro Q' hQ
  go_region
  all_goals exact hQ _ ⟨((Below.refl _ _).alloc (lQ _) _).drew,Blk.new W 79 _⟩
 rintro W1 ⟨hb1,kV⟩;have h2:=Hd (h1.out.up hb1);have kT1:=Hd (kT.out.below hb1 kT.out.lt);have kV1:=Hd kV;generalize W.heap.size = V at *;clear hb1 h1 kT g0 t0 hk1 hk2 hlk0 lB lT kV
 cases sf with
 | false=>
  go_wp2;go_ret;exact ⟨zf (by rw [hd.out]; first | done | rfl | simp),h2.out.below,fun h=>by rw [hd.out] at h; first | (cases h; done) | simp at h⟩
 | true=>
 simp only [Bool.true_and] at hd;have hin:=Hd (zow h2.out street town hst);have t0:=kT1.out.cell 0;have t1:=kT1.out.cell 1;have t2:=kT1.out.cell 2;have t3:=kT1.out.cell 3;have t4:=kT1.out.cell 4;have lT:=kT1.out.lt;simp at t0 t1 t2 t3 t4;go_wp2_with fail;refine hin.out.mono ?_;rintro e w2 ⟨rfl,rfl⟩
 cases b1 : zcE L.streets street town with
 | false=>
  rw [b1] at hd;go_wp2;go_ret;exact ⟨zf (by rw [hd.out]; first | done | rfl | simp),h2.out.below,fun h=>by rw [hd.out] at h; first | (cases h; done) | simp at h⟩
 | true=>
 rw [b1] at hd;clear b1 hin;simp only [Bool.true_and] at hd;by_cases c1 : 1 <= low
 rotate_left
 ·have d1 : decide (low < 1) = true:=decide_eq_true (by omega)
  rw [decide_eq_false c1] at hd;clear c1;go_wp2;go_ret;exact ⟨zf (by rw [hd.out]; first | done | rfl | simp),h2.out.below,fun h=>by rw [hd.out] at h; first | (cases h; done) | simp at h⟩
 have d1 : decide (low < 1) = false:=decide_eq_false (by omega);rw [decide_eq_true c1] at hd;by_cases c2 : high <= 999999
 rotate_left
 ·have d2 : decide (999999 < high) = true:=decide_eq_true (by omega)
  rw [decide_eq_false c2] at hd;clear c1 c2;go_wp2;go_ret;exact ⟨zf (by rw [hd.out]; first | done | rfl | simp),h2.out.below,fun h=>by rw [hd.out] at h; first | (cases h; done) | simp at h⟩
 have d2 : decide (999999 < high) = false:=decide_eq_false (by omega);rw [decide_eq_true c2] at hd;simp only [Bool.true_and] at hd;have hsm:=Hd (zvP low high parity w2 (by omega) (by omega));have hlow:=Hd (show 0 <= low /\ high <= 1000000 from by omega);clear c1 c2;go_wp2_with fail;refine hsm.out.mono ?_;rintro e w3 ⟨rfl,rfl⟩
 cases b2 : zhJ low high parity with
 | false=>
  rw [b2] at hd;go_wp2;go_ret;exact ⟨zf (by rw [hd.out]; first | done | rfl | simp),h2.out.below,fun h=>by rw [hd.out] at h; first | (cases h; done) | simp at h⟩
 | true=>
 rw [b2] at hd;clear b2 hsm d1 d2;simp only [Bool.true_and] at hd;have hb3 : Below w3.heap.size w3 (w3.alloc (.cells #[.int .i64 town,.int .i64 street] 202)):=(Below.refl _ _).alloc (lQ _) _;have kK:=Hd (Blk.new w3 202 #[.int .i64 town,.int .i64 street]);have h4:=Hd (h2.out.up hb3);have kT4:=Hd (kT1.out.below hb3 kT1.out.lt);have kV4:=Hd (kV1.out.below hb3 kV1.out.lt);clear hb3 h2;go_upto_region 7 with fail;generalize w3.alloc (.cells #[.int .i64 town,.int .i64 street] 202) = W4 at *;have hTG : Hid (T < w3.heap.size):=Hd kT1.out.lt;generalize w3.heap.size = G at *;clear t0 t1 t2 t3 t4 lT kT1 kV1;obtain ⟨kl,hkl⟩:=znq (town,street) htw hst;have g4:=fun (u : Ups W4)=>(h4.out.up u.up).blk.cell 4;have r0:=fun (u : Ups W4)=>(kK.out.ups u).cell 0;have r1:=fun (u : Ups W4)=>(kK.out.ups u).cell 1;have hlk:=fun (u : Ups W4)=>(h4.out.up u.up).m4.look zkd Tryz.underlying189 (znS _) (town,street) hkl;have hrow : zbx (N + 9) W4 (orV id (.slice none 0 0) (zbR (town,street) M4)) (zdT (town,street) rs):=h4.out.rows.row (town,street);obtain ⟨vv,hvv⟩ : ∃ vv,orV id (.slice none 0 0) (zbR (town,street) M4) = vv:=⟨_,rfl⟩;rw [hvv] at hrow;simp only [zbU] at hlk;rw [show orV (@id Value) (.slice none 0 0) (zbR (town,street) M4) = vv from hvv] at hlk;have hvv':=Hd hvv;clear hvv;obtain ⟨vB,vN,rfl⟩:=hrow.form_;simp at g4 r0 r1;refine zC (by kernel_rfl) (by kernel_rfl) ?_
 repeat (go_big_quiet_step (fail))
 refine wpQuiet_nil ?_;rintro _ ⟨u,rfl⟩;have h5:=Hd (h4.out.up u.up);have kT5:=Hd (kT4.out.ups u);have kV5:=Hd (kV4.out.ups u);have kK5:=Hd (kK.out.ups u);have hrg:=Hd ((zbx.ranges hrow).stays u.stays);clear g4 r0 r1 hlk hrow h4 kT4 kV4 kK;generalize u.wld = W5 at *;generalize hmq : zle ⟨town,street,low,high,parity,code,route⟩ = mt at hmeet hd;clear hmq;have hflm:=Hd (show ∀ x ∈ zdT (town,street) rs,0 <= x.low /\ x.high <= 1000000 from fun x hx=>hrs x (List.mem_filter.1 hx).1);have hfln:=Hd (show (zdT (town,street) rs).length <= 100000 from Nat.le_trans (List.length_filter_le _ _) hl);generalize hfq : zdT (town,street) rs = fl at *;have hfq':=Hd hfq;clear hfq;obtain ⟨A',c',hve,hvn,hvm,hvi⟩:=hrg.out;obtain ⟨rfl,-,rfl⟩:=Value.slice.inj hve;have hvi':=Hd hvi;have hvm':=hvm;unfold maxLen at hvm';clear hve hvi hrg;go_wp2
 go_loopw [61] (fun iv wr=>∃ k : Nat,k <= fl.length /\ iv = .int .i64 k /\ Below W5.heap.size W5 wr /\ Hid (fl.any mt = (fl.drop k).any mt)) (fun iv _=>fl.length - (intOf iv).toNat)
 case atStart=>exact ⟨0,by omega,rfl,Below.refl _ _,Hd rfl⟩
 case round=>
  obtain ⟨k,hk,rfl,hbw,hany⟩:=hrel;rename World=>wr;have n0 : (0 : Int) <= (k : Int):=by omega
  have h6:=Hd (h5.out.up hbw);have kT6:=Hd (kT5.out.below hbw kT5.out.lt);by_cases hlt : k < fl.length
  ·have n1 : (k : Int) < (fl.length : Int):=by omega
   obtain ⟨b,off,rfl,hb,hi⟩:=hvi'.out (by omega);have hx:=(hi k hlt).stays (zo.of hbw) hb;have hxm:=hflm.out (fl.getD k zj.zero) (by rw [zD _ _ _ hlt]; exact List.getElem_mem hlt);have had:=Hd (zwC mt fl zj.zero k hlt);clear hi;generalize fl.getD k zj.zero = x at *;have hmx:=Hd (hmeet.out x · hlow.out hxm);obtain ⟨xt,xs,xl,xh,xp,xc,xr⟩:=x;have c0:=hx.c0;have c1:=hx.c1;have c2:=hx.c2;have c3:=hx.c3;have c4:=hx.c4;have c5:=hx.c5;have c6:=hx.c6;have y0:=kT6.out.cell 0;have y1:=kT6.out.cell 1;have y2:=kT6.out.cell 2;have y3:=kT6.out.cell 3;have y4:=kT6.out.cell 4;have y5:=kT6.out.cell 5;have y6:=kT6.out.cell 6;have lT:=kT6.out.lt;simp only at c0 c1 c2 c3 c4 c5 c6 hmx;simp at y0 y1 y2 y3 y4 y5 y6;have hbx : Below wr.heap.size wr (wr.alloc (.cells #[.int .i64 xt,.int .i64 xs,.int .i64 xl,.int .i64 xh,.int .u8 xp,.string xc,.int .i64 xr] 72)):=(Below.refl _ _).alloc (lQ _) _;have hbx':=Hd hbx;clear hx hbx;go_wp2_with fail;refine (hmx.out _).mono ?_;rintro e w7 ⟨rfl,hb7⟩;have hb67:=hbx'.out.trans (hb7.mono hbx'.out.size);have h7:=Hd (h6.out.up hb67);have hend:=Hd (hbw.trans (hb67.mono hbw.size));clear hmx hbx' hb7 hb67 c0 c1 c2 c3 c4 c5 c6 y0 y1 y2 y3 y4 y5 y6 lT
   cases b3 : mt ⟨xt,xs,xl,xh,xp,xc,xr⟩ with
   | true=>
    have hno : Hid (r = false):=Hd (by rw [hd.out,hany.out,had.out,b3]; rfl);clear b3;go_wp2;go_ret;exact ⟨zf (by rw [hno.out]),h7.out.below,fun h=>by rw [hno.out] at h; cases h⟩
   | false=>
    have hst : Hid (fl.any mt = (fl.drop (k + 1)).any mt):=Hd (by rw [hany.out,had.out,b3]; rfl);clear b3 had hany;go_wp2;go_roundw
    case rel=>exact ⟨k + 1,by omega,by go_num,hend.out,hst⟩
    case measure=>simp [intOf]; omega
  ·obtain rfl : k = fl.length:=by omega
   have hno : Hid (fl.any mt = false):=Hd (by rw [hany.out,List.drop_length]; rfl);rw [hno.out] at hd;clear hany;simp only [Bool.not_false,Bool.true_and] at hd;have kV6:=Hd (kV5.out.below hbw kV5.out.lt);have kK6:=Hd (kK5.out.below hbw kK5.out.lt);have y5:=kT6.out.cell 5;have lT:=kT6.out.lt;have v4:=kV6.out.cell 4;have lV:=kV6.out.lt;have hct:=Hd (zbE _ vcs code wr (hvx0.out.stays (zo.of h6.out.below)));simp at y5 v4;go_wp2_with fail;refine hct.out.mono ?_;rintro e w8 ⟨rfl,rfl⟩;clear hct y5 v4
   cases b4 : zcg code vcs with
   | false=>
    rw [b4] at hd;clear b4;go_wp2;go_ret;exact ⟨zf (by rw [hd.out]; first | done | rfl | simp),h6.out.below,fun h=>by rw [hd.out] at h; first | (cases h; done) | simp at h⟩
   | true=>
   rw [b4] at hd;clear b4;have y6:=kT6.out.cell 6;simp at y6;have hisid:=Hd ziO;go_wp2_with fail;refine (hisid.out _ _).mono ?_;rintro e w9 ⟨rfl,rfl⟩
   cases b5 : zcn route with
   | false=>
    rw [b5] at hd;clear b5;go_wp2;go_ret;exact ⟨zf (by rw [hd.out]; first | done | rfl | simp),h6.out.below,fun h=>by rw [hd.out] at h; first | (cases h; done) | simp at h⟩
   | true=>
   rw [b5] at hd;clear b5 hisid y6 lT lV;have hyes : Hid (r = true):=Hd (by rw [hd.out]; rfl);clear hd;go_upto_region 15 with fail;have h6d:=Hd (h6.out.up (Below.refl _ _).drew);have hxb : Below w9.heap.size w9 (w9.alloc (.cells #[.int .i64 town,.int .i64 street,.int .i64 low,.int .i64 high,.int .u8 parity,.string code,.int .i64 route] 72)).drew:=((Below.refl _ _).alloc (lQ _) _).drew;have h6x:=Hd (h6.out.up hxb);obtain ⟨stA,WA,hEA,hgA,hsA⟩:=h6x.out.m4.entry zva Tryz.underlying189 znS (by unfold maxLen; omega) zhz (town,street) hkl;obtain ⟨stB,WB,hEB,hgB,hsB⟩:=h6d.out.m4.entry zva Tryz.underlying189 znS (by unfold maxLen; omega) zhz (town,street) hkl;rw [show orV (@id Value) (.slice none 0 0) (zbR (town,street) M4) = _ from hvv'.out] at hEA hEB;simp only [zbU] at hEA hEB;have b4:=h6.out.blk.cell 4;have k0:=kK6.out.cell 0;have k1:=kK6.out.cell 1;have t0:=kT6.out.cell 0;have t1:=kT6.out.cell 1;have t2:=kT6.out.cell 2;have t3:=kT6.out.cell 3;have t4:=kT6.out.cell 4;have t5:=kT6.out.cell 5;have t6:=kT6.out.cell 6;have lB:=h6.out.blk.lt;have lT:=kT6.out.lt;have lK:=kK6.out.lt;simp at b4 k0 k1 t0 t1 t2 t3 t4 t5 t6;obtain ⟨i0,hi0,hz0,hz1,hz2⟩:=info_parts info72;have sd1 : fl.length + 1 <= maxLen:=by have:=hfln.out; unfold maxLen; omega
   have sd2 : (fl.length + 1) * 64 <= 140737488355328:=by have:=hfln.out; omega
   have hBk : Blk w9 (N + 8) 194 _:=h6.out.blk
   have zcz : ∀ W' : World,(∀ b,b = N + 8 \/ b = G \/ b = T -> W'.heap[b]? = w9.heap[b]?) -> W'.cell? ⟨N + 8,4,none⟩ = some (.map (some (N + 4))) /\ W'.cell? ⟨G,0,none⟩ = some (.int .i64 town) /\ W'.cell? ⟨G,1,none⟩ = some (.int .i64 street) /\ W'.cell? ⟨T,0,none⟩ = some (.int .i64 town) /\ W'.cell? ⟨T,1,none⟩ = some (.int .i64 street) /\ W'.cell? ⟨T,2,none⟩ = some (.int .i64 low) /\ W'.cell? ⟨T,3,none⟩ = some (.int .i64 high) /\ W'.cell? ⟨T,4,none⟩ = some (.int .u8 parity) /\ W'.cell? ⟨T,5,none⟩ = some (.string code) /\ W'.cell? ⟨T,6,none⟩ = some (.int .i64 route):=fun W' hW'=>by
    have q1 : Blk W' (N + 8) 194 _:=(hW' _ (.inl rfl)).trans hBk;have q2 : Blk W' G 202 #[.int .i64 town,.int .i64 street]:=(hW' _ (.inr (.inl rfl))).trans kK6.out;have q3 : Blk W' T 72 #[.int .i64 town,.int .i64 street,.int .i64 low,.int .i64 high,.int .u8 parity,.string code,.int .i64 route]:=(hW' _ (.inr (.inr rfl))).trans kT6.out;exact ⟨q1.cell 4,q2.cell 0,q2.cell 1,q3.cell 0,q3.cell 1,q3.cell 2,q3.cell 3,q3.cell 4,q3.cell 5,q3.cell 6⟩
   have hrow6 : zbx (N + 9) w9 (.slice vB fl.length vN) fl:=by rw [<- hvv'.out,<- hfq'.out]; exact h6.out.rows.row (town,street)
   have hrlt : ∀ j,(Value.slice vB fl.length vN).ownBlock = some j -> N + 9 <= j /\ j < T:=fun j hj=>⟨(hrow6.block_lt hj).1,hrl.out j (by rw [hvv'.out]; exact hj)⟩;have hTG':=hTG.out;have hNT':=hNT.out;have ltb : ∀ b,b = N + 8 \/ b = G \/ b = T -> b < w9.heap.size:=fun b hb=>by rcases hb with rfl | rfl | rfl <;> assumption
   have nb4 : ∀ b,b = N + 8 \/ b = G \/ b = T -> b ≠ N + 4:=fun b hb=>by rcases hb with rfl | rfl | rfl <;> omega
   have n4b : ∀ b,b = N + 8 \/ b = G \/ b = T -> some b ≠ some (N + 4):=fun b hb e=>nb4 b hb (by injection e)
   have vown : ∀ b,b = N + 8 \/ b = G \/ b = T -> some b ≠ (Value.slice vB fl.length vN).ownBlock:=fun b hb e=>by
    have:=hrlt b e.symm;rcases hb with rfl | rfl | rfl <;> omega
   have vn4 : some (N + 4) ≠ (Value.slice vB fl.length vN).ownBlock:=fun e=>by have:=hrlt _ e.symm; omega
   have hdX : ∀ b,b < w9.heap.size -> (w9.alloc (.cells #[.int .i64 town,.int .i64 street,.int .i64 low,.int .i64 high,.int .u8 parity,.string code,.int .i64 route] 72)).drew.heap[b]? = w9.heap[b]?:=fun b hb=>hxb.block b hb;have sA : w9.heap.size + 1 <= WA.heap.size:=by have:=hgA.size; simpa using this
   have sB : w9.heap.size <= WB.heap.size:=hgB.size;have eA : ∀ b,b = N + 8 \/ b = G \/ b = T -> WA.heap[b]? = w9.heap[b]?:=fun b hb=>(hgA.block b (Nat.lt_of_lt_of_le (ltb b hb) hxb.size) (n4b b hb)).trans (hdX b (ltb b hb));have eAlt : ∀ b,b = N + 8 \/ b = G \/ b = T -> b < WA.heap.size:=fun b hb=>by have:=ltb b hb; omega
   have eB0 : ∀ b,b = N + 8 \/ b = G \/ b = T -> WB.heap[b]? = w9.heap[b]?:=fun b hb=>hgB.block b (ltb b hb) (n4b b hb);have hbX : Below WB.heap.size WB (WB.alloc (.cells #[.int .i64 town,.int .i64 street,.int .i64 low,.int .i64 high,.int .u8 parity,.string code,.int .i64 route] 72)):=(Below.refl _ _).alloc (lQ _) _;have eB : ∀ b,b = N + 8 \/ b = G \/ b = T -> (WB.alloc (.cells #[.int .i64 town,.int .i64 street,.int .i64 low,.int .i64 high,.int .u8 parity,.string code,.int .i64 route] 72)).heap[b]? = w9.heap[b]?:=fun b hb=>(hbX.block b (Nat.lt_of_lt_of_le (ltb b hb) sB)).trans (eB0 b hb);have eBlt : ∀ b,b = N + 8 \/ b = G \/ b = T -> b < (WB.alloc (.cells #[.int .i64 town,.int .i64 street,.int .i64 low,.int .i64 high,.int .u8 parity,.string code,.int .i64 route] 72)).heap.size:=fun b hb=>by have:=ltb b hb; simp; omega
   have rowD : zbx (N + 9) (w9.alloc (.cells #[.int .i64 town,.int .i64 street,.int .i64 low,.int .i64 high,.int .u8 parity,.string code,.int .i64 route] 72)).drew (.slice vB fl.length vN) fl:=hrow6.keep ze (zc.of_below hxb _);have rowA : zbx (N + 9) WA (.slice vB fl.length vN) fl:=rowD.keep ze (zc.of_grown hgA fun b hb e=>by injection e with e; omega);have rowB0 : zbx (N + 9) WB (.slice vB fl.length vN) fl:=(hrow6.keep ze (zc.of_below (w':=w9.drew) (Below.refl _ _).drew _)).keep ze (zc.of_grown hgB fun b hb e=>by injection e with e; omega);have rowB : zbx (N + 9) (WB.alloc (.cells #[.int .i64 town,.int .i64 street,.int .i64 low,.int .i64 high,.int .u8 parity,.string code,.int .i64 route] 72)) (.slice vB fl.length vN) fl:=rowB0.keep ze (zc.of_below hbX _);have newA : WA.heap[w9.heap.size]? = some (.cells #[.int .i64 town,.int .i64 street,.int .i64 low,.int .i64 high,.int .u8 parity,.string code,.int .i64 route] 72 (0,0)):=(hgA.block w9.heap.size (by simp) (by intro e; injection e with e; omega)).trans (Blk.new w9 72 _);have newB : (WB.alloc (.cells #[.int .i64 town,.int .i64 street,.int .i64 low,.int .i64 high,.int .u8 parity,.string code,.int .i64 route] 72)).heap[WB.heap.size]? = some (.cells #[.int .i64 town,.int .i64 street,.int .i64 low,.int .i64 high,.int .u8 parity,.string code,.int .i64 route] 72 (0,0)):=Blk.new WB 72 _;have pAsz : N + 9 <= WA.heap.size:=by omega
   have pBsz : N + 9 <= (WB.alloc (.cells #[.int .i64 town,.int .i64 street,.int .i64 low,.int .i64 high,.int .u8 parity,.string code,.int .i64 route] 72)).heap.size:=by simp; omega
   have pAst:=hsA;have pBst : ∀ (W2 : World) (d : Value),W2.heap[N + 4]? = (WB.alloc (.cells #[.int .i64 town,.int .i64 street,.int .i64 low,.int .i64 high,.int .u8 parity,.string code,.int .i64 route] 72)).heap[N + 4]? -> _:=fun W2 d h=>hsB W2 d (h.trans (hbX.block (N + 4) (by omega)));have pAn4 : N + 4 < WA.heap.size:=by omega
   have pBn4 : N + 4 < (WB.alloc (.cells #[.int .i64 town,.int .i64 street,.int .i64 low,.int .i64 high,.int .u8 parity,.string code,.int .i64 route] 72)).heap.size:=by simp; omega
   obtain ⟨za0,za1,za2,za3,za4,za5,za6,za7,za8,za9⟩:=zcz WA eA;obtain ⟨zb0,zb1,zb2,zb3,zb4,zb5,zb6,zb7,zb8,zb9⟩:=zcz WB eB0;obtain ⟨zc0,zc1,zc2,zc3,zc4,zc5,zc6,zc7,zc8,zc9⟩:=zcz (WB.alloc (.cells #[.int .i64 town,.int .i64 street,.int .i64 low,.int .i64 high,.int .u8 parity,.string code,.int .i64 route] 72)) eB
   go_region_held3 (fun w'=>w'.cell? ⟨N + 8,4,none⟩ = some (.map (some (N + 4))) /\ w'.cell? ⟨G,0,none⟩ = some (.int .i64 town) /\ w'.cell? ⟨G,1,none⟩ = some (.int .i64 street) /\ w'.cell? ⟨T,0,none⟩ = some (.int .i64 town) /\ w'.cell? ⟨T,1,none⟩ = some (.int .i64 street) /\ w'.cell? ⟨T,2,none⟩ = some (.int .i64 low) /\ w'.cell? ⟨T,3,none⟩ = some (.int .i64 high) /\ w'.cell? ⟨T,4,none⟩ = some (.int .u8 parity) /\ w'.cell? ⟨T,5,none⟩ = some (.string code) /\ w'.cell? ⟨T,6,none⟩ = some (.int .i64 route)) (first | go_keep | (refine ⟨?_,?_,?_,?_,?_,?_,?_,?_,?_,?_⟩ <;> assumption)) (first | (refine step_append_lies _ (by rfl) (.tmp 86) (.tmp 88) 28 (by rfl) (N + 9) 72 i0 (.agg #[.int .i64 0,.int .i64 0,.int .i64 0,.int .i64 0,.int .u8 0,.string ⟨#[]⟩,.int .i64 0]) 7 64 Tryz.underlying28 hi0 hz0 hz1 hz2 rfl (by decide) (.slice vB fl.length vN) fl.length (fl.flatMap zoY) (by rfl) (by exact rowA.1) ⟨w9.heap.size,0,none⟩ 1 1 [.int .i64 town,.int .i64 street,.int .i64 low,.int .i64 high,.int .u8 parity,.string code,.int .i64 route] (by rfl) rfl (by exact World.news_of_block newA) (by exact zAh rfl rfl rfl rfl rfl rfl rfl) Nat.one_pos sd1 sd2 pAsz _ (by rfl) ?_; intro gg cap w1 hown1 hgr1 hat1 hlt1; obtain ⟨z0,z1,z2,z3,z4,z5,z6,z7,z8,z9⟩:=zcz w1 (fun b hb=>(hgr1.block b (eAlt b hb) (vown b hb)).trans (eA b hb)); obtain ⟨W3,hst3,hm3,hg3⟩:=pAst w1 (.slice (some ⟨gg,0,none⟩) (fl.length + 1) cap) (hgr1.block (N + 4) pAn4 vn4); simp only [id,goInt] at hst3; obtain ⟨y0,y1,y2,y3,y4,y5,y6,y7,y8,y9⟩:=zcz W3 (fun b hb=>(hg3.block b (Nat.lt_of_lt_of_le (eAlt b hb) hgr1.size) (n4b b hb)).trans ((hgr1.block b (eAlt b hb) (vown b hb)).trans (eA b hb)))) | (refine step_append_lies _ (by rfl) (.tmp 86) (.tmp 88) 28 (by rfl) (N + 9) 72 i0 (.agg #[.int .i64 0,.int .i64 0,.int .i64 0,.int .i64 0,.int .u8 0,.string ⟨#[]⟩,.int .i64 0]) 7 64 Tryz.underlying28 hi0 hz0 hz1 hz2 rfl (by decide) (.slice vB fl.length vN) fl.length (fl.flatMap zoY) (by rfl) (by exact rowB.1) ⟨WB.heap.size,0,none⟩ 1 1 [.int .i64 town,.int .i64 street,.int .i64 low,.int .i64 high,.int .u8 parity,.string code,.int .i64 route] (by rfl) rfl (by exact World.news_of_block newB) (by exact zAh rfl rfl rfl rfl rfl rfl rfl) Nat.one_pos sd1 sd2 pBsz _ (by rfl) ?_; intro gg cap w1 hown1 hgr1 hat1 hlt1; obtain ⟨z0,z1,z2,z3,z4,z5,z6,z7,z8,z9⟩:=zcz w1 (fun b hb=>(hgr1.block b (eBlt b hb) (vown b hb)).trans (eB b hb)); obtain ⟨W3,hst3,hm3,hg3⟩:=pBst w1 (.slice (some ⟨gg,0,none⟩) (fl.length + 1) cap) (hgr1.block (N + 4) pBn4 vn4); simp only [id,goInt] at hst3; obtain ⟨y0,y1,y2,y3,y4,y5,y6,y7,y8,y9⟩:=zcz W3 (fun b hb=>(hg3.block b (Nat.lt_of_lt_of_le (eBlt b hb) hgr1.size) (n4b b hb)).trans ((hgr1.block b (eBlt b hb) (vown b hb)).trans (eB b hb)))))
   all_goals
    have hfin:=Hd (CS.put4 (a:=⟨town,street,low,high,parity,code,route⟩) (key:=(town,street)) h6.out (hxb) hgA (Below.refl _ _) hvv'.out rfl (by rw [hfq'.out]; exact hown1) hgr1 (hat1.imp_right fun e=>by rw [e]; exact lQ _) (by rw [hfq'.out]; exact hm3) hg3);clear hown1 hgr1 hat1 hm3 hg3;go_wp2;go_ret;exact ⟨zf (by rw [hyes.out]),hfin.out.below,fun _=>⟨_,hfin.out⟩⟩
end
end Go.Proofs.YtggimnndflkjkaaGreatDoor
