import Derived.Test.YtggimnndflkjkaaGreatDoorC01
import Derived.Test.YtggimnndflkjkaaGreatDoorC46
import Derived.Test.YtggimnndflkjkaaGreatDoorE01
import Derived.Laws.IdiomStrings
set_option linter.all false
set_option maxRecDepth 100000
set_option maxHeartbeats 0
namespace Go.Proofs.YtggimnndflkjkaaGreatDoor
section
open Go.RowKit Go.Maps
def zsa (w : World) (b : Nat) (l : List UInt8) : Prop:=
 b < w.heap.size /\ (∀ j (hj : j < l.length),w.cell? ⟨b,j,none⟩ = some (.int .u8 (l[j].toNat : Int))) /\ ∀ j,j < l.length -> w.frozen? ⟨b,j,none⟩ = false
theorem zAU (s : ByteArray) (w : World) : ∃ cap W,(convert 9 22 (.string s)).run Tryz.prog w = .ok (.slice (some ⟨w.heap.size,0,none⟩) s.size cap) W /\ Below w.heap.size w W /\ zsa W w.heap.size s.data.toList:=by
 refine ⟨_,_,run_bytes_of_string w 9 22 5 s Tryz.underlying9 Tryz.underlying22 Tryz.underlying5,?_,?_,?_,?_⟩
 ·exact ((Below.refl w.heap.size w).drew).alloc (by simp) _
 ·simp
 ·intro j hj
  have hj' : j < s.size:=by simpa using hj
  rw [show w.heap.size = w.drew.heap.size from rfl,World.cell?_alloc_mark,bytesRow_at s _ j hj'];simp
 ·intro j hj
  have hj' : j < s.size:=by simpa using hj
  have hsz : j < (bytesRow s (grownCap w s.size 0 5)).size:=by
   unfold bytesRow;simp;have : j < s.data.size:=hj';omega
  rw [show w.heap.size = w.drew.heap.size from rfl,World.frozen?_alloc_mark];simp;omega
theorem zsa.below {w w' : World} {b : Nat} {l : List UInt8} (h : zsa w b l) (hb : Below w.heap.size w w') : zsa w' b l:=by
 obtain ⟨h1,h2,h4⟩:=h;refine ⟨Nat.lt_of_lt_of_le h1 hb.size,fun j hj=>(hb.cell (p:=⟨b,j,none⟩) h1).trans (h2 j hj),fun j hj=>?_⟩;rw [<- h4 j hj];exact World.frozen?_of_block (hb.block b h1)
theorem zsa.set {w : World} {b : Nat} {l : List UInt8} (h : zsa w b l) (i : Nat) (hi : i < l.length) (x : Nat) (hx : x < 256) : zsa (w.setCell ⟨b,i,none⟩ (.int .u8 (x : Int))) b (l.set i (UInt8.ofNat x)):=by
 obtain ⟨h1,h2,h4⟩:=h;refine ⟨by simpa [World.setCell] using h1,fun j hj=>?_,fun j hj=>?_⟩
 ·have hj' : j < l.length:=by simpa using hj
  by_cases e : i = j
  ·subst e
   rw [World.cell?_setCell_same w _ _ (h2 i hi)];simp [UInt8.toNat_ofNat'];omega
  ·rw [World.cell?_setCell_other w _ _ _ (show (⟨b,i,none⟩ : Addr) ≠ ⟨b,j,none⟩ from fun h=>e (by injection h)),h2 j hj']
   simp [List.getElem_set_ne e]
 ·rw [World.frozen?_setCell]
  exact h4 j (by simpa using hj)
theorem zsa.back {w : World} {b : Nat} {l : List UInt8} (h : zsa w b l) (cap : Nat) : (convert 22 9 (.slice (some ⟨b,0,none⟩) l.length cap)).run Tryz.prog w = .ok (.string ⟨l.toArray⟩) w:=
 run_convert_bytes_back w 22 9 5 ⟨b,0,none⟩ cap l Tryz.underlying22 Tryz.underlying5 Tryz.underlying9 fun j hj=>by
  rw [Go.WideShapes.add_plain,Nat.zero_add];exact h.2.1 j hj
theorem zsa.edit {w : World} {b : Nat} {s : ByteArray} {i : Nat} (h : zsa w b (s.data.toList.set i (UInt8.ofNat (zAq (zU s i))))) (n cap : Nat) (hn : n = s.size) : (convert 22 9 (.slice (some ⟨b,0,none⟩) n cap)).run Tryz.prog w = .ok (.string (zuR s i)) w:=by
 have hb:=h.back cap;rw [List.length_set] at hb;have e : s.data.toList.length = n:=by rw [hn]; simp
 rw [e] at hb;exact hb
def zAr (kd : Int) (ps : List zu) : ByteArray:=ps.foldl (fun s p=>if p.kind = kd then p.text else s) ⟨#[]⟩
theorem zAG (kd : Int) (ps : List zu) (k : Nat) (h : k < ps.length) : zAr kd (ps.take (k + 1)) = if (ps.getD k zu.zero).kind = kd then (ps.getD k zu.zero).text else zAr kd (ps.take k):=by
 unfold zAr;rw [zaO ps zu.zero k h,List.foldl_append];rfl
theorem zAB (v : Nat -> ByteArray) (kd : Nat) : ∀ k,zAr (kd : Int) (zG v k) = if 1 <= kd /\ kd <= k then v kd else ⟨#[]⟩
 | 0=>by rw [if_neg (by omega)]; rfl
 | k + 1=>by
  have ih:=zAB v kd k;unfold zAr at ih ⊢;rw [zG,List.foldl_append,ih];by_cases hz : (v (k + 1)).size = 0
  ·rw [if_pos hz,List.foldl_nil]
   by_cases hk : kd = k + 1
   ·subst hk
    rw [if_neg (by omega),if_pos (by omega)];exact (zlt hz).symm
   ·by_cases h1 : 1 <= kd /\ kd <= k
    ·rw [if_pos h1,if_pos (by omega)]
    ·rw [if_neg h1,if_neg (by omega)]
  ·rw [if_neg hz,List.foldl_cons,List.foldl_nil]
   by_cases hk : kd = k + 1
   ·subst hk
    rw [if_pos rfl,if_pos (by omega)]
   ·rw [if_neg (show ¬ ((k + 1 : Nat) : Int) = (kd : Int) by omega)]
    by_cases h1 : 1 <= kd /\ kd <= k
    ·rw [if_pos h1,if_pos (by omega)]
    ·rw [if_neg h1,if_neg (by omega)]
theorem zAA (v : Nat -> ByteArray) (kd : Nat) (h1 : 1 <= kd) (h2 : kd <= 10) : zAr (kd : Int) (zm v) = v kd:=by
 unfold zm;rw [zAB,if_pos ⟨h1,h2⟩]
end
section
open Go.RowKit Go.Maps
theorem zvC {c : Int} {ps : List zu} (h : zR c ps = true) : 0 < ps.length:=by
 cases ps with
 | nil=>rw [zlr] at h; cases h
 | cons a l=>simp
def zAH (kd size : Nat) (Y er : Int) : Prop:=(kd = 10 -> er = 0 /\ Y = 4) /\ (kd ≠ 10 -> er = 2 \/ (er = 0 /\ Y = 1 /\ 4 <= size /\ 1 <= zcD (size : Int)))
theorem zAK {x : zi} {p : zh} {kd size : Nat} {ps : List zu} (h : zAI x p kd size ps) (hp : zaX (zb x) p.id = (p,true)) {B : Nat} {e : Ending} {w' : World}
  (he : zzc (zae (zb x) && zR (zcT (zb x) p) ps) (zaX (zb x) p.id).2 (zaX (zb x) p.id).1.id (zaU (zb x) (zcT (zb x) p) ps (zaX (zb x) p.id).1) B e w') :
  ∃ (X Y : Int) (A : Option Addr) (n c : Nat) (er : Int),zAH kd size Y er /\ e = .returned (.tuple #[.agg #[.int .i64 X,.int .i64 Y,.slice A n c],.int .i64 er]):=by
 rw [hp,zeE x,Bool.true_and] at he;rcases he with ⟨h1,rfl⟩ | ⟨-,h1,-⟩ | ⟨hr,-,h1,rfl⟩ | ⟨hr,-,ns,nv,h1,rfl,hn⟩
 ·refine ⟨0,0,none,0,0,2,⟨fun hk=>?_,fun hk=>.inl rfl⟩,rfl⟩
  rw [(h.code hk).1] at h1; cases h1
 ·cases h1
 ·refine ⟨0,0,none,0,0,140,⟨fun hk=>?_,fun hk=>?_⟩,rfl⟩
  ·obtain ⟨-,ns,h2,-⟩:=h.code hk
   rw [h2] at h1; cases h1
  ·rcases h.name hk with h2 | ⟨-,-,-,ns,h2,-⟩
   ·rw [h2] at hr; cases hr
   ·rw [h2] at h1; cases h1
 ·obtain ⟨A,c,rfl,-⟩:=hn
  refine ⟨_,_,A,_,c,0,⟨fun hk=>?_,fun hk=>?_⟩,rfl⟩
  ·obtain ⟨-,ns',h2,h3⟩:=h.code hk
   rw [h2] at h1;obtain rfl:=Option.some.inj h1;exact ⟨rfl,h3⟩
  ·rcases h.name hk with h2 | ⟨-,h4,h5,ns',h2,h3⟩
   ·rw [h2] at hr; cases hr
   ·rw [h2] at h1
    obtain rfl:=Option.some.inj h1;exact .inr ⟨rfl,h3,h4,h5⟩
theorem zAN (s : ByteArray) (i : Nat) (h : i < s.data.toList.length) : (s.data.toList[i]'h).toNat = zU s i:=by
 have h2 : i < s.size:=by simpa using h
 unfold zU;rw [dif_pos h2];rfl
theorem zAW (x : zi) (p : zh) (hp : p ∈ (zb x).points) (kd : Nat) (hk : kd = 8 \/ kd = 4 \/ kd = 10) (h : zX (zb x) p kd = ⟨#[]⟩) : kd = 4 /\ p.street = 0:=by
 obtain ⟨t,i,-,-,hb⟩:=zcx x p hp;have ht:=zxR x t p hb;have hz : (zX (zb x) p kd).size = 0:=by rw [h]; rfl
 rcases hk with rfl | rfl | rfl
 ·exact absurd hz ht.town
 ·refine ⟨rfl,?_⟩
  rcases zin x t p hb with ⟨h0,-,-⟩ | ⟨k,hk,-,hp,-⟩
  ·exact h0
  ·have hS : (zn (zb x) p.street).1 = zac x k:=by rw [hp,zcH x k hk]
   have e4 : zX (zb x) p 4 = zoG ++ zaE k:=by
    show (zn (zb x) p.street).1.name = _;rw [hS]; rfl
   rw [e4,ByteArray.size_append] at hz;have h5 : zoG.size = 5:=rfl;omega
 ·exact absurd hz ht.code
theorem zAE {s : ByteArray} {i : Nat} (h : i < s.size) (h1 : 65 <= zU s i) (h2 : zU s i <= 90) : ztR s i = true:=by
 unfold ztR zgA zbI;simp;exact ⟨h,.inl ⟨by omega,by omega⟩⟩
theorem zAL {s : ByteArray} {i : Nat} (h : i < s.size) (h1 : 48 <= zU s i) (h2 : zU s i <= 57) : ztR s i = true:=by
 unfold ztR zgA zdZ;simp;exact ⟨h,.inr ⟨by omega,by omega⟩⟩
theorem zAD (x : zi) (vc vp : Value) (a1 a2 a3 : Int) (w : World) (hs : zbS w vc vp x) (hw1 : (Lit.int .u8 a1).wf = true) (hw2 : (Lit.int .u8 a2).wf = true) (hw3 : (Lit.int .u8 a3).wf = true) (htab : zbz w) :
  Calls Tryz.prog 5 #[.agg #[.int .u8 (x.towns : Int),.int .u8 (x.streets : Int),vc,vp],.int .u8 a1,.int .u8 a2,.int .u8 a3] w fun e w'=>e = .returned (.bool true) /\ Below w.heap.size w w':=by
 obtain ⟨wh,rfl,hwh⟩ : ∃ n : Nat,a1 = (n : Int) /\ n < 256:=by
  have:=bounds_u8 hw1;exact ⟨a1.toNat,by omega,by omega⟩
 obtain ⟨wy,rfl,hwy⟩ : ∃ n : Nat,a2 = (n : Int) /\ n < 256:=by
  have:=bounds_u8 hw2;exact ⟨a2.toNat,by omega,by omega⟩
 obtain ⟨u,rfl,hu⟩ : ∃ n : Nat,a3 = (n : Int) /\ n < 256:=by
  have:=bounds_u8 hw3;exact ⟨a3.toNat,by omega,by omega⟩
 obtain ⟨cA,cc,rfl,-⟩:=hs.c;obtain ⟨pA,pc,rfl,-⟩:=hs.p;have hs':=Hd hs;have htab':=Hd htab;clear hs hw1 hw2 hw3 htab;go_enter Tryz.func5,Tryz.ntmps5;go_upto_region 1 with fail;have hb0:=Hd ((Below.refl w.heap.size w).alloc (lQ _) (.cells #[.int .u8 (x.towns : Int),.int .u8 (x.streets : Int),.slice cA x.cuts.length cc,.slice pA x.points.length pc] 25));have kS:=Hd (Blk.new w 25 #[.int .u8 (x.towns : Int),.int .u8 (x.streets : Int),.slice cA x.cuts.length cc,.slice pA x.points.length pc]);generalize w.alloc (.cells #[.int .u8 (x.towns : Int),.int .u8 (x.streets : Int),.slice cA x.cuts.length cc,.slice pA x.points.length pc] 25) = W0 at *;have c0:=kS.out.cell 0;have c1:=kS.out.cell 1;have c2:=kS.out.cell 2;have c3:=kS.out.cell 3;have lS:=kS.out.lt;simp at c0 c1 c2 c3;go_wp2_with fail;refine (zik x _ _ wh W0 (hs'.out.stays (zo.of hb0.out)) hwh).mono ?_;rintro e w1 ⟨vt,vs,vr,vq,hr,hb1,hcase⟩;clear c0 c1 c2 c3 lS kS;have hbw:=Hd (hb0.out.trans (hb1.mono hb0.out.size));obtain ⟨⟨tA,tn,tc,rfl⟩,⟨sA,sn,sc,rfl⟩,⟨rA,rn,rc,rfl⟩,⟨qA,qn,qc,rfl⟩⟩:=hr.forms;obtain ⟨-,rfl⟩ | ⟨p,hp,rfl⟩:=hcase
 ·unfold zaz zh.zero
  have hb2:=Hd ((hbw.out.alloc hbw.out.size (.cells #[.slice tA tn tc,.slice sA sn sc,.slice rA rn rc,.slice qA qn qc] 31)).alloc (by have:=hbw.out.size; simp; omega) (.cells #[.int .i64 0,.int .i64 0,.int .i64 0,.int .i64 0,.string ⟨#[]⟩,.string ⟨#[]⟩,.int .i64 0,.int .i64 0] 33));go_upto_region 2 with fail;generalize (w1.alloc (.cells #[.slice tA tn tc,.slice sA sn sc,.slice rA rn rc,.slice qA qn qc] 31)).alloc (.cells #[.int .i64 0,.int .i64 0,.int .i64 0,.int .i64 0,.string ⟨#[]⟩,.string ⟨#[]⟩,.int .i64 0,.int .i64 0] 33) = w2 at *;go_wp2_with fail;refine (zbq w2 (htab'.out.below hb2.out)).mono ?_;rintro e w3 ⟨rfl,hb3⟩;go_wp2;go_ret;exact ⟨rfl,hb2.out.trans (hb3.mono hb2.out.size)⟩
 ·have F:=Hd (znB x p hp)
  unfold zaz;have hb2:=Hd ((hbw.out.alloc hbw.out.size (.cells #[.slice tA tn tc,.slice sA sn sc,.slice rA rn rc,.slice qA qn qc] 31)).alloc (by have:=hbw.out.size; simp; omega) (.cells #[.int .i64 p.id,.int .i64 p.town,.int .i64 p.street,.int .i64 p.number,.string p.letter,.string p.unit,.int .i64 p.box,.int .i64 p.seq] 33));have kF:=Hd ((Blk.new w1 31 #[.slice tA tn tc,.slice sA sn sc,.slice rA rn rc,.slice qA qn qc]).alloc (.cells #[.int .i64 p.id,.int .i64 p.town,.int .i64 p.street,.int .i64 p.number,.string p.letter,.string p.unit,.int .i64 p.box,.int .i64 p.seq] 33));have kP:=Hd (Blk.new_at (w1.alloc (.cells #[.slice tA tn tc,.slice sA sn sc,.slice rA rn rc,.slice qA qn qc] 31)) 33 #[.int .i64 p.id,.int .i64 p.town,.int .i64 p.street,.int .i64 p.number,.string p.letter,.string p.unit,.int .i64 p.box,.int .i64 p.seq] (w1.heap.size + 1) (by simp));have hr2:=Hd (hr.stays (zo.of (((Below.refl w1.heap.size w1).alloc (lQ _) (.cells #[.slice tA tn tc,.slice sA sn sc,.slice rA rn rc,.slice qA qn qc] 31)).alloc (by simp) (.cells #[.int .i64 p.id,.int .i64 p.town,.int .i64 p.street,.int .i64 p.number,.string p.letter,.string p.unit,.int .i64 p.box,.int .i64 p.seq] 33))));clear hr hb1;go_upto_region 2 with fail;generalize (w1.alloc (.cells #[.slice tA tn tc,.slice sA sn sc,.slice rA rn rc,.slice qA qn qc] 31)).alloc (.cells #[.int .i64 p.id,.int .i64 p.town,.int .i64 p.street,.int .i64 p.number,.string p.letter,.string p.unit,.int .i64 p.box,.int .i64 p.seq] 33) = w2 at *;generalize w1.heap.size + 1 = N6 at *;generalize w1.heap.size = N5 at *;have hbr2:=hb2;go_upto_region 4 with fail;have f0:=kF.out.cell 0;have f1:=kF.out.cell 1;have f2:=kF.out.cell 2;have f3:=kF.out.cell 3;have lF:=kF.out.lt;have g0:=kP.out.cell 0;have g1:=kP.out.cell 1;have g2:=kP.out.cell 2;have g3:=kP.out.cell 3;have g4:=kP.out.cell 4;have g5:=kP.out.cell 5;have g6:=kP.out.cell 6;have g7:=kP.out.cell 7;have lP:=kP.out.lt;simp at f0 f1 f2 f3 g0 g1 g2 g3 g4 g5 g6 g7;go_wp2_with fail;refine (zrV _ _ _ _ (zb x) p w2 hr2.out F.out.fine (htab'.out.below hb2.out)).mono ?_;rintro e w3 ⟨v,rfl,hown,hb3⟩;have hpp:=Hd hown.parts;obtain ⟨vA,vm,rfl⟩:=hown.form_;clear f0 f1 f2 f3 lF g0 g1 g2 g3 g4 g5 g6 g7 lP hown;have hpt:=Hd (fun (kd size : Nat) (lv : Value) (qs : List zu) (he : zAI x p kd size qs) (W : World) h1 h2 h3=>(zcA (.slice tA tn tc) (.slice sA sn sc) (.slice rA rn rc) (.slice qA qn qc) (zb x) (zcT (zb x) p) lv qs p.id W h1 (zbv x) h2 he.small (fun _=>zbl x) h3).mono (fun e w' hh=>And.intro (zAK he F.out.point hh.1) hh.2));have hp10 : (zm (zX (zb x) p)).length <= 10:=zcX _ 10;have hp0 : 0 < (zm (zX (zb x) p)).length:=zvC (zeL x p hp).1;have hEd:=Hd (fun (kd : Nat) hk i hf=>zAV x p hp kd hk i hf);have hTx:=Hd (zAA (zX (zb x) p));have hSm:=Hd (zAW x p hp);clear F hp;generalize zcT (zb x) p = c at *;generalize zm (zX (zb x) p) = ps at *;have hb4:=Hd ((hb2.out.trans (hb3.mono hb2.out.size)).alloc (Nat.le_trans hb2.out.size hb3.size) (.cells #[.int .u8 c,.slice vA ps.length vm] 39));have kF4:=Hd ((kF.out.below hb3 kF.out.lt).alloc (.cells #[.int .u8 c,.slice vA ps.length vm] 39));have kP4:=Hd ((kP.out.below hb3 kP.out.lt).alloc (.cells #[.int .u8 c,.slice vA ps.length vm] 39));have kR4:=Hd (Blk.new w3 39 #[.int .u8 c,.slice vA ps.length vm]);have hr4:=Hd (hr2.out.stays (zo.of (hb3.alloc hb3.size (.cells #[.int .u8 c,.slice vA ps.length vm] 39))));have hp4:=Hd (hpp.out.stays (zo.of ((Below.refl w3.heap.size w3).alloc (lQ _) (.cells #[.int .u8 c,.slice vA ps.length vm] 39))));clear kF kP hr2 hpp hb2 hbr2 hbw hb0 hs';go_upto_region 5 with fail;clear hb3;generalize w3.alloc (.cells #[.int .u8 c,.slice vA ps.length vm] 39) = w4 at *
  generalize w3.heap.size = N8 at *;obtain ⟨kq,hkq⟩ : ∃ k,k = wy % 3:=⟨_,rfl⟩;have hkI : (wy : Int) % 3 = (kq : Int):=by omega
  have hk3 : kq < 3:=by omega
  clear hkq
  go_cut [13] (fun s13 wx=>∃ kd : Nat,(kd = 8 \/ kd = 4 \/ kd = 10) /\ s13 = .int .u8 (kd : Int) /\ Hid (Below w4.heap.size w4 wx))
  case first=>
   have hbn:=Hd ((Below.refl w4.heap.size w4).alloc (lQ _) (.cells #[.int .u8 8,.int .u8 4,.int .u8 10] 5));obtain rfl | rfl | rfl : kq = 0 \/ kq = 1 \/ kq = 2:=by omega
   ·go_wp2_with (refine Go.Great.wpList_buildSliceTo rfl 22 5 3 _ rfl w4.heap.size rfl (some 35) rfl Tryz.underlying22 #[.int .u8 8,.int .u8 4,.int .u8 10] (by kernel_rfl) ?_)
    go_meet
    case rel=>exact ⟨8,.inl rfl,rfl,hbn⟩
   ·go_wp2_with (refine Go.Great.wpList_buildSliceTo rfl 22 5 3 _ rfl w4.heap.size rfl (some 35) rfl Tryz.underlying22 #[.int .u8 8,.int .u8 4,.int .u8 10] (by kernel_rfl) ?_)
    go_meet
    case rel=>exact ⟨4,.inr (.inl rfl),rfl,hbn⟩
   ·go_wp2_with (refine Go.Great.wpList_buildSliceTo rfl 22 5 3 _ rfl w4.heap.size rfl (some 35) rfl Tryz.underlying22 #[.int .u8 8,.int .u8 4,.int .u8 10] (by kernel_rfl) ?_)
    go_meet
    case rel=>exact ⟨10,.inr (.inr rfl),rfl,hbn⟩
  case rest=>
  obtain ⟨kd,hkd,rfl,hb45⟩:=hcut;rename World=>w5;clear hkI hk3;have hkd':=Hd hkd;have hkd1 : 1 <= kd /\ kd <= 10:=by omega
  clear hkd;have hb5:=Hd (hb4.out.trans (hb45.out.mono hb4.out.size));have kF5:=Hd (kF4.out.below hb45.out kF4.out.lt);have kP5:=Hd (kP4.out.below hb45.out kP4.out.lt);have kR5:=Hd (kR4.out.below hb45.out kR4.out.lt);have hr5:=Hd (hr4.out.stays (zo.of hb45.out));have hp5:=Hd (hp4.out.stays (zo.of hb45.out));clear kF4 kP4 kR4 hr4 hp4 hb4 hb45;go_upto_region 7 with fail;have r1:=kR5.out.cell 1;have lR:=kR5.out.lt;simp at r1;go_wp2;clear r1 lR
  go_loopw [14,43] (fun s14 kv wr=>∃ k : Nat,k <= ps.length /\ kv = .int .i64 k /\ s14 = .string (zAr (kd : Int) (ps.take k)) /\ Hid (Below w5.heap.size w5 wr)) (fun _ kv _=>ps.length - (intOf kv).toNat)
  case atStart=>exact ⟨0,by omega,rfl,rfl,Hd (Below.refl _ _)⟩
  case round=>
   obtain ⟨k,hk,rfl,rfl,hbr⟩:=hrel;rename World=>wr;have n0 : (0 : Int) <= (k : Int):=by omega
   by_cases hlt : k < ps.length
   ·have n1 : (k : Int) < (ps.length : Int):=by omega
    obtain ⟨B',d',hq2,-,-,hB⟩:=hp5.out;obtain ⟨qb,qo,rfl,hqb,hqi⟩:=hB (by omega);injection hq2 with e1 _ e3;subst e1;obtain ⟨b0,b1⟩:=hqi k hlt;rw [<- hbr.out.cell (p:=⟨qb,qo + k * 2,none⟩) hqb] at b0;rw [<- hbr.out.cell (p:=⟨qb,qo + k * 2 + 1,none⟩) hqb] at b1;have hst:=Hd (zAG (kd : Int) ps k hlt);clear hB hqi;generalize ps.getD k zu.zero = q at *;generalize zAr (kd : Int) (ps.take k) = tx at *;obtain ⟨qk,qt⟩:=q;simp only at b0 b1;have hbx:=Hd (hbr.out.alloc hbr.out.size (.cells #[.int .u8 qk,.string qt] 50));by_cases e : qk = (kd : Int)
    ·have e1 : (qk == (kd : Int)) = true:=by simp [e]
     have hn : Hid (zAr (kd : Int) (ps.take (k + 1)) = qt):=Hd (by rw [hst.out]; exact if_pos e);clear hst e;go_wp2;go_roundw
     case rel=>exact ⟨k + 1,by omega,by go_num,by rw [hn.out],hbx⟩
     case measure=>simp [intOf]; omega
    ·have e1 : (qk == (kd : Int)) = false:=by simpa using e
     have hn : Hid (zAr (kd : Int) (ps.take (k + 1)) = tx):=Hd (by rw [hst.out]; exact if_neg e);clear hst e;go_wp2;go_roundw
     case rel=>exact ⟨k + 1,by omega,by go_num,by rw [hn.out],hbx⟩
     case measure=>simp [intOf]; omega
   ·obtain rfl : k = ps.length:=by omega
    have n1 : ¬ (ps.length : Int) < (ps.length : Int):=by omega
    rw [List.take_length,hTx.out kd hkd1.1 hkd1.2];have hE:=Hd (hEd.out kd hkd'.out);have hS:=Hd (hSm.out kd hkd'.out);clear hEd hTx hSm;generalize zX (zb x) p kd = s at *;have hb6:=Hd (hb5.out.trans (hbr.out.mono hb5.out.size));have kF6:=Hd (kF5.out.below hbr.out kF5.out.lt);have kP6:=Hd (kP5.out.below hbr.out kP5.out.lt);have kR6:=Hd (kR5.out.below hbr.out kR5.out.lt);have hr6:=Hd (hr5.out.stays (zo.of hbr.out));have hp6:=Hd (hp5.out.stays (zo.of hbr.out));clear kF5 kP5 kR5 hr5 hp5 hb5 hbr;go_upto_region 13 with fail;by_cases h0 : s = ⟨#[]⟩
    ·have e0 : s.toList.isEmpty = true:=by rw [h0,zaL]; rfl
     obtain ⟨hk4,hst0⟩:=hS.out h0;have e1 : ((kd : Int) == 4) = true:=by simp [hk4]
     have e2 : (p.street == 0) = true:=by simp [hst0]
     have g2:=kP6.out.cell 2;have lP:=kP6.out.lt;simp at g2;clear h0 hk4 hst0;go_wp2_with fail;refine (zbq wr (htab'.out.below hb6.out)).mono ?_;rintro e wz ⟨rfl,hbz⟩;go_wp2;go_ret;exact ⟨rfl,hb6.out.trans (hbz.mono hb6.out.size)⟩
    ·have e0 : s.toList.isEmpty = false:=by
      cases he : s.toList.isEmpty with
      | false=>rfl
      | true=>exact absurd (zvW he) h0
     have hsz0 : 0 < s.size:=by
      rw [zaL] at e0;have:=of_decide_eq_false e0;omega
     clear h0;obtain ⟨cap,W7,hcv,hbW,hby⟩:=zAU s wr;have hby':=Hd hby;have hb67:=Hd hbW;clear hby hbW hS;have hsn : (s.size : Int) ≠ 0:=by omega
     have hsn0 : (0 : Int) < (s.size : Int):=by omega
     obtain ⟨i,hi⟩ : ∃ i,i = u % s.size:=⟨_,rfl⟩;have his : i < s.size:=by rw [hi]; exact Nat.mod_lt _ hsz0
     have hiI : (u : Int) % (s.size : Int) = (i : Int):=by rw [hi]; simp
     have hi0 : (0 : Int) <= (i : Int):=by omega
     have hi1 : (i : Int) < (s.size : Int):=by omega
     clear hi;go_upto_region 17 with fail;rw [hiI];clear hcv hiI hi0 hi1;have hcl : i < s.data.toList.length:=by simpa using his
     have cb : W7.cell? ⟨wr.heap.size,i,none⟩ = some (.int .u8 ((zU s i : Nat) : Int)):=by rw [hby'.out.2.1 i hcl,zAN]
     have fb:=hby'.out.2.2 i hcl;have lb:=hby'.out.1;have hc255 : zU s i < 256:=by rw [<- zAN s i hcl]; exact UInt8.toNat_lt _
     obtain ⟨c8,hc8⟩ : ∃ c8,c8 = zU s i:=⟨_,rfl⟩;rw [<- hc8] at cb hc255;have hcE:=Hd hc8;clear hc8;have i0 : (0 : Int) <= (i : Int):=by omega
     have i1 : (i : Int) < (s.size : Int):=by omega
     have hb7:=Hd (hb6.out.trans (hb67.out.mono hb6.out.size));have hcl':=Hd hcl;have his':=Hd his;clear hcl his;go_upto_block 2 with fail
     go_cut [] (fun wx=>Hid (ztR s i = true /\ zsa wx wr.heap.size (s.data.toList.set i (UInt8.ofNat (zAq (zU s i)))) /\ Below wr.heap.size wr wx))
     case first=>
      by_cases h65 : 65 <= c8 /\ c8 <= 90
      ·have n3 : (65 : Int) <= (c8 : Int):=by omega
       have n4 : (c8 : Int) <= 90:=by omega
       have hx : ((zAq c8 : Nat) : Int) = 65 + ((c8 : Int) - 65 + 7) % 26:=by unfold zAq; rw [if_pos h65]; omega
       have hlt : zAq c8 < 256:=by omega
       have hfin:=Hd (show ztR s i = true /\ zsa (W7.setCell ⟨wr.heap.size,i,none⟩ (.int .u8 ((zAq c8 : Nat) : Int))) wr.heap.size (s.data.toList.set i (UInt8.ofNat (zAq (zU s i)))) /\ Below wr.heap.size wr (W7.setCell ⟨wr.heap.size,i,none⟩ (.int .u8 ((zAq c8 : Nat) : Int))) from
        ⟨zAE his'.out (by rw [<- hcE.out]; exact h65.1) (by rw [<- hcE.out]; exact h65.2),by rw [<- hcE.out]; exact hby'.out.set i hcl'.out (zAq c8) hlt,hb67.out.setCell (lQ _) _⟩)
       rw [hx] at hfin;clear hx hlt h65;go_wp2;go_meet
       case rel=>exact hfin
      ·by_cases h48 : 48 <= c8 /\ c8 <= 57
       ·have n3 : ¬ (65 : Int) <= (c8 : Int):=by omega
        have n4 : (48 : Int) <= (c8 : Int):=by omega
        have n5 : (c8 : Int) <= 57:=by omega
        have hx : ((zAq c8 : Nat) : Int) = 48 + ((c8 : Int) - 48 + 3) % 10:=by unfold zAq; rw [if_neg h65]; omega
        have hlt : zAq c8 < 256:=by omega
        have hfin:=Hd (show ztR s i = true /\ zsa (W7.setCell ⟨wr.heap.size,i,none⟩ (.int .u8 ((zAq c8 : Nat) : Int))) wr.heap.size (s.data.toList.set i (UInt8.ofNat (zAq (zU s i)))) /\ Below wr.heap.size wr (W7.setCell ⟨wr.heap.size,i,none⟩ (.int .u8 ((zAq c8 : Nat) : Int))) from
         ⟨zAL his'.out (by rw [<- hcE.out]; exact h48.1) (by rw [<- hcE.out]; exact h48.2),by rw [<- hcE.out]; exact hby'.out.set i hcl'.out (zAq c8) hlt,hb67.out.setCell (lQ _) _⟩)
        rw [hx] at hfin;clear hx hlt h65 h48;go_wp2;go_meet
        case rel=>exact hfin
       ·by_cases h90 : 90 < c8
        ·have n3 : (65 : Int) <= (c8 : Int):=by omega
         have n4 : ¬ (c8 : Int) <= 90:=by omega
         have n5 : (48 : Int) <= (c8 : Int):=by omega
         have n6 : ¬ (c8 : Int) <= 57:=by omega
         clear h65 h48 h90;go_wp2_with fail;refine (zbq W7 (htab'.out.below hb7.out)).mono ?_;rintro e wz ⟨rfl,hbz⟩;go_wp2;go_ret;exact ⟨rfl,hb7.out.trans (hbz.mono hb7.out.size)⟩
        ·by_cases h57 : 57 < c8
         ·have n3 : ¬ (65 : Int) <= (c8 : Int):=by omega
          have n5 : (48 : Int) <= (c8 : Int):=by omega
          have n6 : ¬ (c8 : Int) <= 57:=by omega
          clear h65 h48 h90 h57;go_wp2_with fail;refine (zbq W7 (htab'.out.below hb7.out)).mono ?_;rintro e wz ⟨rfl,hbz⟩;go_wp2;go_ret;exact ⟨rfl,hb7.out.trans (hbz.mono hb7.out.size)⟩
         ·have n3 : ¬ (65 : Int) <= (c8 : Int):=by omega
          have n5 : ¬ (48 : Int) <= (c8 : Int):=by omega
          clear h65 h48 h90 h57;go_wp2_with fail;refine (zbq W7 (htab'.out.below hb7.out)).mono ?_;rintro e wz ⟨rfl,hbz⟩;go_wp2;go_ret;exact ⟨rfl,hb7.out.trans (hbz.mono hb7.out.size)⟩
     case rest=>
     rename World=>w8;have hED:=Hd (hE.out i hcut.out.1);have hby8:=Hd hcut.out.2.1;have hb68:=Hd hcut.out.2.2;have hPT:=Hd (fun (lv : Value) (W : World)=>hpt.out kd s.size lv _ hED.out W);clear hcut hby' hb67 hb7 cb fb lb hpt hE hcE hc255;have hb8:=Hd (hb6.out.trans (hb68.out.mono hb6.out.size));have kF8:=Hd (kF6.out.below hb68.out kF6.out.lt);have kP8:=Hd (kP6.out.below hb68.out kP6.out.lt);have kR8:=Hd (kR6.out.below hb68.out kR6.out.lt);have hr8:=Hd (hr6.out.stays (zo.of hb68.out));have hp8:=Hd (hp6.out.stays (zo.of hb68.out));clear kF6 kP6 kR6 hr6 hp6 hb6 hb68;go_upto_region 23 with fail
     go_cut [20,21] (fun s20 s21 wx=>∃ (NM : Nat) (X Y : Int) (eA : Option Addr) (en ec : Nat) (er : Int),s20 = .pointer (some ⟨NM,0,none⟩) /\ s21 = .int .i64 er /\ Hid (zAH kd s.size Y er /\ Blk wx NM 43 #[.int .i64 X,.int .i64 Y,.slice eA en ec] /\ Below w8.heap.size w8 wx))
     case first=>
      refine zT (C:=fun w1=>Below w8.heap.size w8 w1) [true,true,true,true,true,false,true,true,false,false,false,false,false,false] [5,8,9,10,11,12,13] (by kernel_rfl) (by kernel_rfl) (by kernel_rfl) (fun _ h=>h) ?A23 ?q23 ?t23
      case q23=>
       intro S1 hS1 hSC hne;have y0:=fun (u : zaP S1)=>(kF8.out.below (hSC u.wld u.mem) kF8.out.lt).cell 0;have y1:=fun (u : zaP S1)=>(kF8.out.below (hSC u.wld u.mem) kF8.out.lt).cell 1;have y2:=fun (u : zaP S1)=>(kF8.out.below (hSC u.wld u.mem) kF8.out.lt).cell 2;have y3:=fun (u : zaP S1)=>(kF8.out.below (hSC u.wld u.mem) kF8.out.lt).cell 3;have z0:=fun (u : zaP S1)=>(kR8.out.below (hSC u.wld u.mem) kR8.out.lt).cell 0;have z1:=fun (u : zaP S1)=>(kR8.out.below (hSC u.wld u.mem) kR8.out.lt).cell 1;have v0:=fun (u : zaP S1)=>(kP8.out.below (hSC u.wld u.mem) kP8.out.lt).cell 0;have yb:=fun (u : zaP S1)=>(hby8.out.below (hSC u.wld u.mem)).edit s.size cap rfl;simp at y0 y1 y2 y3 z0 z1 v0;simp only [zbM,if_true,if_false,Bool.false_eq_true]
       repeat (go_big_quiet_step (fail))
       refine wpQuiet_nil ?_;rfl
      refine zB [5,12] (by kernel_rfl) fun jj hjj w4 hb4=>?_;have hb4:=Hd hb4;rcases List.mem_cons.1 hjj with rfl | hjj
      ·refine ⟨_,rfl,rfl,zy (ops:=#[]) (K:=fun a' w'=>(∀ w2,Below w'.heap.size w' w2 -> Below w8.heap.size w8 w2) /\ mkG Tryz.prog _ _ (fun w1=>Below w8.heap.size w8 w1) _ 6 [8,9,10,11,12,13] a' w') rfl fun Q' hQ=>?_⟩
       simp only [gX,gQ,gZ];have hQ:=Hd hQ;go_wp2_with fail;refine (znR c (.slice vA ps.length vm) ps (kd : Int) _ w4 (hp8.out.stays (zo.of hb4.out)) (by omega) hp0).mono ?_;rintro e w4C ⟨ov,rfl,hown,hb0⟩;obtain ⟨oA,om,rfl⟩:=hown.form_;have hv:=Hd (zaD.parts hown);have hbC:=Hd (za hb4.out hb0);clear hown hb0;go_wp2;refine hQ.out _ _ rfl ⟨fun w3 h3=>za hbC.out h3,?_⟩;clear hQ;refine zB [8,12] (by kernel_rfl) fun jj hjj w5 hb5=>?_;have hb5C:=Hd (za hbC.out hb5);have hv5:=Hd (hv.out.stays (zo.of hb5));rcases List.mem_cons.1 hjj with rfl | hjj
       ·refine ⟨_,rfl,rfl,zy (ops:=#[]) (K:=fun a' w'=>(∀ w2,Below w'.heap.size w' w2 -> Below w8.heap.size w8 w2) /\ mkG Tryz.prog _ _ (fun w1=>Below w8.heap.size w8 w1) _ 5 [9,10,11,12,13] a' w') rfl fun Q' hQ=>?_⟩
        simp only [gX,gQ,gZ];have hQ:=Hd hQ;go_wp2_with fail;refine (hPT.out _ w5 (hr8.out.stays (zo.of hb5C.out)) hv5.out (htab'.out.below (hb8.out.trans (hb5C.out.mono hb8.out.size)))).mono ?_;rintro e w5C ⟨⟨X,Y,eA,en,ec,er,hcs,rfl⟩,hb0⟩;have hbD:=Hd (za hb5C.out hb0);have hcs:=Hd hcs;clear hb0;go_wp2;refine hQ.out _ _ rfl ⟨fun w3 h3=>za hbD.out h3,?_⟩;clear hQ;refine zag [9,10,11,12,13] (.tuple #[.agg #[.int .i64 X,.int .i64 Y,.slice eA en ec],.int .i64 er]) (by kernel_rfl) rfl (i:=9) rfl rfl (fun _ _=>rfl) (fun w2 h2=>za hbD.out h2) ?_;simp only [gX,gQ,gZ,Act.put,sX,sS,sZ];refine zag [10,11,12,13] (.agg #[.int .i64 X,.int .i64 Y,.slice eA en ec]) (by kernel_rfl) rfl (i:=10) rfl rfl (fun _ _=>rfl) (fun w2 h2=>za hbD.out h2) ?_;simp only [gX,gQ,gZ,Act.put,sX,sS,sZ];refine zag [11,12,13] (.int .i64 er) (by kernel_rfl) rfl (i:=11) rfl rfl (fun _ _=>rfl) (fun w2 h2=>za hbD.out h2) ?_;simp only [gX,gQ,gZ,Act.put,sX,sS,sZ];refine zB [12] (by kernel_rfl) fun jj hjj w7 hb7=>?_;obtain rfl:=mS.1 hjj;have hb7D:=Hd (za hbD.out hb7);refine ⟨_,rfl,rfl,zy (ops:=#[]) (K:=fun a' w'=>(∀ w2,Below w'.heap.size w' w2 -> Below w8.heap.size w8 w2) /\ mkG Tryz.prog _ _ (fun w1=>Below w8.heap.size w8 w1) _ 1 [13] a' w') rfl fun Q' hQ=>?_⟩;simp only [gX,gQ,gZ];have hQ:=Hd hQ;have kM:=Hd (Blk.new w7 43 #[.int .i64 0,.int .i64 0,.slice none 0 0]);have hbM:=Hd (zq hb7D.out (.cells #[.int .i64 0,.int .i64 0,.slice none 0 0] 43));have hNW:=hb7D.out.size;go_wp2;refine hQ.out _ _ rfl ⟨fun w4 h4=>za hbM.out h4,?_⟩;clear hQ;generalize w7.alloc (.cells #[.int .i64 0,.int .i64 0,.slice none 0 0] 43) = W6 at *;generalize w7.heap.size = NM at *;refine zB [13] (by kernel_rfl) fun jj hjj w6 hb6=>?_;obtain rfl:=mS.1 hjj;refine ⟨_,rfl,rfl,zy (ops:=#[]) (K:=fun a' w'=>(∀ w2,Below w'.heap.size w' w2 -> Below w8.heap.size w8 w2) /\ mkG Tryz.prog _ _ (fun w1=>Below w8.heap.size w8 w1) _ 0 [] a' w') rfl fun Q' hQ=>?_⟩;simp only [gX,gQ,gZ];have hQ:=Hd hQ;have kG:=Hd (kM.out.below hb6 kM.out.lt);have kS:=Hd (kG.out.setRow_ #[.int .i64 X,.int .i64 Y,.slice eA en ec]);have hbS:=Hd (Below.setRow_ (za hbM.out hb6) hNW #[.int .i64 X,.int .i64 Y,.slice eA en ec]);refine wpList_store_rowTo rfl 43 _ _ rfl rfl NM #[.int .i64 X,.int .i64 Y,.slice eA en ec] rfl rfl 43 _ kG.out (by kernel_rfl) rfl (by kernel_rfl) ?_;refine hQ.out _ _ rfl ⟨fun w3 h3=>za hbS.out h3,?_⟩;clear hQ;refine zaM rfl ?_;intro w9 hb9;have hfin:=Hd (show _ /\ _ /\ _ from ⟨hcs.out,kS.out.below hb9 kS.out.lt,za hbS.out hb9⟩);clear kG kS hbS hb9 hb6;go_wp2;go_meet
        case rel=>exact ⟨NM,X,Y,eA,en,ec,er,rfl,rfl,hfin⟩
       ·obtain rfl:=mS.1 hjj
        refine ⟨_,rfl,rfl,zy (ops:=#[]) (K:=fun a' w'=>(∀ w2,Below w'.heap.size w' w2 -> Below w8.heap.size w8 w2) /\ mkG Tryz.prog _ _ (fun w1=>Below w8.heap.size w8 w1) _ 5 [8,9,10,11,13] a' w') rfl fun Q' hQ=>?_⟩;simp only [gX,gQ,gZ];have hQ:=Hd hQ;have kM:=Hd (Blk.new w5 43 #[.int .i64 0,.int .i64 0,.slice none 0 0]);have hbM:=Hd (zq hb5C.out (.cells #[.int .i64 0,.int .i64 0,.slice none 0 0] 43));have hNW:=hb5C.out.size;go_wp2;refine hQ.out _ _ rfl ⟨fun w4 h4=>za hbM.out h4,?_⟩;clear hQ;have hv6:=Hd (hv5.out.stays (zo.of ((Below.refl w5.heap.size w5).alloc (lQ _) (.cells #[.int .i64 0,.int .i64 0,.slice none 0 0] 43))));generalize w5.alloc (.cells #[.int .i64 0,.int .i64 0,.slice none 0 0] 43) = W6 at *;generalize w5.heap.size = NM at *;refine zB [8] (by kernel_rfl) fun jj hjj w7 hb7=>?_;obtain rfl:=mS.1 hjj;have hb7D:=Hd (za hbM.out hb7);have kM:=Hd (kM.out.below hb7 kM.out.lt);refine ⟨_,rfl,rfl,zy (ops:=#[]) (K:=fun a' w'=>(∀ w2,Below w'.heap.size w' w2 -> Below w8.heap.size w8 w2) /\ mkG Tryz.prog _ _ (fun w1=>Below w8.heap.size w8 w1) _ 4 [9,10,11,13] a' w') rfl fun Q' hQ=>?_⟩;simp only [gX,gQ,gZ];have hQ:=Hd hQ;go_wp2_with fail;refine (hPT.out _ w7 (hr8.out.stays (zo.of hb7D.out)) (hv6.out.stays (zo.of hb7)) (htab'.out.below (hb8.out.trans (hb7D.out.mono hb8.out.size)))).mono ?_;rintro e w5C ⟨⟨X,Y,eA,en,ec,er,hcs,rfl⟩,hb0⟩;have hbD:=Hd (za hb7D.out hb0);have hcs:=Hd hcs;have kM:=Hd (kM.out.below hb0 kM.out.lt);clear hb0;go_wp2;refine hQ.out _ _ rfl ⟨fun w3 h3=>za hbD.out h3,?_⟩;clear hQ;refine zag [9,10,11,13] (.tuple #[.agg #[.int .i64 X,.int .i64 Y,.slice eA en ec],.int .i64 er]) (by kernel_rfl) rfl (i:=9) rfl rfl (fun _ _=>rfl) (fun w2 h2=>za hbD.out h2) ?_;simp only [gX,gQ,gZ,Act.put,sX,sS,sZ];refine zag [10,11,13] (.agg #[.int .i64 X,.int .i64 Y,.slice eA en ec]) (by kernel_rfl) rfl (i:=10) rfl rfl (fun _ _=>rfl) (fun w2 h2=>za hbD.out h2) ?_;simp only [gX,gQ,gZ,Act.put,sX,sS,sZ];refine zag [11,13] (.int .i64 er) (by kernel_rfl) rfl (i:=11) rfl rfl (fun _ _=>rfl) (fun w2 h2=>za hbD.out h2) ?_;simp only [gX,gQ,gZ,Act.put,sX,sS,sZ];refine zB [13] (by kernel_rfl) fun jj hjj w6 hb6=>?_;obtain rfl:=mS.1 hjj;refine ⟨_,rfl,rfl,zy (ops:=#[]) (K:=fun a' w'=>(∀ w2,Below w'.heap.size w' w2 -> Below w8.heap.size w8 w2) /\ mkG Tryz.prog _ _ (fun w1=>Below w8.heap.size w8 w1) _ 0 [] a' w') rfl fun Q' hQ=>?_⟩;simp only [gX,gQ,gZ];have hQ:=Hd hQ;have kG:=Hd (kM.out.below hb6 kM.out.lt);have kS:=Hd (kG.out.setRow_ #[.int .i64 X,.int .i64 Y,.slice eA en ec]);have hbS:=Hd (Below.setRow_ (za hbD.out hb6) hNW #[.int .i64 X,.int .i64 Y,.slice eA en ec]);refine wpList_store_rowTo rfl 43 _ _ rfl rfl NM #[.int .i64 X,.int .i64 Y,.slice eA en ec] rfl rfl 43 _ kG.out (by kernel_rfl) rfl (by kernel_rfl) ?_;refine hQ.out _ _ rfl ⟨fun w3 h3=>za hbS.out h3,?_⟩;clear hQ;refine zaM rfl ?_;intro w9 hb9;have hfin:=Hd (show _ /\ _ /\ _ from ⟨hcs.out,kS.out.below hb9 kS.out.lt,za hbS.out hb9⟩);clear kG kS hbS hb9 hb6;go_wp2;go_meet
        case rel=>exact ⟨NM,X,Y,eA,en,ec,er,rfl,rfl,hfin⟩
      ·obtain rfl:=mS.1 hjj
       refine ⟨_,rfl,rfl,zy (ops:=#[]) (K:=fun a' w'=>(∀ w2,Below w'.heap.size w' w2 -> Below w8.heap.size w8 w2) /\ mkG Tryz.prog _ _ (fun w1=>Below w8.heap.size w8 w1) _ 6 [5,8,9,10,11,13] a' w') rfl fun Q' hQ=>?_⟩;simp only [gX,gQ,gZ];have hQ:=Hd hQ;have kM:=Hd (Blk.new w4 43 #[.int .i64 0,.int .i64 0,.slice none 0 0]);have hbM:=Hd (zq hb4.out (.cells #[.int .i64 0,.int .i64 0,.slice none 0 0] 43));have hNW:=hb4.out.size;go_wp2;refine hQ.out _ _ rfl ⟨fun w4 h4=>za hbM.out h4,?_⟩;clear hQ;generalize w4.alloc (.cells #[.int .i64 0,.int .i64 0,.slice none 0 0] 43) = W6 at *;generalize w4.heap.size = NM at *;refine zB [5] (by kernel_rfl) fun jj hjj w5 hb5=>?_;obtain rfl:=mS.1 hjj;have hb5M:=Hd (za hbM.out hb5);have kM:=Hd (kM.out.below hb5 kM.out.lt);refine ⟨_,rfl,rfl,zy (ops:=#[]) (K:=fun a' w'=>(∀ w2,Below w'.heap.size w' w2 -> Below w8.heap.size w8 w2) /\ mkG Tryz.prog _ _ (fun w1=>Below w8.heap.size w8 w1) _ 5 [8,9,10,11,13] a' w') rfl fun Q' hQ=>?_⟩;simp only [gX,gQ,gZ];have hQ:=Hd hQ;go_wp2_with fail;refine (znR c (.slice vA ps.length vm) ps (kd : Int) _ w5 (hp8.out.stays (zo.of hb5M.out)) (by omega) hp0).mono ?_;rintro e w4C ⟨ov,rfl,hown,hb0⟩;obtain ⟨oA,om,rfl⟩:=hown.form_;have hv:=Hd (zaD.parts hown);have hbC:=Hd (za hb5M.out hb0);have kM:=Hd (kM.out.below hb0 kM.out.lt);clear hown hb0;go_wp2;refine hQ.out _ _ rfl ⟨fun w3 h3=>za hbC.out h3,?_⟩;clear hQ;have hbM:=hbC;refine zB [8] (by kernel_rfl) fun jj hjj w7 hb7=>?_;obtain rfl:=mS.1 hjj;have hb7D:=Hd (za hbM.out hb7);have kM:=Hd (kM.out.below hb7 kM.out.lt);refine ⟨_,rfl,rfl,zy (ops:=#[]) (K:=fun a' w'=>(∀ w2,Below w'.heap.size w' w2 -> Below w8.heap.size w8 w2) /\ mkG Tryz.prog _ _ (fun w1=>Below w8.heap.size w8 w1) _ 4 [9,10,11,13] a' w') rfl fun Q' hQ=>?_⟩;simp only [gX,gQ,gZ];have hQ:=Hd hQ;go_wp2_with fail;refine (hPT.out _ w7 (hr8.out.stays (zo.of hb7D.out)) (hv.out.stays (zo.of hb7)) (htab'.out.below (hb8.out.trans (hb7D.out.mono hb8.out.size)))).mono ?_;rintro e w5C ⟨⟨X,Y,eA,en,ec,er,hcs,rfl⟩,hb0⟩;have hbD:=Hd (za hb7D.out hb0);have hcs:=Hd hcs;have kM:=Hd (kM.out.below hb0 kM.out.lt);clear hb0;go_wp2;refine hQ.out _ _ rfl ⟨fun w3 h3=>za hbD.out h3,?_⟩;clear hQ;refine zag [9,10,11,13] (.tuple #[.agg #[.int .i64 X,.int .i64 Y,.slice eA en ec],.int .i64 er]) (by kernel_rfl) rfl (i:=9) rfl rfl (fun _ _=>rfl) (fun w2 h2=>za hbD.out h2) ?_;simp only [gX,gQ,gZ,Act.put,sX,sS,sZ];refine zag [10,11,13] (.agg #[.int .i64 X,.int .i64 Y,.slice eA en ec]) (by kernel_rfl) rfl (i:=10) rfl rfl (fun _ _=>rfl) (fun w2 h2=>za hbD.out h2) ?_;simp only [gX,gQ,gZ,Act.put,sX,sS,sZ];refine zag [11,13] (.int .i64 er) (by kernel_rfl) rfl (i:=11) rfl rfl (fun _ _=>rfl) (fun w2 h2=>za hbD.out h2) ?_;simp only [gX,gQ,gZ,Act.put,sX,sS,sZ];refine zB [13] (by kernel_rfl) fun jj hjj w6 hb6=>?_;obtain rfl:=mS.1 hjj;refine ⟨_,rfl,rfl,zy (ops:=#[]) (K:=fun a' w'=>(∀ w2,Below w'.heap.size w' w2 -> Below w8.heap.size w8 w2) /\ mkG Tryz.prog _ _ (fun w1=>Below w8.heap.size w8 w1) _ 0 [] a' w') rfl fun Q' hQ=>?_⟩;simp only [gX,gQ,gZ]
       have hQ:=Hd hQ;have kG:=Hd (kM.out.below hb6 kM.out.lt);have kS:=Hd (kG.out.setRow_ #[.int .i64 X,.int .i64 Y,.slice eA en ec]);have hbS:=Hd (Below.setRow_ (za hbD.out hb6) hNW #[.int .i64 X,.int .i64 Y,.slice eA en ec]);refine wpList_store_rowTo rfl 43 _ _ rfl rfl NM #[.int .i64 X,.int .i64 Y,.slice eA en ec] rfl rfl 43 _ kG.out (by kernel_rfl) rfl (by kernel_rfl) ?_;refine hQ.out _ _ rfl ⟨fun w3 h3=>za hbS.out h3,?_⟩;clear hQ;refine zaM rfl ?_;intro w9 hb9;have hfin:=Hd (show _ /\ _ /\ _ from ⟨hcs.out,kS.out.below hb9 kS.out.lt,za hbS.out hb9⟩);clear kG kS hbS hb9 hb6;go_wp2;go_meet
       case rel=>exact ⟨NM,X,Y,eA,en,ec,er,rfl,rfl,hfin⟩
     case rest=>
     obtain ⟨NM,X,Y,eA,en,ec,er,rfl,rfl,h9⟩:=hcut;rename World=>w9;have hcs:=Hd h9.out.1;have kM:=Hd h9.out.2.1;have hb9:=Hd (hb8.out.trans (h9.out.2.2.mono hb8.out.size));clear h9 hb8 kF8 kP8 kR8 hr8 hp8 hPT hED hby8;have m1:=kM.out.cell 1;have lM:=kM.out.lt;simp at m1;by_cases h10 : kd = 10
     ·obtain ⟨rfl,rfl⟩:=hcs.out.1 h10
      have e1 : ((kd : Int) == 10) = true:=by simp [h10]
      go_wp2_with fail;refine (zbq w9 (htab'.out.below hb9.out)).mono ?_;rintro e wz ⟨rfl,hbz⟩;go_wp2;go_ret;exact ⟨rfl,hb9.out.trans (hbz.mono hb9.out.size)⟩
     ·have e1 : ((kd : Int) == 10) = false:=by simp; omega
      rcases hcs.out.2 h10 with rfl | ⟨rfl,rfl,hs4,hsl⟩
      ·clear h10
       go_wp2_with fail;refine (zbq _ (htab'.out.below hb9.out)).mono ?_;rintro e wz ⟨rfl,hbz⟩;go_wp2;go_ret;exact ⟨rfl,hb9.out.trans (hbz.mono hb9.out.size)⟩
      ·have n4 : ¬ (s.size : Int) < 4:=by omega
       have hsl' : (1 : Int) <= zcD (s.size : Int):=hsl;clear h10 hs4 hsl;go_wp2_with fail;refine (znH (s.size : Int) w9).mono ?_;rintro e _ ⟨rfl,rfl⟩;generalize zcD (s.size : Int) = sl at *;go_wp2_with fail;refine (zbq _ (htab'.out.below hb9.out)).mono ?_;rintro e wz ⟨rfl,hbz⟩;go_wp2;go_ret;exact ⟨rfl,hb9.out.trans (hbz.mono hb9.out.size)⟩
end
end Go.Proofs.YtggimnndflkjkaaGreatDoor
