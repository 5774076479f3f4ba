import Derived.Test.YtggimnndflkjkaaGreatDoorR01
import Derived.Test.YtggimnndflkjkaaGreatDoorR08
set_option linter.all false
set_option maxRecDepth 100000
set_option maxHeartbeats 0
namespace Go.Proofs.YtggimnndflkjkaaGreatDoor
section
open Go.RowKit
def zlF (pre name suffix : ByteArray) : Nat -> ByteArray
 | 0=>⟨#[]⟩
 | 1=>zfn ⟨#[]⟩ pre
 | 2=>zfn (zfn ⟨#[]⟩ pre) name
 | _=>zad pre name suffix
theorem zeu (t w : ByteArray) : (zfn t w).size <= t.size + w.size + 1:=by
 unfold zfn
 split
 ·rw [ByteArray.size_append,ByteArray.size_append]
  have : zdc.size = 1:=rfl;omega
 ·rw [ByteArray.size_append]; omega
theorem zox (a b c : ByteArray) (W : World) : Sem.run Tryz.prog (Instr.index 164 (.agg #[.string a,.string b,.string c]) (.int .i64 0)) W = .ok (.string a) W:=by kernel_rfl
theorem zoy (a b c : ByteArray) (W : World) : Sem.run Tryz.prog (Instr.index 164 (.agg #[.string a,.string b,.string c]) (.int .i64 1)) W = .ok (.string b) W:=by kernel_rfl
theorem zoz (a b c : ByteArray) (W : World) : Sem.run Tryz.prog (Instr.index 164 (.agg #[.string a,.string b,.string c]) (.int .i64 2)) W = .ok (.string c) W:=by kernel_rfl
theorem zeq (id town : Int) (pre name suffix : ByteArray) (cv : Value) (w : World) (h1 : pre.size <= 1000) (h2 : name.size <= 1000) (h3 : suffix.size <= 1000) (hcv : ∃ A n c,cv = .slice A n c) :
  Calls Tryz.prog 53 #[.agg #[.int .i64 id,.int .i64 town,.string pre,.string name,.string suffix,cv]] w fun e w'=>e = .returned (.string (zad pre name suffix)) /\ Below w.heap.size w w':=by
 obtain ⟨A,n0,c0,rfl⟩:=hcv;have hb : Below w.heap.size w (w.alloc (.cells #[.int .i64 id,.int .i64 town,.string pre,.string name,.string suffix,.slice A n0 c0] 83)):=(Below.refl _ _).alloc (lQ _) _;go_enter Tryz.func53,Tryz.ntmps53;go_wp2
 go_loop [3,13] (fun tv iv=>∃ (k : Nat) (i : Int) (tx : ByteArray),i = k /\ k <= 3 /\ iv = .int .i64 i /\ tv = .string tx /\ Hid (tx = zlF pre name suffix k) /\ tx.size <= 3 * 1001 * k) (fun _ iv=>3 - (intOf iv).toNat)
 case atStart=>exact ⟨0,0,_,rfl,by omega,rfl,rfl,Hd rfl,lQ _⟩
 case round=>
  obtain ⟨k,i,tx,hik,hk,rfl,rfl,htx,hsz0⟩:=hrel;obtain rfl | rfl | rfl | rfl : k = 0 \/ k = 1 \/ k = 2 \/ k = 3:=by omega
  ·obtain rfl : i = 0:=by omega
   have hix:=zox pre name suffix;have hn : Hid (zlF pre name suffix 1 = zfn tx pre):=Hd (by rw [htx.out]; rfl);have hj:=Hd (zeu tx pre);clear hik hk;by_cases a0 : tx.size = 0
   ·have q1 : tx.toList.isEmpty = true:=by rw [zaL]; exact decide_eq_true a0
    have hw : Hid (tx ++ pre = zlF pre name suffix 1):=Hd (by rw [hn.out,zfn,if_neg (by omega)]);have hsz:=Hd (show (tx ++ pre).size <= 3 * 1001 * 1 from by rw [ByteArray.size_append]; omega);go_wp2
    go_round
    case rel=>exact ⟨1,1,tx ++ pre,rfl,by omega,by go_num,rfl,hw,hsz.out⟩
    case measure=>simp [intOf]
   ·exact absurd hsz0 (by omega)
  ·obtain rfl : i = 1:=by omega
   have hix:=zoy pre name suffix;have hn : Hid (zlF pre name suffix 2 = zfn tx name):=Hd (by rw [htx.out]; rfl);have hj:=Hd (zeu tx name);clear hik hk;by_cases a0 : tx.size = 0
   ·have q1 : tx.toList.isEmpty = true:=by rw [zaL]; exact decide_eq_true a0
    have hw : Hid (tx ++ name = zlF pre name suffix 2):=Hd (by rw [hn.out,zfn,if_neg (by omega)]);have hsz:=Hd (show (tx ++ name).size <= 3 * 1001 * 2 from by rw [ByteArray.size_append]; omega);go_wp2
    go_round
    case rel=>exact ⟨2,2,tx ++ name,rfl,by omega,by go_num,rfl,hw,hsz.out⟩
    case measure=>simp [intOf]
   ·have q1 : tx.toList.isEmpty = false:=by rw [zaL]; exact decide_eq_false a0
    by_cases b0 : name.size = 0
    ·have q2 : name.toList.isEmpty = true:=by rw [zaL]; exact decide_eq_true b0
     have hw : Hid (tx ++ name = zlF pre name suffix 2):=Hd (by rw [hn.out,zfn,if_neg (by omega)]);have hsz:=Hd (show (tx ++ name).size <= 3 * 1001 * 2 from by rw [ByteArray.size_append]; omega);go_wp2
     go_round
     case rel=>exact ⟨2,2,tx ++ name,rfl,by omega,by go_num,rfl,hw,hsz.out⟩
     case measure=>simp [intOf]
    ·have q2 : name.toList.isEmpty = false:=by rw [zaL]; exact decide_eq_false b0
     have hw : Hid (tx ++ ⟨#[32]⟩ ++ name = zlF pre name suffix 2):=Hd (by rw [hn.out,zfn,if_pos ⟨a0,b0⟩]; rfl);have hb1 : (tx ++ ⟨#[32]⟩).size = tx.size + 1:=by rw [ByteArray.size_append]; rfl
     have hsz:=Hd (show (tx ++ ⟨#[32]⟩ ++ name).size <= 3 * 1001 * 2 from by rw [ByteArray.size_append,hb1]; omega);go_wp2
     go_round
     case rel=>exact ⟨2,2,tx ++ ⟨#[32]⟩ ++ name,rfl,by omega,by go_num,rfl,hw,hsz.out⟩
     case measure=>simp [intOf]
  ·obtain rfl : i = 2:=by omega
   have hix:=zoz pre name suffix;have hn : Hid (zlF pre name suffix 3 = zfn tx suffix):=Hd (by rw [htx.out]; rfl);have hj:=Hd (zeu tx suffix);clear hik hk;by_cases a0 : tx.size = 0
   ·have q1 : tx.toList.isEmpty = true:=by rw [zaL]; exact decide_eq_true a0
    have hw : Hid (tx ++ suffix = zlF pre name suffix 3):=Hd (by rw [hn.out,zfn,if_neg (by omega)]);have hsz:=Hd (show (tx ++ suffix).size <= 3 * 1001 * 3 from by rw [ByteArray.size_append]; omega);go_wp2
    go_round
    case rel=>exact ⟨3,3,tx ++ suffix,rfl,by omega,by go_num,rfl,hw,hsz.out⟩
    case measure=>simp [intOf]
   ·have q1 : tx.toList.isEmpty = false:=by rw [zaL]; exact decide_eq_false a0
    by_cases b0 : suffix.size = 0
    ·have q2 : suffix.toList.isEmpty = true:=by rw [zaL]; exact decide_eq_true b0
     have hw : Hid (tx ++ suffix = zlF pre name suffix 3):=Hd (by rw [hn.out,zfn,if_neg (by omega)]);have hsz:=Hd (show (tx ++ suffix).size <= 3 * 1001 * 3 from by rw [ByteArray.size_append]; omega);go_wp2
     go_round
     case rel=>exact ⟨3,3,tx ++ suffix,rfl,by omega,by go_num,rfl,hw,hsz.out⟩
     case measure=>simp [intOf]
    ·have q2 : suffix.toList.isEmpty = false:=by rw [zaL]; exact decide_eq_false b0
     have hw : Hid (tx ++ ⟨#[32]⟩ ++ suffix = zlF pre name suffix 3):=Hd (by rw [hn.out,zfn,if_pos ⟨a0,b0⟩]; rfl);have hb1 : (tx ++ ⟨#[32]⟩).size = tx.size + 1:=by rw [ByteArray.size_append]; rfl
     have hsz:=Hd (show (tx ++ ⟨#[32]⟩ ++ suffix).size <= 3 * 1001 * 3 from by rw [ByteArray.size_append,hb1]; omega);go_wp2
     go_round
     case rel=>exact ⟨3,3,tx ++ ⟨#[32]⟩ ++ suffix,rfl,by omega,by go_num,rfl,hw,hsz.out⟩
     case measure=>simp [intOf]
  ·obtain rfl : i = 3:=by omega
   clear hik hk;go_wp2;go_ret;exact ⟨by rw [htx.out]; rfl,hb⟩
theorem zrl (t : zJ) (cv : Value) (w : World) (h1 : t.name.size <= 1000) (h2 : t.region.size <= 1000) (hcv : ∃ A n c,cv = .slice A n c) :
  Calls Tryz.prog 115 #[.agg (zcB t cv)] w fun e w'=>e = .returned (.string t.text) /\ Below w.heap.size w w':=by
 obtain ⟨A,n0,c0,rfl⟩:=hcv;obtain ⟨id,country,name,region,codes⟩:=t;have hb : Below w.heap.size w (w.alloc (.cells (zcB ⟨id,country,name,region,codes⟩ (.slice A n0 c0)) 79)):=(Below.refl _ _).alloc (lQ _) _;have hd : Hid (zJ.text ⟨id,country,name,region,codes⟩ = if region.size = 0 then name else name ++ ⟨#[32]⟩ ++ region):=Hd rfl;simp only at h1 h2;unfold zcB at *;by_cases h0 : region.size = 0
 ·have q1 : region.toList.isEmpty = true:=by rw [zaL]; exact decide_eq_true h0
  rw [if_pos h0] at hd;clear h0;go_enter Tryz.func115,Tryz.ntmps115;go_wp2;go_ret;exact ⟨by rw [hd.out]; rfl,hb⟩
 ·have q1 : region.toList.isEmpty = false:=by rw [zaL]; exact decide_eq_false h0
  have hb1 : (name ++ ⟨#[32]⟩).size = name.size + 1:=by rw [ByteArray.size_append]; rfl
  rw [if_neg h0] at hd;clear h0;go_enter Tryz.func115,Tryz.ntmps115;go_wp2;go_ret;exact ⟨by rw [hd.out]; rfl,hb⟩
end
section
open Go.RowKit
def zA {α : Type} (z : α) (p : α -> Bool) : List α -> α × Bool
 | []=>(z,false)
 | x :: t=>if p x then (x,true) else zA z p t
theorem zeG {α : Type} (z : α) {p : α -> Bool} {x : α} (t : List α) (h : p x = true) : zA z p (x :: t) = (x,true):=by rw [zA,if_pos h]
theorem zdQ {α : Type} (z : α) {p : α -> Bool} {x : α} (t : List α) (h : p x = false) : zA z p (x :: t) = zA z p t:=by rw [zA,if_neg (by rw [h]; exact Bool.false_ne_true)]
theorem zsB (g1 : Nat) (p : zJ -> Bool) (v : Value) (l : List zJ) (w : World) (hv : zfH w v l) (hp : ∀ (W : World) (x : zJ) (cv : Value),Below w.heap.size w W -> x ∈ l -> zan W cv x.codes -> Calls Tryz.prog 42 #[.agg (zcB x cv),.pointer (some ⟨g1,0,none⟩)] W fun e w'=>e = .returned (.bool (p x)) /\ Below W.heap.size W w') :
  Calls Tryz.prog 41 #[v,.func (.func 42) #[] #[.pointer (some ⟨g1,0,none⟩)]] w fun e w'=>∃ cv : Value,e = .returned (.tuple #[.agg (zcB (zA zJ.zero p l).1 cv),.bool (zA zJ.zero p l).2]) /\ zan w' cv (zA zJ.zero p l).1.codes /\ Below w.heap.size w w':=by
 obtain ⟨A,c,rfl,hn,hc,hA⟩:=hv;unfold maxLen at hc;have hA':=Hd hA;have hp':=Hd hp;clear hA hp;have kR:=Hd (Blk.new w 79 #[.int .i64 0,.int .u8 0,.string ⟨#[]⟩,.string ⟨#[]⟩,.slice none 0 0]);have hb0 : Below w.heap.size w (w.alloc (.cells #[.int .i64 0,.int .u8 0,.string ⟨#[]⟩,.string ⟨#[]⟩,.slice none 0 0] 79)):=(Below.refl _ _).alloc (lQ _) _;have hz0:=Hd (show w.heap.size < (w.alloc (.cells #[.int .i64 0,.int .u8 0,.string ⟨#[]⟩,.string ⟨#[]⟩,.slice none 0 0] 79)).heap.size from by simp);go_enter Tryz.func41,Tryz.ntmps41;go_wp2;generalize w.alloc (.cells #[.int .i64 0,.int .u8 0,.string ⟨#[]⟩,.string ⟨#[]⟩,.slice none 0 0] 79) = W0 at *
 go_loopw [11] (fun iv wr=>∃ k : Nat,k <= l.length /\ iv = .int .i64 k /\ Below w.heap.size w wr /\ Hid (Blk wr w.heap.size 79 #[.int .i64 0,.int .u8 0,.string ⟨#[]⟩,.string ⟨#[]⟩,.slice none 0 0]) /\ Hid (zA zJ.zero p l = zA zJ.zero p (l.drop k))) (fun iv _=>l.length - (intOf iv).toNat)
 case atStart=>exact ⟨0,by omega,rfl,hb0,kR,Hd rfl⟩
 case round=>
  obtain ⟨k,hk,rfl,hbw,hkR,hfo⟩:=hrel;rename World=>wr;have n0 : (0 : Int) <= (k : Int):=by omega
  have hs0:=hbw.size;by_cases hlt : k < l.length
  ·have n1 : (k : Int) < (l.length : Int):=by omega
   obtain ⟨b,off,rfl,hb,hi⟩:=hA'.out (by omega);obtain ⟨cv,hx⟩:=hi k hlt;have hmem:=Hd (show l.getD k zJ.zero ∈ l from by rw [zD _ _ _ hlt]; exact List.getElem_mem hlt);have hdr:=Hd (zaI l zJ.zero k hlt);clear hi;generalize l.getD k zJ.zero = x at *;have hx2:=hx.stays (zo.of hbw) hb;have hup : Below wr.heap.size wr (wr.alloc (.cells (zcB x cv) 79)):=(Below.refl _ _).alloc (lQ _) _;have hend:=hbw.trans (hup.mono hs0);have hcon:=Hd (hp'.out _ x cv hend hmem.out (hx2.tx.stays (zo.of hup)));have hj:=Hd (Blk.new wr 79 (zcB x cv));have htx:=Hd hx.tx;obtain ⟨Ac,cc,hcv,-,-,-⟩:=hx2.tx;have c0:=hx2.c0;have c1:=hx2.c1;have c2:=hx2.c2;have c3:=hx2.c3;have c4:=hx2.c4;clear hx hx2;unfold zcB at hcon hj hup hend;subst hcv;go_wp2_with fail;refine hcon.out.mono ?_;rintro e w2 ⟨rfl,hb2⟩;have hw2 : Below wr.heap.size wr w2:=hup.trans (hb2.mono hup.size);have hend2:=hbw.trans (hw2.mono hs0);have kx:=hj.out.below hb2 (by simp);have kr:=hkR.out.below hw2 hkR.out.lt;have z0:=kx.cell 0;have z1:=kx.cell 1;have z2:=kx.cell 2;have z3:=kx.cell 3;have z4:=kx.cell 4;have y0:=kr.cell 0;have f0:=kr.frozen 0;have y1:=kr.cell 1;have f1:=kr.frozen 1;have y2:=kr.cell 2;have f2:=kr.frozen 2;have y3:=kr.cell 3;have f3:=kr.frozen 3;have y4:=kr.cell 4;have f4:=kr.frozen 4;have lx:=kx.lt;have lr:=kr.lt;simp at z0 y0 z1 y1 z2 y2 z3 y3 z4 y4;clear hcon hb2 hup hj c0 c1 c2 c3 c4
   cases hpx : p x with
   | true=>
    have hfin : Hid (zA zJ.zero p l = (x,true)):=Hd (by rw [hfo.out,hdr.out,zeG _ _ hpx]);clear hpx;go_wp2;refine bodyPost_ret (zk (P:=Tryz.prog) Tryz.results41 _ _ _ _ _ _ rfl (((((kr.set_ 0 _).set_ 1 _).set_ 2 _).set_ 3 _).set_ 4 _) Tryz.underlying79 rfl (by kernel_rfl)) rfl ?_;rw [hfin.out];exact ⟨_,rfl,htx.out.stays (zo.of (((((hend2.setCell (by simp) _).setCell (by simp) _).setCell (by simp) _).setCell (by simp) _).setCell (by simp) _)),(((((hend2.setCell (by simp) _).setCell (by simp) _).setCell (by simp) _).setCell (by simp) _).setCell (by simp) _)⟩
   | false=>
    have hfo' : Hid (zA zJ.zero p l = zA zJ.zero p (l.drop (k + 1))):=Hd (by rw [hfo.out,hdr.out,zdQ _ _ hpx]);have kr':=Hd kr;clear hpx z0 y0 f0 z1 y1 f1 z2 y2 f2 z3 y3 f3 z4 y4 f4 kx kr lx lr;go_wp2;go_roundw
    case rel=>exact ⟨k + 1,by omega,by go_num,hend2,kr',hfo'⟩
    case measure=>simp [intOf]; omega
  ·obtain rfl : k = l.length:=by omega
   have hfin : Hid (zA zJ.zero p l = (zJ.zero,false)):=Hd (by rw [hfo.out,List.drop_length]; rfl);have y0:=hkR.out.cell 0;have f0:=hkR.out.frozen 0;have y1:=hkR.out.cell 1;have f1:=hkR.out.frozen 1;have y2:=hkR.out.cell 2;have f2:=hkR.out.frozen 2;have y3:=hkR.out.cell 3;have f3:=hkR.out.frozen 3;have y4:=hkR.out.cell 4;have f4:=hkR.out.frozen 4;have lr:=hkR.out.lt;simp at y0 y1 y2 y3 y4;go_wp2;refine bodyPost_ret (zk (P:=Tryz.prog) Tryz.results41 _ _ _ _ _ _ rfl ((((((hkR.out.set_ 0 _).set_ 1 _).set_ 2 _).set_ 3 _).set_ 4 _).alloc _) Tryz.underlying79 rfl (by kernel_rfl)) rfl ?_;rw [hfin.out];exact ⟨.slice none 0 0,rfl,⟨none,0,rfl,lQ _,Nat.zero_le _,fun h=>absurd h (by decide)⟩,((((((hbw.setCell (by simp) _).setCell (by simp) _).setCell (by simp) _).setCell (by simp) _).setCell (by simp) _).alloc (by simp [World.setCell]; omega) _)⟩
theorem zoq (g1 : Nat) (p : zz -> Bool) (v : Value) (l : List zz) (w : World) (hv : zft w v l) (hp : ∀ (W : World) (x : zz) (cv : Value),Below w.heap.size w W -> x ∈ l -> zan W cv x.others -> Calls Tryz.prog 45 #[.agg (zcj x cv),.pointer (some ⟨g1,0,none⟩)] W fun e w'=>e = .returned (.bool (p x)) /\ Below W.heap.size W w') :
  Calls Tryz.prog 44 #[v,.func (.func 45) #[] #[.pointer (some ⟨g1,0,none⟩)]] w fun e w'=>∃ cv : Value,e = .returned (.tuple #[.agg (zcj (zA zz.zero p l).1 cv),.bool (zA zz.zero p l).2]) /\ zan w' cv (zA zz.zero p l).1.others /\ Below w.heap.size w w':=by
 obtain ⟨A,c,rfl,hn,hc,hA⟩:=hv;unfold maxLen at hc;have hA':=Hd hA;have hp':=Hd hp;clear hA hp;have kR:=Hd (Blk.new w 83 #[.int .i64 0,.int .i64 0,.string ⟨#[]⟩,.string ⟨#[]⟩,.string ⟨#[]⟩,.slice none 0 0]);have hb0 : Below w.heap.size w (w.alloc (.cells #[.int .i64 0,.int .i64 0,.string ⟨#[]⟩,.string ⟨#[]⟩,.string ⟨#[]⟩,.slice none 0 0] 83)):=(Below.refl _ _).alloc (lQ _) _;have hz0:=Hd (show w.heap.size < (w.alloc (.cells #[.int .i64 0,.int .i64 0,.string ⟨#[]⟩,.string ⟨#[]⟩,.string ⟨#[]⟩,.slice none 0 0] 83)).heap.size from by simp);go_enter Tryz.func44,Tryz.ntmps44;go_wp2;generalize w.alloc (.cells #[.int .i64 0,.int .i64 0,.string ⟨#[]⟩,.string ⟨#[]⟩,.string ⟨#[]⟩,.slice none 0 0] 83) = W0 at *
 go_loopw [11] (fun iv wr=>∃ k : Nat,k <= l.length /\ iv = .int .i64 k /\ Below w.heap.size w wr /\ Hid (Blk wr w.heap.size 83 #[.int .i64 0,.int .i64 0,.string ⟨#[]⟩,.string ⟨#[]⟩,.string ⟨#[]⟩,.slice none 0 0]) /\ Hid (zA zz.zero p l = zA zz.zero p (l.drop k))) (fun iv _=>l.length - (intOf iv).toNat)
 case atStart=>exact ⟨0,by omega,rfl,hb0,kR,Hd rfl⟩
 case round=>
  obtain ⟨k,hk,rfl,hbw,hkR,hfo⟩:=hrel;rename World=>wr;have n0 : (0 : Int) <= (k : Int):=by omega
  have hs0:=hbw.size;by_cases hlt : k < l.length
  ·have n1 : (k : Int) < (l.length : Int):=by omega
   obtain ⟨b,off,rfl,hb,hi⟩:=hA'.out (by omega);obtain ⟨cv,hx⟩:=hi k hlt;have hmem:=Hd (show l.getD k zz.zero ∈ l from by rw [zD _ _ _ hlt]; exact List.getElem_mem hlt);have hdr:=Hd (zaI l zz.zero k hlt);clear hi;generalize l.getD k zz.zero = x at *;have hx2:=hx.stays (zo.of hbw) hb;have hup : Below wr.heap.size wr (wr.alloc (.cells (zcj x cv) 83)):=(Below.refl _ _).alloc (lQ _) _;have hend:=hbw.trans (hup.mono hs0);have hcon:=Hd (hp'.out _ x cv hend hmem.out (hx2.tx.stays (zo.of hup)));have hj:=Hd (Blk.new wr 83 (zcj x cv));have htx:=Hd hx.tx;obtain ⟨Ac,cc,hcv,-,-,-⟩:=hx2.tx;have c0:=hx2.c0;have c1:=hx2.c1;have c2:=hx2.c2;have c3:=hx2.c3;have c4:=hx2.c4;have c5:=hx2.c5;clear hx hx2;unfold zcj at hcon hj hup hend;subst hcv;go_wp2_with fail;refine hcon.out.mono ?_;rintro e w2 ⟨rfl,hb2⟩;have hw2 : Below wr.heap.size wr w2:=hup.trans (hb2.mono hup.size);have hend2:=hbw.trans (hw2.mono hs0);have kx:=hj.out.below hb2 (by simp);have kr:=hkR.out.below hw2 hkR.out.lt;have z0:=kx.cell 0;have z1:=kx.cell 1;have z2:=kx.cell 2;have z3:=kx.cell 3;have z4:=kx.cell 4;have z5:=kx.cell 5;have y0:=kr.cell 0;have f0:=kr.frozen 0;have y1:=kr.cell 1;have f1:=kr.frozen 1;have y2:=kr.cell 2;have f2:=kr.frozen 2;have y3:=kr.cell 3;have f3:=kr.frozen 3;have y4:=kr.cell 4;have f4:=kr.frozen 4;have y5:=kr.cell 5;have f5:=kr.frozen 5;have lx:=kx.lt;have lr:=kr.lt;simp at z0 y0 z1 y1 z2 y2 z3 y3 z4 y4 z5 y5;clear hcon hb2 hup hj c0 c1 c2 c3 c4 c5
   cases hpx : p x with
   | true=>
    have hfin : Hid (zA zz.zero p l = (x,true)):=Hd (by rw [hfo.out,hdr.out,zeG _ _ hpx]);clear hpx;go_wp2;refine bodyPost_ret (zk (P:=Tryz.prog) Tryz.results44 _ _ _ _ _ _ rfl ((((((kr.set_ 0 _).set_ 1 _).set_ 2 _).set_ 3 _).set_ 4 _).set_ 5 _) Tryz.underlying83 rfl (by kernel_rfl)) rfl ?_;rw [hfin.out];exact ⟨_,rfl,htx.out.stays (zo.of ((((((hend2.setCell (by simp) _).setCell (by simp) _).setCell (by simp) _).setCell (by simp) _).setCell (by simp) _).setCell (by simp) _)),((((((hend2.setCell (by simp) _).setCell (by simp) _).setCell (by simp) _).setCell (by simp) _).setCell (by simp) _).setCell (by simp) _)⟩
   | false=>
    have hfo' : Hid (zA zz.zero p l = zA zz.zero p (l.drop (k + 1))):=Hd (by rw [hfo.out,hdr.out,zdQ _ _ hpx]);have kr':=Hd kr;clear hpx z0 y0 f0 z1 y1 f1 z2 y2 f2 z3 y3 f3 z4 y4 f4 z5 y5 f5 kx kr lx lr;go_wp2;go_roundw
    case rel=>exact ⟨k + 1,by omega,by go_num,hend2,kr',hfo'⟩
    case measure=>simp [intOf]; omega
  ·obtain rfl : k = l.length:=by omega
   have hfin : Hid (zA zz.zero p l = (zz.zero,false)):=Hd (by rw [hfo.out,List.drop_length]; rfl);have y0:=hkR.out.cell 0;have f0:=hkR.out.frozen 0;have y1:=hkR.out.cell 1;have f1:=hkR.out.frozen 1;have y2:=hkR.out.cell 2;have f2:=hkR.out.frozen 2;have y3:=hkR.out.cell 3;have f3:=hkR.out.frozen 3;have y4:=hkR.out.cell 4;have f4:=hkR.out.frozen 4;have y5:=hkR.out.cell 5;have f5:=hkR.out.frozen 5;have lr:=hkR.out.lt;simp at y0 y1 y2 y3 y4 y5;go_wp2;refine bodyPost_ret (zk (P:=Tryz.prog) Tryz.results44 _ _ _ _ _ _ rfl (((((((hkR.out.set_ 0 _).set_ 1 _).set_ 2 _).set_ 3 _).set_ 4 _).set_ 5 _).alloc _) Tryz.underlying83 rfl (by kernel_rfl)) rfl ?_;rw [hfin.out];exact ⟨.slice none 0 0,rfl,⟨none,0,rfl,lQ _,Nat.zero_le _,fun h=>absurd h (by decide)⟩,(((((((hbw.setCell (by simp) _).setCell (by simp) _).setCell (by simp) _).setCell (by simp) _).setCell (by simp) _).setCell (by simp) _).alloc (by simp [World.setCell]; omega) _)⟩
theorem zqi (g1 : Nat) (p : zh -> Bool) (v : Value) (l : List zh) (w : World) (hv : zfG w v l) (hp : ∀ (W : World) (x : zh),Below w.heap.size w W -> x ∈ l -> Calls Tryz.prog 51 #[.agg (zaz x),.pointer (some ⟨g1,0,none⟩)] W fun e w'=>e = .returned (.bool (p x)) /\ Below W.heap.size W w') :
  Calls Tryz.prog 50 #[v,.func (.func 51) #[] #[.pointer (some ⟨g1,0,none⟩)]] w fun e w'=>e = .returned (.tuple #[.agg (zaz (zA zh.zero p l).1),.bool (zA zh.zero p l).2]) /\ Below w.heap.size w w':=by
 obtain ⟨A,c,rfl,hn,hc,hA⟩:=hv;unfold maxLen at hc;have hA':=Hd hA;have hp':=Hd hp;clear hA hp;have kR:=Hd (Blk.new w 33 #[.int .i64 0,.int .i64 0,.int .i64 0,.int .i64 0,.string ⟨#[]⟩,.string ⟨#[]⟩,.int .i64 0,.int .i64 0]);have hb0 : Below w.heap.size w (w.alloc (.cells #[.int .i64 0,.int .i64 0,.int .i64 0,.int .i64 0,.string ⟨#[]⟩,.string ⟨#[]⟩,.int .i64 0,.int .i64 0] 33)):=(Below.refl _ _).alloc (lQ _) _;have hz0:=Hd (show w.heap.size < (w.alloc (.cells #[.int .i64 0,.int .i64 0,.int .i64 0,.int .i64 0,.string ⟨#[]⟩,.string ⟨#[]⟩,.int .i64 0,.int .i64 0] 33)).heap.size from by simp);go_enter Tryz.func50,Tryz.ntmps50;go_wp2;generalize w.alloc (.cells #[.int .i64 0,.int .i64 0,.int .i64 0,.int .i64 0,.string ⟨#[]⟩,.string ⟨#[]⟩,.int .i64 0,.int .i64 0] 33) = W0 at *
 go_loopw [11] (fun iv wr=>∃ k : Nat,k <= l.length /\ iv = .int .i64 k /\ Below w.heap.size w wr /\ Hid (Blk wr w.heap.size 33 #[.int .i64 0,.int .i64 0,.int .i64 0,.int .i64 0,.string ⟨#[]⟩,.string ⟨#[]⟩,.int .i64 0,.int .i64 0]) /\ Hid (zA zh.zero p l = zA zh.zero p (l.drop k))) (fun iv _=>l.length - (intOf iv).toNat)
 case atStart=>exact ⟨0,by omega,rfl,hb0,kR,Hd rfl⟩
 case round=>
  obtain ⟨k,hk,rfl,hbw,hkR,hfo⟩:=hrel;rename World=>wr;have n0 : (0 : Int) <= (k : Int):=by omega
  have hs0:=hbw.size;by_cases hlt : k < l.length
  ·have n1 : (k : Int) < (l.length : Int):=by omega
   obtain ⟨b,off,rfl,hb,hi⟩:=hA'.out (by omega);have hx:=hi k hlt;have hmem:=Hd (show l.getD k zh.zero ∈ l from by rw [zD _ _ _ hlt]; exact List.getElem_mem hlt);have hdr:=Hd (zaI l zh.zero k hlt);clear hi;generalize l.getD k zh.zero = x at *;have hx2:=hx.stays (zo.of hbw) hb;have hup : Below wr.heap.size wr (wr.alloc (.cells (zaz x) 33)):=(Below.refl _ _).alloc (lQ _) _;have hend:=hbw.trans (hup.mono hs0);have hcon:=Hd (hp'.out _ x hend hmem.out);have hj:=Hd (Blk.new wr 33 (zaz x));have c0:=hx2.c0;have c1:=hx2.c1;have c2:=hx2.c2;have c3:=hx2.c3;have c4:=hx2.c4;have c5:=hx2.c5;have c6:=hx2.c6;have c7:=hx2.c7;clear hx hx2;unfold zaz at hcon hj hup hend;go_wp2_with fail;refine hcon.out.mono ?_;rintro e w2 ⟨rfl,hb2⟩;have hw2 : Below wr.heap.size wr w2:=hup.trans (hb2.mono hup.size);have hend2:=hbw.trans (hw2.mono hs0);have kx:=hj.out.below hb2 (by simp);have kr:=hkR.out.below hw2 hkR.out.lt;have z0:=kx.cell 0;have z1:=kx.cell 1;have z2:=kx.cell 2;have z3:=kx.cell 3;have z4:=kx.cell 4;have z5:=kx.cell 5;have z6:=kx.cell 6;have z7:=kx.cell 7;have y0:=kr.cell 0;have f0:=kr.frozen 0;have y1:=kr.cell 1;have f1:=kr.frozen 1;have y2:=kr.cell 2;have f2:=kr.frozen 2;have y3:=kr.cell 3;have f3:=kr.frozen 3;have y4:=kr.cell 4;have f4:=kr.frozen 4;have y5:=kr.cell 5;have f5:=kr.frozen 5;have y6:=kr.cell 6;have f6:=kr.frozen 6;have y7:=kr.cell 7;have f7:=kr.frozen 7;have lx:=kx.lt;have lr:=kr.lt;simp at z0 y0 z1 y1 z2 y2 z3 y3 z4 y4 z5 y5 z6 y6 z7 y7;clear hcon hb2 hup hj c0 c1 c2 c3 c4 c5 c6 c7
   cases hpx : p x with
   | true=>
    have hfin : Hid (zA zh.zero p l = (x,true)):=Hd (by rw [hfo.out,hdr.out,zeG _ _ hpx]);clear hpx;go_wp2;refine bodyPost_ret (zk (P:=Tryz.prog) Tryz.results50 _ _ _ _ _ _ rfl ((((((((kr.set_ 0 _).set_ 1 _).set_ 2 _).set_ 3 _).set_ 4 _).set_ 5 _).set_ 6 _).set_ 7 _) Tryz.underlying33 rfl (by kernel_rfl)) rfl ?_;rw [hfin.out];exact ⟨rfl,((((((((hend2.setCell (by simp) _).setCell (by simp) _).setCell (by simp) _).setCell (by simp) _).setCell (by simp) _).setCell (by simp) _).setCell (by simp) _).setCell (by simp) _)⟩
   | false=>
    have hfo' : Hid (zA zh.zero p l = zA zh.zero p (l.drop (k + 1))):=Hd (by rw [hfo.out,hdr.out,zdQ _ _ hpx]);have kr':=Hd kr;clear hpx z0 y0 f0 z1 y1 f1 z2 y2 f2 z3 y3 f3 z4 y4 f4 z5 y5 f5 z6 y6 f6 z7 y7 f7 kx kr lx lr;go_wp2;go_roundw
    case rel=>exact ⟨k + 1,by omega,by go_num,hend2,kr',hfo'⟩
    case measure=>simp [intOf]; omega
  ·obtain rfl : k = l.length:=by omega
   have hfin : Hid (zA zh.zero p l = (zh.zero,false)):=Hd (by rw [hfo.out,List.drop_length]; rfl);have y0:=hkR.out.cell 0;have f0:=hkR.out.frozen 0;have y1:=hkR.out.cell 1;have f1:=hkR.out.frozen 1;have y2:=hkR.out.cell 2;have f2:=hkR.out.frozen 2;have y3:=hkR.out.cell 3;have f3:=hkR.out.frozen 3;have y4:=hkR.out.cell 4;have f4:=hkR.out.frozen 4;have y5:=hkR.out.cell 5;have f5:=hkR.out.frozen 5;have y6:=hkR.out.cell 6;have f6:=hkR.out.frozen 6;have y7:=hkR.out.cell 7;have f7:=hkR.out.frozen 7;have lr:=hkR.out.lt;simp at y0 y1 y2 y3 y4 y5 y6 y7;go_wp2;refine bodyPost_ret (zk (P:=Tryz.prog) Tryz.results50 _ _ _ _ _ _ rfl (((((((((hkR.out.set_ 0 _).set_ 1 _).set_ 2 _).set_ 3 _).set_ 4 _).set_ 5 _).set_ 6 _).set_ 7 _).alloc _) Tryz.underlying33 rfl (by kernel_rfl)) rfl ?_;rw [hfin.out];exact ⟨rfl,(((((((((hbw.setCell (by simp) _).setCell (by simp) _).setCell (by simp) _).setCell (by simp) _).setCell (by simp) _).setCell (by simp) _).setCell (by simp) _).setCell (by simp) _).alloc (by simp [World.setCell]; omega) _)⟩
theorem zqj (g1 g2 g3 : Nat) (p : zj -> Bool) (v : Value) (l : List zj) (w : World) (hv : zeh w v l) (hp : ∀ (W : World) (x : zj),Below w.heap.size w W -> x ∈ l -> Calls Tryz.prog 70 #[.agg (zaV x),.pointer (some ⟨g1,0,none⟩),.pointer (some ⟨g2,0,none⟩),.pointer (some ⟨g3,0,none⟩)] W fun e w'=>e = .returned (.bool (p x)) /\ Below W.heap.size W w') :
  Calls Tryz.prog 69 #[v,.func (.func 70) #[] #[.pointer (some ⟨g1,0,none⟩),.pointer (some ⟨g2,0,none⟩),.pointer (some ⟨g3,0,none⟩)]] w fun e w'=>e = .returned (.tuple #[.agg (zaV (zA zj.zero p l).1),.bool (zA zj.zero p l).2]) /\ Below w.heap.size w w':=by
 obtain ⟨A,c,rfl,hn,hc,hA⟩:=hv;unfold maxLen at hc;have hA':=Hd hA;have hp':=Hd hp;clear hA hp;have kR:=Hd (Blk.new w 72 #[.int .i64 0,.int .i64 0,.int .i64 0,.int .i64 0,.int .u8 0,.string ⟨#[]⟩,.int .i64 0]);have hb0 : Below w.heap.size w (w.alloc (.cells #[.int .i64 0,.int .i64 0,.int .i64 0,.int .i64 0,.int .u8 0,.string ⟨#[]⟩,.int .i64 0] 72)):=(Below.refl _ _).alloc (lQ _) _;have hz0:=Hd (show w.heap.size < (w.alloc (.cells #[.int .i64 0,.int .i64 0,.int .i64 0,.int .i64 0,.int .u8 0,.string ⟨#[]⟩,.int .i64 0] 72)).heap.size from by simp);go_enter Tryz.func69,Tryz.ntmps69;go_wp2;generalize w.alloc (.cells #[.int .i64 0,.int .i64 0,.int .i64 0,.int .i64 0,.int .u8 0,.string ⟨#[]⟩,.int .i64 0] 72) = W0 at *
 go_loopw [11] (fun iv wr=>∃ k : Nat,k <= l.length /\ iv = .int .i64 k /\ Below w.heap.size w wr /\ Hid (Blk wr w.heap.size 72 #[.int .i64 0,.int .i64 0,.int .i64 0,.int .i64 0,.int .u8 0,.string ⟨#[]⟩,.int .i64 0]) /\ Hid (zA zj.zero p l = zA zj.zero p (l.drop k))) (fun iv _=>l.length - (intOf iv).toNat)
 case atStart=>exact ⟨0,by omega,rfl,hb0,kR,Hd rfl⟩
 case round=>
  obtain ⟨k,hk,rfl,hbw,hkR,hfo⟩:=hrel;rename World=>wr;have n0 : (0 : Int) <= (k : Int):=by omega
  have hs0:=hbw.size;by_cases hlt : k < l.length
  ·have n1 : (k : Int) < (l.length : Int):=by omega
   obtain ⟨b,off,rfl,hb,hi⟩:=hA'.out (by omega);have hx:=hi k hlt;have hmem:=Hd (show l.getD k zj.zero ∈ l from by rw [zD _ _ _ hlt]; exact List.getElem_mem hlt);have hdr:=Hd (zaI l zj.zero k hlt);clear hi;generalize l.getD k zj.zero = x at *;have hx2:=hx.stays (zo.of hbw) hb;have hup : Below wr.heap.size wr (wr.alloc (.cells (zaV x) 72)):=(Below.refl _ _).alloc (lQ _) _;have hend:=hbw.trans (hup.mono hs0);have hcon:=Hd (hp'.out _ x hend hmem.out);have hj:=Hd (Blk.new wr 72 (zaV x));have c0:=hx2.c0;have c1:=hx2.c1;have c2:=hx2.c2;have c3:=hx2.c3;have c4:=hx2.c4;have c5:=hx2.c5;have c6:=hx2.c6;clear hx hx2;unfold zaV at hcon hj hup hend;go_wp2_with fail;refine hcon.out.mono ?_;rintro e w2 ⟨rfl,hb2⟩;have hw2 : Below wr.heap.size wr w2:=hup.trans (hb2.mono hup.size);have hend2:=hbw.trans (hw2.mono hs0);have kx:=hj.out.below hb2 (by simp);have kr:=hkR.out.below hw2 hkR.out.lt;have z0:=kx.cell 0;have z1:=kx.cell 1;have z2:=kx.cell 2;have z3:=kx.cell 3;have z4:=kx.cell 4;have z5:=kx.cell 5;have z6:=kx.cell 6;have y0:=kr.cell 0;have f0:=kr.frozen 0;have y1:=kr.cell 1;have f1:=kr.frozen 1;have y2:=kr.cell 2;have f2:=kr.frozen 2;have y3:=kr.cell 3;have f3:=kr.frozen 3;have y4:=kr.cell 4;have f4:=kr.frozen 4;have y5:=kr.cell 5;have f5:=kr.frozen 5;have y6:=kr.cell 6;have f6:=kr.frozen 6;have lx:=kx.lt;have lr:=kr.lt;simp at z0 y0 z1 y1 z2 y2 z3 y3 z4 y4 z5 y5 z6 y6;clear hcon hb2 hup hj c0 c1 c2 c3 c4 c5 c6
   cases hpx : p x with
   | true=>
    have hfin : Hid (zA zj.zero p l = (x,true)):=Hd (by rw [hfo.out,hdr.out,zeG _ _ hpx]);clear hpx;go_wp2;refine bodyPost_ret (zk (P:=Tryz.prog) Tryz.results69 _ _ _ _ _ _ rfl (((((((kr.set_ 0 _).set_ 1 _).set_ 2 _).set_ 3 _).set_ 4 _).set_ 5 _).set_ 6 _) Tryz.underlying72 rfl (by kernel_rfl)) rfl ?_;rw [hfin.out];exact ⟨rfl,(((((((hend2.setCell (by simp) _).setCell (by simp) _).setCell (by simp) _).setCell (by simp) _).setCell (by simp) _).setCell (by simp) _).setCell (by simp) _)⟩
   | false=>
    have hfo' : Hid (zA zj.zero p l = zA zj.zero p (l.drop (k + 1))):=Hd (by rw [hfo.out,hdr.out,zdQ _ _ hpx]);have kr':=Hd kr;clear hpx z0 y0 f0 z1 y1 f1 z2 y2 f2 z3 y3 f3 z4 y4 f4 z5 y5 f5 z6 y6 f6 kx kr lx lr;go_wp2;go_roundw
    case rel=>exact ⟨k + 1,by omega,by go_num,hend2,kr',hfo'⟩
    case measure=>simp [intOf]; omega
  ·obtain rfl : k = l.length:=by omega
   have hfin : Hid (zA zj.zero p l = (zj.zero,false)):=Hd (by rw [hfo.out,List.drop_length]; rfl);have y0:=hkR.out.cell 0;have f0:=hkR.out.frozen 0;have y1:=hkR.out.cell 1;have f1:=hkR.out.frozen 1;have y2:=hkR.out.cell 2;have f2:=hkR.out.frozen 2;have y3:=hkR.out.cell 3;have f3:=hkR.out.frozen 3;have y4:=hkR.out.cell 4;have f4:=hkR.out.frozen 4;have y5:=hkR.out.cell 5;have f5:=hkR.out.frozen 5;have y6:=hkR.out.cell 6;have f6:=hkR.out.frozen 6;have lr:=hkR.out.lt;simp at y0 y1 y2 y3 y4 y5 y6;go_wp2;refine bodyPost_ret (zk (P:=Tryz.prog) Tryz.results69 _ _ _ _ _ _ rfl ((((((((hkR.out.set_ 0 _).set_ 1 _).set_ 2 _).set_ 3 _).set_ 4 _).set_ 5 _).set_ 6 _).alloc _) Tryz.underlying72 rfl (by kernel_rfl)) rfl ?_;rw [hfin.out];exact ⟨rfl,((((((((hbw.setCell (by simp) _).setCell (by simp) _).setCell (by simp) _).setCell (by simp) _).setCell (by simp) _).setCell (by simp) _).setCell (by simp) _).alloc (by simp [World.setCell]; omega) _)⟩
theorem zwP (g1 : Nat) (p : zj -> Bool) (v : Value) (l : List zj) (w : World) (hv : zeh w v l) (hp : ∀ (W : World) (x : zj),Below w.heap.size w W -> x ∈ l -> Calls Tryz.prog 123 #[.agg (zaV x),.pointer (some ⟨g1,0,none⟩)] W fun e w'=>e = .returned (.bool (p x)) /\ Below W.heap.size W w') :
  Calls Tryz.prog 69 #[v,.func (.func 123) #[] #[.pointer (some ⟨g1,0,none⟩)]] w fun e w'=>e = .returned (.tuple #[.agg (zaV (zA zj.zero p l).1),.bool (zA zj.zero p l).2]) /\ Below w.heap.size w w':=by
 obtain ⟨A,c,rfl,hn,hc,hA⟩:=hv;unfold maxLen at hc;have hA':=Hd hA;have hp':=Hd hp;clear hA hp;have kR:=Hd (Blk.new w 72 #[.int .i64 0,.int .i64 0,.int .i64 0,.int .i64 0,.int .u8 0,.string ⟨#[]⟩,.int .i64 0]);have hb0 : Below w.heap.size w (w.alloc (.cells #[.int .i64 0,.int .i64 0,.int .i64 0,.int .i64 0,.int .u8 0,.string ⟨#[]⟩,.int .i64 0] 72)):=(Below.refl _ _).alloc (lQ _) _;have hz0:=Hd (show w.heap.size < (w.alloc (.cells #[.int .i64 0,.int .i64 0,.int .i64 0,.int .i64 0,.int .u8 0,.string ⟨#[]⟩,.int .i64 0] 72)).heap.size from by simp);go_enter Tryz.func69,Tryz.ntmps69;go_wp2;generalize w.alloc (.cells #[.int .i64 0,.int .i64 0,.int .i64 0,.int .i64 0,.int .u8 0,.string ⟨#[]⟩,.int .i64 0] 72) = W0 at *
 go_loopw [11] (fun iv wr=>∃ k : Nat,k <= l.length /\ iv = .int .i64 k /\ Below w.heap.size w wr /\ Hid (Blk wr w.heap.size 72 #[.int .i64 0,.int .i64 0,.int .i64 0,.int .i64 0,.int .u8 0,.string ⟨#[]⟩,.int .i64 0]) /\ Hid (zA zj.zero p l = zA zj.zero p (l.drop k))) (fun iv _=>l.length - (intOf iv).toNat)
 case atStart=>exact ⟨0,by omega,rfl,hb0,kR,Hd rfl⟩
 case round=>
  obtain ⟨k,hk,rfl,hbw,hkR,hfo⟩:=hrel;rename World=>wr;have n0 : (0 : Int) <= (k : Int):=by omega
  have hs0:=hbw.size;by_cases hlt : k < l.length
  ·have n1 : (k : Int) < (l.length : Int):=by omega
   obtain ⟨b,off,rfl,hb,hi⟩:=hA'.out (by omega);have hx:=hi k hlt;have hmem:=Hd (show l.getD k zj.zero ∈ l from by rw [zD _ _ _ hlt]; exact List.getElem_mem hlt);have hdr:=Hd (zaI l zj.zero k hlt);clear hi;generalize l.getD k zj.zero = x at *;have hx2:=hx.stays (zo.of hbw) hb;have hup : Below wr.heap.size wr (wr.alloc (.cells (zaV x) 72)):=(Below.refl _ _).alloc (lQ _) _;have hend:=hbw.trans (hup.mono hs0);have hcon:=Hd (hp'.out _ x hend hmem.out);have hj:=Hd (Blk.new wr 72 (zaV x));have c0:=hx2.c0;have c1:=hx2.c1;have c2:=hx2.c2;have c3:=hx2.c3;have c4:=hx2.c4;have c5:=hx2.c5;have c6:=hx2.c6;clear hx hx2;unfold zaV at hcon hj hup hend;go_wp2_with fail;refine hcon.out.mono ?_;rintro e w2 ⟨rfl,hb2⟩;have hw2 : Below wr.heap.size wr w2:=hup.trans (hb2.mono hup.size);have hend2:=hbw.trans (hw2.mono hs0);have kx:=hj.out.below hb2 (by simp);have kr:=hkR.out.below hw2 hkR.out.lt;have z0:=kx.cell 0;have z1:=kx.cell 1;have z2:=kx.cell 2;have z3:=kx.cell 3;have z4:=kx.cell 4;have z5:=kx.cell 5;have z6:=kx.cell 6;have y0:=kr.cell 0;have f0:=kr.frozen 0;have y1:=kr.cell 1;have f1:=kr.frozen 1;have y2:=kr.cell 2;have f2:=kr.frozen 2;have y3:=kr.cell 3;have f3:=kr.frozen 3;have y4:=kr.cell 4;have f4:=kr.frozen 4;have y5:=kr.cell 5;have f5:=kr.frozen 5;have y6:=kr.cell 6;have f6:=kr.frozen 6;have lx:=kx.lt;have lr:=kr.lt;simp at z0 y0 z1 y1 z2 y2 z3 y3 z4 y4 z5 y5 z6 y6;clear hcon hb2 hup hj c0 c1 c2 c3 c4 c5 c6
   cases hpx : p x with
   | true=>
    have hfin : Hid (zA zj.zero p l = (x,true)):=Hd (by rw [hfo.out,hdr.out,zeG _ _ hpx]);clear hpx;go_wp2;refine bodyPost_ret (zk (P:=Tryz.prog) Tryz.results69 _ _ _ _ _ _ rfl (((((((kr.set_ 0 _).set_ 1 _).set_ 2 _).set_ 3 _).set_ 4 _).set_ 5 _).set_ 6 _) Tryz.underlying72 rfl (by kernel_rfl)) rfl ?_;rw [hfin.out];exact ⟨rfl,(((((((hend2.setCell (by simp) _).setCell (by simp) _).setCell (by simp) _).setCell (by simp) _).setCell (by simp) _).setCell (by simp) _).setCell (by simp) _)⟩
   | false=>
    have hfo' : Hid (zA zj.zero p l = zA zj.zero p (l.drop (k + 1))):=Hd (by rw [hfo.out,hdr.out,zdQ _ _ hpx]);have kr':=Hd kr;clear hpx z0 y0 f0 z1 y1 f1 z2 y2 f2 z3 y3 f3 z4 y4 f4 z5 y5 f5 z6 y6 f6 kx kr lx lr;go_wp2;go_roundw
    case rel=>exact ⟨k + 1,by omega,by go_num,hend2,kr',hfo'⟩
    case measure=>simp [intOf]; omega
  ·obtain rfl : k = l.length:=by omega
   have hfin : Hid (zA zj.zero p l = (zj.zero,false)):=Hd (by rw [hfo.out,List.drop_length]; rfl);have y0:=hkR.out.cell 0;have f0:=hkR.out.frozen 0;have y1:=hkR.out.cell 1;have f1:=hkR.out.frozen 1;have y2:=hkR.out.cell 2;have f2:=hkR.out.frozen 2;have y3:=hkR.out.cell 3;have f3:=hkR.out.frozen 3;have y4:=hkR.out.cell 4;have f4:=hkR.out.frozen 4;have y5:=hkR.out.cell 5;have f5:=hkR.out.frozen 5;have y6:=hkR.out.cell 6;have f6:=hkR.out.frozen 6;have lr:=hkR.out.lt;simp at y0 y1 y2 y3 y4 y5 y6;go_wp2;refine bodyPost_ret (zk (P:=Tryz.prog) Tryz.results69 _ _ _ _ _ _ rfl ((((((((hkR.out.set_ 0 _).set_ 1 _).set_ 2 _).set_ 3 _).set_ 4 _).set_ 5 _).set_ 6 _).alloc _) Tryz.underlying72 rfl (by kernel_rfl)) rfl ?_;rw [hfin.out];exact ⟨rfl,((((((((hbw.setCell (by simp) _).setCell (by simp) _).setCell (by simp) _).setCell (by simp) _).setCell (by simp) _).setCell (by simp) _).setCell (by simp) _).alloc (by simp [World.setCell]; omega) _)⟩
end
end Go.Proofs.YtggimnndflkjkaaGreatDoor
