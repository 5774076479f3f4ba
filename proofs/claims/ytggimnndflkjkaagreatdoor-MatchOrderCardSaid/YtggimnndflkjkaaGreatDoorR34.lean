import Derived.Test.YtggimnndflkjkaaGreatDoorR01
import Derived.Test.YtggimnndflkjkaaGreatDoorR24
import Derived.Test.YtggimnndflkjkaaGreatDoorR33
import Derived.Maps.AppendAt
import Derived.Laws.AppendOwnNone
set_option linter.all false
set_option maxRecDepth 100000
set_option maxHeartbeats 0
namespace Go.Proofs.YtggimnndflkjkaaGreatDoor
section
open Go.Shelf Go.RowKit
theorem zyy (n : Nat) (w : World) (hn : n <= 100000) : Calls Tryz.prog 100 #[.slice none 0 0,.int .i64 n] w fun e w'=>∃ v,e = .returned v /\ zbT w.heap.size w' v [] /\ Below w.heap.size w w':=by
 obtain ⟨i0,hi0,hz0,hz1,hz2⟩:=info_parts zuQ;by_cases h0 : n = 0
 ·subst h0
  refine (Any8.slices_Grow_room Sh.growNotes none 0 0 0 w (lQ _) (by omega) (by omega) (by omega)).mono ?_;rintro e w' ⟨rfl,rfl⟩;exact ⟨_,rfl,zaw.nil_,Below.refl _ _⟩
 ·refine (Any8.slices_Grow_grow Sh.growNotes i0 _ hi0 hz0 (by rw [hz1]; decide) none 0 0 n [] w (by omega) (by omega) (by rw [hz2]; omega) (by omega) (by simp) (fun _=>rfl) (fun a h=>by cases h)).mono ?_
  rintro e w' ⟨rfl,rfl⟩;have hge:=grownCap_ge w (0 + n) 0 48;have hle:=grownCap_le_maxLen w (0 + n) 0 48 (by unfold maxLen; omega);refine ⟨_,rfl,⟨⟨rfl,.inr ⟨w.heap.size,_,_,rfl,lQ _,(Blk.new_at w.drew 48 _ w.heap.size rfl),Nat.zero_le _,hle,?_,rfl⟩⟩,fun _ h=>by cases h⟩,(Below.refl _ _).drew.alloc (by simp) _⟩;simp only [Array.size_append,size_zeroCells,List.size_toArray,List.length_nil,Value.cells,List.length_cons];change 0 + (0 + n - 0) * 3 + (grownCap w (0 + n) 0 48 - (0 + n)) * 3 = grownCap w (0 + n) 0 48 * 3;omega
def zwv (w : World) (v : Value) (ns : List zP) : Prop:=
 (v = .slice none 0 0 /\ ns = []) \/ ∃ (b off c : Nat),v = .slice (some ⟨b,off,none⟩) ns.length c /\ b < w.heap.size /\ ∀ j u,(ns.flatMap zfo)[j]? = some u -> w.cell? ⟨b,off + j,none⟩ = some u
theorem zwv.below {w w' : World} {v : Value} {ns : List zP} (h : zwv w v ns) (hb : Below w.heap.size w w') : zwv w' v ns:=by
 rcases h with h | ⟨b,off,c,h1,h2,h3⟩
 ·exact .inl h
 ·exact .inr ⟨b,off,c,h1,Nat.lt_of_lt_of_le h2 hb.size,fun j u hu=>by rw [hb.cell (p:=⟨b,off + j,none⟩) h2]; exact h3 j u hu⟩
theorem zvr {w : World} {b off : Nat} {ns : List zP} (h : ∀ i,i < ns.length -> zjh w b (off + i * 3) (ns.getD i zP.zero)) : ∀ j u,(ns.flatMap zfo)[j]? = some u -> w.cell? ⟨b,off + j,none⟩ = some u:=by
 intro j u hu
 have hj : j < ns.length * 3:=by
  have:=(List.getElem?_eq_some_iff.1 hu).1
  have hl : (ns.flatMap zfo).length = ns.length * 3:=by
   clear hu h this
   induction ns with
   | nil=>rfl
   | cons a l ih=>rw [List.flatMap_cons,List.length_append,ih,List.length_cons]; simp [zfo]; omega
  omega
 have hq : j / 3 < ns.length:=by omega
 have e : j / 3 * 3 + j % 3 = j:=by omega
 have h1:=zgP zfo 3 (fun _=>rfl) ns (j / 3) (j % 3) hq (by omega);rw [e,hu] at h1;obtain ⟨c0,c1,c2⟩:=h (j / 3) hq;rw [zD _ _ _ hq] at c0 c1 c2;have hr : j % 3 = 0 \/ j % 3 = 1 \/ j % 3 = 2:=by omega
 rcases hr with hr | hr | hr
 ·rw [hr] at h1
  rw [show off + j = off + j / 3 * 3 by omega,c0];exact h1.symm
 ·rw [hr] at h1
  rw [show off + j = off + j / 3 * 3 + 1 by omega,c1];exact h1.symm
 ·rw [hr] at h1
  rw [show off + j = off + j / 3 * 3 + 2 by omega,c2];exact h1.symm
theorem zbw.src {P : Nat -> Prop} {w : World} {v : Value} {ns : List zP} (h : zbw P w v ns) (h0 : ns ≠ []) : zwv w v ns:=by
 obtain ⟨A,c,rfl,h1,h2,h3⟩:=h;obtain ⟨b,off,rfl,hb,-,hi⟩:=h3 (List.length_pos_iff.2 h0);exact .inr ⟨b,off,c,rfl,hb,zvr hi⟩
theorem zwv.form {w : World} {v : Value} {ns : List zP} (h : zwv w v ns) : ∃ A c,v = .slice A ns.length c:=by
 rcases h with ⟨rfl,rfl⟩ | ⟨b,off,c,rfl,-⟩
 ·exact ⟨_,_,rfl⟩
 ·exact ⟨_,_,rfl⟩
abbrev zxI:=Value × List zP
def zxw : zxI:=(.nilFunc,[])
def zfk (l : List zxI) : Nat:=(l.map fun x=>x.2.length).sum
def zoa (l : List zxI) : List zP:=l.flatMap (·.2)
theorem zna (l : List zxI) : (zoa l).length = zfk l:=by
 induction l with
 | nil=>rfl
 | cons a l ih=>simp [zoa,zfk] at *
theorem zrg (l : List zxI) (k : Nat) (h : k < l.length) : zfk (l.take (k + 1)) = zfk (l.take k) + (l.getD k zxw).2.length:=by
 unfold zfk;rw [zaO l zxw k h,List.map_append,List.sum_append];simp
theorem zus (l : List zxI) (k : Nat) (h : k < l.length) : zoa (l.take (k + 1)) = zoa (l.take k) ++ (l.getD k zxw).2:=by
 unfold zoa;rw [zaO l zxw k h,List.flatMap_append];simp
theorem zlG (l : List zxI) (k : Nat) : zfk (l.take k) <= zfk l:=by
 conv=>rhs; rw [<- List.take_append_drop k l]
 unfold zfk;rw [List.map_append,List.sum_append];omega
theorem znJ {w : World} {b off : Nat} {l : List Value} (h : ∀ j u,l[j]? = some u -> w.cell? ⟨b,off + j,none⟩ = some u) : ∀ j u,l[j]? = some u -> w.cell? ((⟨b,off,none⟩ : Addr).add j) = some u:=fun j u hu=>by
 unfold Addr.add;have h1:=h j u hu;by_cases e : j = 0
 ·subst e; rwa [if_pos rfl]
 ·rwa [if_neg e]
theorem zvp (l : List zP) : (l.flatMap zfo).length = l.length * 3:=by
 induction l with
 | nil=>rfl
 | cons a l ih=>rw [List.flatMap_cons,List.length_append,ih,List.length_cons]; simp [zfo]; omega
theorem zvq (l : List zP) : ∀ u ∈ l.flatMap zfo,u.oneCell' = true:=by
 intro u hu;obtain ⟨x,-,hx⟩:=List.mem_flatMap.1 hu;exact zoM x u hx
theorem zpV {w wr w1 : World} {v v' : Value} {xs ys : List zP} (h : zbT w.heap.size wr v xs) (hb : Below w.heap.size w wr) (hsz : w.heap.size <= wr.heap.size) (h1 : w1.ownsRow w.heap.size 48 3 v' (xs.length + ys.length) (xs.flatMap zfo ++ ys.flatMap zfo))
  (hg : wr.grownBy w1 v.ownBlock) : zbT w.heap.size w1 v' (xs ++ ys) /\ Below w.heap.size w w1:=by
 refine ⟨⟨by rw [List.length_append,List.flatMap_append]; exact h1,fun _ _=>trivial⟩,hb.grown hg hsz fun k hk=>(h.block_lt hk).1⟩
theorem zuz (L : List zxI) (b0 o0 c0 : Nat) (w : World) (hb : b0 < w.heap.size) (hv : ∀ i,i < L.length -> w.cell? ⟨b0,o0 + i,none⟩ = some (L.getD i zxw).1 /\ zwv w (L.getD i zxw).1 (L.getD i zxw).2) (hl : L.length <= 10) (hs : zfk L <= 1000) :
  Calls Tryz.prog 57 #[.slice (some ⟨b0,o0,none⟩) L.length c0] w fun e w'=>∃ v,e = .returned v /\ zbT w.heap.size w' v (zoa L) /\ Below w.heap.size w w':=by
 have hv':=Hd hv;clear hv;obtain ⟨i0,hi0,hz0,hz1,hz2⟩:=info_parts zuQ;go_enter Tryz.func57,Tryz.ntmps57;go_wp2
 go_loop [3,11] (fun sv iv=>∃ k : Nat,k <= L.length /\ iv = .int .i64 k /\ sv = .int .i64 (zfk (L.take k) : Nat)) (fun _ iv=>L.length - (intOf iv).toNat)
 case atStart=>exact ⟨0,by omega,rfl,rfl⟩
 case round=>
  obtain ⟨k,hk,rfl,rfl⟩:=hrel;have n0 : (0 : Int) <= (k : Int):=by omega
  have hsk:=zlG L k;by_cases hlt : k < L.length
  ·have n1 : (k : Int) < (L.length : Int):=by omega
   have hq:=hv'.out k hlt;have hst:=Hd (zrg L k hlt);have hsk1:=zlG L (k + 1);rw [hst.out] at hsk1;generalize L.getD k zxw = x at *;obtain ⟨xv,xn⟩:=x;obtain ⟨q1,q2⟩:=hq;obtain ⟨A,c,e⟩:=q2.form;simp only at e q1 hst hsk1;rw [e] at q1;clear q2 e;generalize zfk (L.take k) = s at *;have s1 : s <= 1000:=by omega
   have x1 : xn.length <= 1000:=by omega
   have s0 : (0 : Int) <= (s : Int):=by omega
   have x0 : (0 : Int) <= (xn.length : Int):=by omega
   clear hsk1 hsk;have hs2:=Hd hs;clear hs;go_wp2
   go_round
   case rel=>exact ⟨k + 1,by omega,by go_num,by rw [hst.out]; go_num⟩
   case measure=>simp [intOf]; omega
  ·obtain rfl : k = L.length:=by omega
   clear hlt n0;rw [List.take_length] at *;have hs':=Hd hs;have hg:=Hd (fun W=>zyy (zfk L) W (by omega));have hcat:=Hd (zna L);generalize zfk L = s at *;go_wp2_with fail;refine (hg.out w).mono ?_;rintro e w1 ⟨gv,rfl,hown,hb1⟩;have hb1':=Hd hb1;have hown':=Hd hown;obtain ⟨gA,gc,rfl⟩:=hown.form_;simp only [List.length_nil] at hown';clear hg hown hb1 hs hsk;go_wp2
   go_loopw [6,27] (fun v iv wr=>∃ k : Nat,k <= L.length /\ iv = .int .i64 k /\ Hid (zbT w.heap.size wr v (zoa (L.take k))) /\ Hid (Below w.heap.size w wr)) (fun _ iv _=>L.length - (intOf iv).toNat)
   case atStart=>exact ⟨0,by omega,rfl,hown',hb1'⟩
   case round=>
    obtain ⟨k,hk,rfl,hown,hbw⟩:=hrel;rename World=>wr;have n0 : (0 : Int) <= (k : Int):=by omega
    obtain ⟨A6,c6,rfl⟩:=hown.out.form_;by_cases hlt : k < L.length
    ·have n1 : (k : Int) < (L.length : Int):=by omega
     have hq:=hv'.out k hlt;have hct:=Hd (zus L k hlt);have hl1 : Hid ((zoa (L.take (k + 1))).length <= 1000):=Hd (by rw [zna]; exact Nat.le_trans (zlG L (k + 1)) (by rw [<- zna,hcat.out]; exact hs'.out));generalize L.getD k zxw = x at *;obtain ⟨xv,xn⟩:=x;obtain ⟨q1,q2⟩:=hq;simp only at q1 q2 hct;rw [<- hbw.out.cell (p:=⟨b0,o0 + k,none⟩) hb] at q1;have hq2:=Hd (q2.below hbw.out);clear q2;have hsz:=hbw.out.size;rcases hq2.out with ⟨rfl,rfl⟩ | ⟨b,off,c,rfl,hbl,hcells⟩
     ·clear hq2
      go_wp2_with (at_builtin; refine wpList_append_own_none rfl _ _ 41 rfl w.heap.size 48 i0 3 Tryz.underlying41 hi0 _ (zoa (L.take k)).length ((zoa (L.take k)).flatMap zfo) rfl hown.out.1 rfl ?_);go_roundw
      case rel=>exact ⟨k + 1,by omega,by go_num,Hd (by rw [hct.out,List.append_nil]; exact hown.out),hbw⟩
      case measure=>simp [intOf]; omega
     ·have hc':=Hd hcells
      clear hcells hq2;have hl2 : Hid ((zoa (L.take k)).length + xn.length <= 1000):=Hd (by have:=hl1.out; rw [hct.out,List.length_append] at this; exact this);have sd1 : (zoa (L.take k)).length + xn.length <= maxLen:=by have:=hl2.out; unfold maxLen; omega
      have sd2 : ((zoa (L.take k)).length + xn.length) * 16 <= 140737488355328:=by have:=hl2.out; omega
      have hA:=Hd (fun (ops : Array Oper) (rest : List Oper) (o : Oper) (a : Act) (Q : Exit -> Act -> World -> Prop) hgd ho hs hx h=>wpList_append_own_at (P:=Tryz.prog) (ops:=ops) (rest:=rest) (o:=o) (a:=a) (Q:=Q) wr hgd (.tmp 31) (.tmp 32) 41 ho w.heap.size 48 i0 (.agg #[.int .u8 0,.int .u8 0,.int .i64 0]) 3 16 Tryz.underlying41 hi0 hz0 hz1 hz2 rfl (by decide) (.slice A6 (zoa (L.take k)).length c6) (zoa (L.take k)).length ((zoa (L.take k)).flatMap zfo) hs hown.out.1 ⟨b,off,none⟩ xn.length c (xn.flatMap zfo) hx (zvp xn) (znJ hc'.out) (zvq xn) sd1 sd2 hsz h);clear sd1 sd2;go_wp2_with (at_builtin; refine hA.out _ _ _ _ _ rfl rfl rfl rfl ?_; intro v' w1 hown1 hgr1 hnil1 hat1);obtain ⟨z1,z2⟩:=zpV hown.out hbw.out hsz hown1 hgr1;go_roundw
      case rel=>exact ⟨k + 1,by omega,by go_num,Hd (by rw [hct.out]; exact z1),Hd z2⟩
      case measure=>simp [intOf]; omega
    ·obtain rfl : k = L.length:=by omega
     simp only [List.take_length] at hown ⊢;go_wp2;go_ret;exact ⟨_,rfl,hown.out,hbw.out⟩
end
section
open Go.RowKit
section
variable {α : Type}
def zzg (le : α -> α -> Bool) (n : α) : List α -> List α
 | []=>[n]
 | m :: t=>if le n m then n :: m :: t else m :: zzg le n t
def zvQ (le : α -> α -> Bool) : List α -> List α
 | []=>[]
 | n :: t=>zzg le n (zvQ le t)
theorem zkW (le : α -> α -> Bool) (n : α) : ∀ l : List α,(zzg le n l).Perm (n :: l)
 | []=>List.Perm.refl _
 | m :: t=>by
  unfold zzg
  split
  ·exact List.Perm.refl _
  ·exact ((zkW le n t).cons m).trans (List.Perm.swap n m t)
theorem zfB (le : α -> α -> Bool) : ∀ l : List α,(zvQ le l).Perm l
 | []=>List.Perm.refl _
 | n :: t=>(zkW le n _).trans ((zfB le t).cons n)
theorem zkX (le : α -> α -> Bool) (htot : ∀ a b,le a b = true \/ le b a = true) (htr : ∀ a b c,le a b = true -> le b c = true -> le a c = true) (n : α) : ∀ l : List α,l.Pairwise (fun a b=>le a b = true) -> (zzg le n l).Pairwise fun a b=>le a b = true
 | [],_=>List.pairwise_singleton ..
 | m :: t,h=>by
  rw [List.pairwise_cons] at h;unfold zzg
  split
  ·rename_i hnm
   refine List.pairwise_cons.2 ⟨fun x hx=>?_,List.pairwise_cons.2 h⟩;rcases List.mem_cons.1 hx with rfl | hx
   ·exact hnm
   ·exact htr _ _ _ hnm (h.1 x hx)
  ·rename_i hnm
   refine List.pairwise_cons.2 ⟨fun x hx=>?_,zkX le htot htr n t h.2⟩;rcases List.mem_cons.1 ((zkW le n t).mem_iff.1 hx) with rfl | hx
   ·exact (htot m x).resolve_right hnm
   ·exact h.1 x hx
theorem zfg (le : α -> α -> Bool) (htot : ∀ a b,le a b = true \/ le b a = true) (htr : ∀ a b c,le a b = true -> le b c = true -> le a c = true) : ∀ l : List α,(zvQ le l).Pairwise fun a b=>le a b = true
 | []=>List.Pairwise.nil
 | n :: t=>zkX le htot htr n _ (zfg le htot htr t)
theorem zjc (le : α -> α -> Bool) : ∀ (l1 l2 : List α),l1.Perm l2 -> l1.Pairwise (fun a b=>le a b = true) -> l2.Pairwise (fun a b=>le a b = true) -> (∀ a ∈ l1,∀ b ∈ l1,le a b = true -> le b a = true -> a = b) -> l1 = l2
 | [],l2,h,_,_,_=>(List.Perm.nil_eq h)
 | a :: t,[],h,_,_,_=>by have:=h.length_eq; simp at this
 | a :: t,b :: s,h,h1,h2,ha=>by
  rw [List.pairwise_cons] at h1 h2;have hb : b ∈ a :: t:=h.mem_iff.2 (List.mem_cons_self ..);have ha' : a ∈ b :: s:=h.mem_iff.1 (List.mem_cons_self ..)
  have e : a = b:=by
   rcases List.mem_cons.1 hb with e | hb'
   ·exact e.symm
   ·rcases List.mem_cons.1 ha' with e | ha''
    ·exact e
    ·exact ha a (List.mem_cons_self ..) b hb (h1.1 b hb') (h2.1 a ha'')
  subst e;rw [zjc le t s (List.Perm.cons_inv h) h1.2 h2.2 fun x hx y hy=>ha x (List.mem_cons_of_mem _ hx) y (List.mem_cons_of_mem _ hy)]
end
def zgh (a b : zP) : Bool:=decide (a.kind <= b.kind)
def zlu (l : List zP) : List zP:=zvQ zgh l
theorem zsW (a b : zP) : zgh a b = true \/ zgh b a = true:=by unfold zgh; simp only [decide_eq_true_eq]; omega
theorem zvb (a b c : zP) (h1 : zgh a b = true) (h2 : zgh b c = true) : zgh a c = true:=by unfold zgh at *; simp only [decide_eq_true_eq] at *; omega
theorem zja (l : List zP) : (zlu l).Perm l:=zfB _ _
theorem zBX (l : List zP) : (zlu l).Pairwise fun a b=>a.kind <= b.kind:=(zfg zgh zsW zvb l).imp fun h=>by unfold zgh at h; simpa using h
def zru (l : List zP) : Prop:=l.Pairwise fun a b=>a.kind ≠ b.kind
theorem zwD {l : List zP} (h : zru l) {a b : zP} (ha : a ∈ l) (hb : b ∈ l) (e : a.kind = b.kind) : a = b:=by
 induction l with
 | nil=>cases ha
 | cons x t ih=>
  unfold zru at h;rw [List.pairwise_cons] at h;rcases List.mem_cons.1 ha with rfl | ha
  ·rcases List.mem_cons.1 hb with rfl | hb
   ·rfl
   ·exact absurd e (h.1 b hb)
  ·rcases List.mem_cons.1 hb with e2 | hb
   ·rw [e2] at e
    exact absurd e.symm (h.1 a ha)
   ·exact ih h.2 ha hb
theorem zsb {l l' : List zP} (hp : l'.Perm l) (hs : l'.Pairwise fun a b=>a.kind <= b.kind) (ha : zru l) : l' = zlu l:=by
 refine zjc zgh l' (zlu l) (hp.trans (zja l).symm) (hs.imp fun h=>by unfold zgh; simpa using h) (zfg zgh zsW zvb l) fun a h1 b h2 h3 h4=>?_;unfold zgh at h3 h4;simp only [decide_eq_true_eq] at h3 h4;exact zwD ha (hp.mem_iff.1 h1) (hp.mem_iff.1 h2) (by omega)
theorem zcJ (fd : List ByteArray) : ∀ (l : List zhO) (ns : List zP),zI fd l = some ns -> (ns.map (·.kind)).Sublist (l.map fun r=>(r.kind : Int))
 | [],ns,h=>by
  simp only [zI,Option.some.injEq] at h;subst h;exact List.Sublist.slnil
 | r :: t,ns,h=>by
  rw [zI] at h
  cases hs : zgn fd r with
  | none=>rw [hs] at h; cases h
  | some o=>
   rw [hs] at h
   cases o with
   | none=>
    simp only at h;rw [List.map_cons];exact (zcJ fd t ns h).cons _
   | some n=>
    simp only at h
    cases h2 : zI fd t with
    | none=>rw [h2] at h; cases h
    | some ms=>
     rw [h2] at h;simp only [Option.map_some,Option.some.injEq] at h;subst h
     have hk : n.kind = (r.kind : Int):=by
      unfold zgn at hs
      split at hs
      ·split at hs
       ·cases hs
       ·split at hs
        ·cases hs
        ·simp only [Option.some.injEq] at hs; rw [<- hs]
      ·split at hs
       ·simp only [Option.some.injEq] at hs; rw [<- hs]
       ·split at hs
        ·simp only [Option.some.injEq] at hs; rw [<- hs]
        ·cases hs
     rw [List.map_cons,List.map_cons,hk];exact (zcJ fd t ms h2).cons_cons _
theorem zjI {f : zw} {cty : Int} {fd : List ByteArray} {id : Int} {ns : List zP} (h : zax f cty fd id = some ns) : (ns.map (·.kind)).Sublist [8,9]:=by
 unfold zax at h
 split at h
 ·exact zcJ fd _ _ h
 ·cases h
theorem zmg {f : zw} {fd : List ByteArray} {tx : ByteArray} {id : Int} {ns : List zP} (h : zZ f fd tx id = some ns) : (ns.map (·.kind)).Sublist [3,4,5]:=by
 unfold zZ at h;have h4 : ([4] : List Int).Sublist [3,4,5]:=by decide
 split at h
 ·split at h
  ·simp only [Option.some.injEq] at h
   subst h;exact h4
  ·cases h
 ·rename_i ms hms
  split at h
  ·simp only [Option.some.injEq] at h
   subst h;exact h4
  ·simp only [Option.some.injEq] at h
   subst h;exact zcJ fd _ _ hms
theorem zim {f : zw} {fd : List ByteArray} {p : zh} {ns : List zP} (h : zbu f fd p = some ns) : (ns.map (·.kind)).Sublist [1,2,6,7,10]:=zcJ fd _ _ h
theorem zry {a b d : List zP} (ha : (a.map (·.kind)).Sublist [8,9]) (hb : (b.map (·.kind)).Sublist [3,4,5]) (hd : (d.map (·.kind)).Sublist [1,2,6,7,10]) : zru (a ++ b ++ d):=by
 have h : ((a ++ b ++ d).map (·.kind)).Sublist ([8,9] ++ [3,4,5] ++ [1,2,6,7,10]):=by
  rw [List.map_append,List.map_append];exact (ha.append hb).append hd
 have hn : ([8,9] ++ [3,4,5] ++ [1,2,6,7,10] : List Int).Pairwise (· ≠ ·):=by decide
 exact List.pairwise_map.1 (hn.sublist h)
def zap (f : zw) (fd : List ByteArray) (tx : ByteArray) (id : Int) : Option (List zP):=if id = 0 then some [] else zZ f fd tx id
def zeb (D : zeA) (p : zh) : Option (List zP):=
 match zax D.f D.cty D.fd p.town,zap D.f D.fd D.tx p.street,zbu D.f D.fd p with
 | some a,some b,some d=>some (zlu (a ++ b ++ d))
 | _,_,_=>none
theorem zhp {f : zw} {fd : List ByteArray} {tx : ByteArray} {id : Int} {ns : List zP} (h : zap f fd tx id = some ns) : (ns.map (·.kind)).Sublist [3,4,5]:=by
 unfold zap at h
 split at h
 ·simp only [Option.some.injEq] at h
  subst h;exact List.nil_sublist _
 ·exact zmg h
theorem zfL (fd : List ByteArray) : ∀ (l : List zhO) (ns : List zP),zI fd l = some ns -> (∃ r ∈ l,r.file.size ≠ 0) -> ns ≠ []
 | [],_,_,⟨_,h,_⟩=>by cases h
 | r :: t,ns,h,⟨q,hq,hz⟩=>by
  rw [zI] at h
  cases hs : zgn fd r with
  | none=>rw [hs] at h; cases h
  | some o=>
   rw [hs] at h
   cases o with
   | none=>
    simp only at h;refine zfL fd t ns h ?_;rcases List.mem_cons.1 hq with rfl | hq
    ·exfalso
     unfold zgn at hs;rw [if_neg hz] at hs
     split at hs
     ·split at hs <;> cases hs
     ·split at hs
      ·cases hs
      ·split at hs <;> cases hs
    ·exact ⟨q,hq,hz⟩
   | some n=>
    simp only at h
    cases h2 : zI fd t with
    | none=>rw [h2] at h; cases h
    | some ms=>
     rw [h2] at h;simp only [Option.map_some,Option.some.injEq] at h;subst h;simp
theorem zrm {f : zw} {cty : Int} {fd : List ByteArray} {id : Int} {ns : List zP} (h : zax f cty fd id = some ns) (hz : (zas f id).1.name.size ≠ 0) : ns ≠ []:=by
 unfold zax at h
 split at h
 ·exact zfL fd _ _ h ⟨_,List.mem_cons_self ..,hz⟩
 ·cases h
theorem znL {f : zw} {fd : List ByteArray} {tx : ByteArray} {id : Int} {ns : List zP} (h : zZ f fd tx id = some ns) (hz : (zn f id).1.name.size ≠ 0) : ns ≠ []:=by
 unfold zZ at h
 split at h
 ·split at h
  ·simp only [Option.some.injEq] at h
   subst h; simp
  ·cases h
 ·rename_i ms hms
  split at h
  ·simp only [Option.some.injEq] at h
   subst h; simp
  ·simp only [Option.some.injEq] at h
   subst h;exact zfL fd _ _ hms ⟨_,List.mem_cons_of_mem _ (List.mem_cons_self ..),hz⟩
theorem zlJ {a b : List zP} (h : a.Perm b) : zO a = zO b:=by
 unfold zO
 induction h with
 | nil=>rfl
 | cons x _ ih=>simp only [List.map_cons,List.sum_cons,ih]
 | swap x y l=>simp only [List.map_cons,List.sum_cons]; omega
 | trans _ _ h1 h2=>exact h1.trans h2
end
end Go.Proofs.YtggimnndflkjkaaGreatDoor
