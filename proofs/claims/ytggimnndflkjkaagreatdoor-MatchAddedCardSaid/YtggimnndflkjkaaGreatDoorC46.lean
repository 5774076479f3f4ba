import Derived.Test.YtggimnndflkjkaaGreatDoorC01
import Derived.Test.YtggimnndflkjkaaGreatDoorC08
import Derived.Test.YtggimnndflkjkaaGreatDoorC40
import Derived.Test.YtggimnndflkjkaaGreatDoorC41
import Derived.Test.YtggimnndflkjkaaGreatDoorC42
import Derived.Test.YtggimnndflkjkaaGreatDoorC43
import Derived.Test.YtggimnndflkjkaaGreatDoorC44
import Derived.Test.YtggimnndflkjkaaGreatDoorC45
import Derived.OpenShut
set_option linter.all false
set_option maxRecDepth 100000
set_option maxHeartbeats 0
namespace Go.Proofs.YtggimnndflkjkaaGreatDoor
section
open Go.RowKit Go.Maps
structure zua (s : zi) (p : zh) : Prop where
 fine : zpG (zb s) p
 small : zH (zm (zX (zb s) p))
 point : zaX (zb s) p.id = (p,true)
 few : (zb s).points.length <= 64
theorem znB (s : zi) (p : zh) (h : p ∈ (zb s).points) : zua s p where
 fine:=by
  obtain ⟨-,-,h3,h4,h5,h6,-,-⟩:=(zbl s).p p h;exact ⟨((zbl s).t p.town).1,((zbl s).s p.street).1,h5,h6,h3,h4⟩
 small:=(zeL s p h).2
 point:=zhR s p h
 few:=by have:=zew s (zaN s); have : (zb s).points.length = (zba s (zaN s)).length:=rfl; unfold zaN at *; omega
end
section
open Go.RowKit
theorem ztB (ps : List zu) : zR 4 ps = false:=by
 unfold zR;have h : zmu 4 (zsG (zv ps)) = false:=by simp [zmu,zdY]
 rw [h,Bool.and_false]
theorem zlr (c : Int) : zR c [] = false:=by
 unfold zR
 have h : zmu c (zsG (zv [])) = false:=by
  unfold zmu;rw [show zsG (zv []) 7 = false from rfl,show zsG (zv []) 1 = false from rfl];simp
 rw [h,Bool.and_false]
theorem zqV (c : Int) (q : zu) (ps : List zu) : zR c (q :: ps ++ [q]) = false:=by
 cases h : zR c (q :: ps ++ [q]) with
 | false=>rfl
 | true=>
  unfold zR at h;rw [Bool.and_eq_true] at h;have hp:=((zeM c _ 0).1 h.1).2;rw [List.cons_append,List.pairwise_cons] at hp;have:=hp.1 q (List.mem_append.2 (.inr (mS.2 rfl)));omega
theorem zvO : zH []:=fun _ h=>by cases h
theorem zqW {q : zu} {ps : List zu} (h : zH (q :: ps)) : zH (q :: ps ++ [q]):=by
 intro p hp;rcases List.mem_append.1 hp with hp | hp
 ·exact h p hp
 ·rw [mS.1 hp]; exact h q (List.mem_cons_self ..)
def zfI : zj:=⟨10,0,1,1,0,⟨#[120]⟩,1⟩
def zcQ : zh:=⟨999,10,0,0,⟨#[]⟩,⟨#[]⟩,0,0⟩
def ziB (f : zw) : zw:={ f with towns:=f.towns ++ f.towns }
def zmL (f : zw) : zw:={ f with ranges:=f.ranges ++ [zfI] }
def zfz (f : zw) : zw:={ f with points:=f.points ++ [zcQ] }
theorem ztL {f : zw} (h : zks f) : zks (ziB f):=⟨fun t ht=>(List.mem_append.1 ht).elim (h.t t) (h.t t),h.s,h.r,h.p⟩
theorem zts {f : zw} (h : zks f) : zks (zmL f):=⟨h.t,h.s,fun g hg=>(List.mem_append.1 hg).elim (h.r g) (fun e=>by rw [mS.1 e]; unfold zam; decide),h.p⟩
theorem zmI {f : zw} (h : zks f) : zks (zfz f):=⟨h.t,h.s,h.r,fun g hg=>(List.mem_append.1 hg).elim (h.p g) (fun e=>by rw [mS.1 e]; unfold zam; decide)⟩
theorem zwj (x : zi) : zae (ziB (zb x)) = false:=by
 have h : (zb x).towns = zbF x 0 :: (zb x).towns.tail:=by
  have hn:=(zal x).1;obtain ⟨n,hn⟩ : ∃ n,zK x = n + 1:=⟨zK x - 1,by omega⟩;unfold zb;simp only;rw [hn,List.range_succ_eq_map];rfl
 exact zrq _ _ h
theorem zvF (x : zi) : zae (zmL (zb x)) = false:=by
 refine zrp zfI (zmZ x) ?_;have hn:=(zal x).1;have h:=zgM x 0 (by omega);show zcg zfI.code ((zS (zb x).towns.reverse ((10 + 0 : Nat) : Int)).getD zJ.zero).codes = false;rw [h];show zcg zfI.code (zbt 0) = false
 decide
theorem zoW (x : zi) : zae (zfz (zb x)) = false:=by
 refine zro zcQ (zmZ x) ?_;show zaZ zcQ _ = false;unfold zaZ;rw [if_pos (show zcQ.street = 0 from rfl)];rfl
end
section
open Go.RowKit Go.Maps
theorem zfN {α : Type} (f : α -> List Value) (k : Nat) (hf : ∀ a,(f a).length = k) (l : List α) : (l.flatMap f).length = l.length * k:=by
 induction l with
 | nil=>simp
 | cons a l ih=>rw [List.flatMap_cons,List.length_append,hf,ih,List.length_cons,Nat.succ_mul]; omega
theorem zgO {α : Type} (f : α -> List Value) (k : Nat) (hk : 0 < k) (hf : ∀ a,(f a).length = k) (l : List α) (w : World) (b o : Nat) (h : ∀ i (hi : i < l.length) r,r < k -> w.cell? ⟨b,o + i * k + r,none⟩ = (f l[i])[r]?) :
  ∀ j u,(l.flatMap f)[j]? = some u -> w.cell? ((⟨b,o,none⟩ : Addr).add j) = some u:=by
 intro j u hu
 have hj : j < l.length * k:=by
  have:=(List.getElem?_eq_some_iff.1 hu).1
  rwa [zfN f k hf] at this
 have hi : j / k < l.length:=Nat.div_lt_of_lt_mul (by rw [Nat.mul_comm]; exact hj);have hr : j % k < k:=Nat.mod_lt _ hk;have e : j / k * k + j % k = j:=Nat.div_add_mod' j k;rw [<- e,zgP f k hf l _ _ hi hr] at hu;rw [Go.WideShapes.add_plain];have:=h _ hi _ hr;rw [hu,Nat.add_assoc,e] at this;exact this
theorem zvD {α : Type} (zero : α) (n : Nat) (Q : Nat -> α -> Prop) (h : ∀ i,i < n -> ∃ a,Q i a) : ∃ l : List α,l.length = n /\ ∀ i (hi : i < l.length),Q i l[i]:=by
 refine ⟨(List.range n).map fun i=>if hi : i < n then Classical.choose (h i hi) else zero,by simp,fun i hi=>?_⟩;have hi' : i < n:=by simpa using hi
 rw [List.getElem_map,List.getElem_range,dif_pos hi'];exact Classical.choose_spec (h i hi')
section
variable {w : World} {v : Value}
theorem ztu {l : List zj} (h : zeh w v l) (h0 : 0 < l.length) :
  ∃ b o c,v = .slice (some ⟨b,o,none⟩) l.length c /\ b < w.heap.size /\ ∀ j u,(l.flatMap zbN)[j]? = some u -> w.cell? ((⟨b,o,none⟩ : Addr).add j) = some u:=by
 obtain ⟨A,c,rfl,-,-,hA⟩:=h;obtain ⟨b,o,rfl,hb,hi⟩:=hA h0;refine ⟨b,o,c,rfl,hb,zgO zbN 7 (by omega) (fun _=>rfl) l w b o fun i hil r hr=>?_⟩;have h1 : zku w b (o + i * 7) (l.getD i zj.zero):=hi i hil;rw [zD _ _ _ hil] at h1
 match r,hr with
 | 0,_=>exact h1.c0
 | 1,_=>exact h1.c1
 | 2,_=>exact h1.c2
 | 3,_=>exact h1.c3
 | 4,_=>exact h1.c4
 | 5,_=>exact h1.c5
 | 6,_=>exact h1.c6
theorem ztp {l : List zh} (h : zfG w v l) (h0 : 0 < l.length) :
  ∃ b o c,v = .slice (some ⟨b,o,none⟩) l.length c /\ b < w.heap.size /\ ∀ j u,(l.flatMap zds)[j]? = some u -> w.cell? ((⟨b,o,none⟩ : Addr).add j) = some u:=by
 obtain ⟨A,c,rfl,-,-,hA⟩:=h;obtain ⟨b,o,rfl,hb,hi⟩:=hA h0;refine ⟨b,o,c,rfl,hb,zgO zds 8 (by omega) (fun _=>rfl) l w b o fun i hil r hr=>?_⟩;have h1 : zht w b (o + i * 8) (l.getD i zh.zero):=hi i hil;rw [zD _ _ _ hil] at h1
 match r,hr with
 | 0,_=>exact h1.c0
 | 1,_=>exact h1.c1
 | 2,_=>exact h1.c2
 | 3,_=>exact h1.c3
 | 4,_=>exact h1.c4
 | 5,_=>exact h1.c5
 | 6,_=>exact h1.c6
 | 7,_=>exact h1.c7
theorem zoS {l : List zu} (h : zav w v l) (h0 : 0 < l.length) :
  ∃ b o c,v = .slice (some ⟨b,o,none⟩) l.length c /\ b < w.heap.size /\ ∀ j u,(l.flatMap zak)[j]? = some u -> w.cell? ((⟨b,o,none⟩ : Addr).add j) = some u:=by
 obtain ⟨A,c,rfl,-,-,hA⟩:=h;obtain ⟨b,o,rfl,hb,hi⟩:=hA h0;refine ⟨b,o,c,rfl,hb,zgO zak 2 (by omega) (fun _=>rfl) l w b o fun i hil r hr=>?_⟩;have h1 : zxH w b (o + i * 2) (l.getD i zu.zero):=hi i hil;rw [zD _ _ _ hil] at h1
 match r,hr with
 | 0,_=>exact h1.1
 | 1,_=>exact h1.2
theorem zwh {l : List zJ} (h : zfH w v l) (h0 : 0 < l.length) :
  ∃ (b o c : Nat) (tl : List zcG),v = .slice (some ⟨b,o,none⟩) l.length c /\ b < w.heap.size /\ tl.map zcG.t = l /\ (∀ j u,(tl.flatMap zeg)[j]? = some u -> w.cell? ((⟨b,o,none⟩ : Addr).add j) = some u) /\ ∀ x ∈ tl,zan w x.value x.t.codes:=by
 obtain ⟨A,c,rfl,-,-,hA⟩:=h;obtain ⟨b,o,rfl,hb,hi⟩:=hA h0
 obtain ⟨tl,hl,ht⟩:=zvD ⟨zJ.zero,none,0,0⟩ l.length (fun i (x : zcG)=>x.t = l.getD i zJ.zero /\ zmj w b (o + i * 5) x.t x.value) fun i hil=>by
  obtain ⟨cv,hc⟩ : ∃ cv,zmj w b (o + i * 5) (l.getD i zJ.zero) cv:=hi i hil;obtain ⟨A',c',rfl,-⟩:=hc.tx;exact ⟨⟨_,A',_,c'⟩,rfl,hc⟩
 refine ⟨b,o,c,tl,rfl,hb,?_,zgO zeg 5 (by omega) (fun _=>rfl) tl w b o fun i hil r hr=>?_,fun x hx=>?_⟩
 ·apply List.ext_getElem (by simpa using hl)
  intro i h1 h2;rw [List.getElem_map];have h3 : i < tl.length:=by simpa using h1
  rw [(ht i h3).1,zD _ _ _ (by omega)]
 ·have h1:=(ht i hil).2
  match r,hr with
  | 0,_=>exact h1.c0
  | 1,_=>exact h1.c1
  | 2,_=>exact h1.c2
  | 3,_=>exact h1.c3
  | 4,_=>exact h1.c4
 ·obtain ⟨i,hil,rfl⟩:=List.getElem_of_mem hx
  exact (ht i hil).2.tx
variable {B : Nat}
theorem ztt {l : List zj} (h : zaw 72 7 zbN zdp B w v l) : zeh w v l:=
 (h.sl (fun _=>rfl)).plain fun b off i _ _ hi hc=>by
  obtain ⟨-,-,hc⟩:=hc;rw [zD _ _ _ hi];exact ⟨hc hi 0 (by omega),hc hi 1 (by omega),hc hi 2 (by omega),hc hi 3 (by omega),hc hi 4 (by omega),hc hi 5 (by omega),hc hi 6 (by omega)⟩
theorem zmJ {l : List zh} (h : zaw 33 8 zds zdp B w v l) : zfG w v l:=
 (h.sl (fun _=>rfl)).plain fun b off i _ _ hi hc=>by
  obtain ⟨-,-,hc⟩:=hc;rw [zD _ _ _ hi];exact ⟨hc hi 0 (by omega),hc hi 1 (by omega),hc hi 2 (by omega),hc hi 3 (by omega),hc hi 4 (by omega),hc hi 5 (by omega),hc hi 6 (by omega),hc hi 7 (by omega)⟩
theorem zwg {tl : List zcG} (h : zaw 79 5 zeg zdp B w v tl) (ht : ∀ x ∈ tl,zan w x.value x.t.codes) : zfH w v (tl.map zcG.t):=by
 unfold zfH;rw [List.length_map]
 exact (h.sl (fun _=>rfl)).plain fun b off i _ _ hi hc=>by
  obtain ⟨-,-,hc⟩:=hc;have e : (tl.map zcG.t).getD i zJ.zero = tl[i].t:=by rw [zD _ _ _ (by rw [List.length_map]; exact hi),List.getElem_map]
  refine ⟨tl[i].value,?_⟩;rw [e];exact ⟨hc hi 0 (by omega),hc hi 1 (by omega),hc hi 2 (by omega),hc hi 3 (by omega),hc hi 4 (by omega),ht _ (List.getElem_mem hi)⟩
end
end
end Go.Proofs.YtggimnndflkjkaaGreatDoor
