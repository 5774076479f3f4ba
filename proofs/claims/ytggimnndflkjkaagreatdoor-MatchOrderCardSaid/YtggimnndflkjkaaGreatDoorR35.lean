import Derived.Test.YtggimnndflkjkaaGreatDoorR01
import Derived.Test.YtggimnndflkjkaaGreatDoorR26
import Derived.Test.YtggimnndflkjkaaGreatDoorR27
import Derived.Test.YtggimnndflkjkaaGreatDoorR34
set_option linter.all false
set_option maxRecDepth 100000
set_option maxHeartbeats 0
namespace Go.Proofs.YtggimnndflkjkaaGreatDoor
section
open Go.RowKit Go.Maps
structure zAa (D : zeA) (p : zh) : Prop where
 town : zam p.town
 street : zam p.street
 number : zam p.number
 box : zam p.box
 n0 : 0 <= zW p
 n1 : zW p <= 1000000
 nt : (zas D.f p.town).1.name.size ≠ 0
 ns : p.street ≠ 0 -> (zn D.f p.street).1.name.size ≠ 0
def zpE (o : Option (List zP)) (id : Int) (B : Nat) (e : Ending) (w' : World) : Prop:=
 (o = none /\ e = .returned (.tuple #[.agg #[.int .i64 0,.int .i64 0,.slice none 0 0],.bool false])) \/
  ∃ ns nv,o = some ns /\ e = .returned (.tuple #[.agg #[.int .i64 id,.int .i64 (zO ns),nv],.bool true]) /\ zbw (fun b=>B <= b) w' nv ns
variable {w0 w : World} {D : zeA} {C T S n : Nat} {MT MS : List (Int × Value)}
def zeA.with_ (D : zeA) (X : Nat -> Prop) : zeA:=⟨D.vt,D.vs,D.vr,D.vp,D.f,D.cty,D.fd,D.tx,X⟩
theorem zbd.reset (h : zbd w0 D C T S n w MT MS) (X : Nat -> Prop) (hX : ∀ b,b < w.heap.size -> X b -> D.X b) : zbd w0 (D.with_ X) C T S n w MT MS where
 hf:=h.hf
 hC:=h.hC
 hT:=h.hT
 hS:=h.hS
 CT:=h.CT
 CS:=h.CS
 TS:=h.TS
 below:=h.below
 blk:=h.blk
 mt:=h.mt
 ms:=h.ms
 vt:=fun p hp=>(h.vt p hp).keep (zc.refl _ _) fun b hb x=>⟨x.1,fun y=>x.2 (hX b hb y)⟩
 vs:=fun p hp=>(h.vs p hp).keep (zc.refl _ _) fun b hb x=>⟨x.1,fun y=>x.2 (hX b hb y)⟩
theorem zbd.set_ (h : zbd w0 D C T S n w MT MS) {N : Nat} (hX : D.X N) (h0 : w0.heap.size <= N) (hC : C ≠ N) (hT : T ≠ N) (hS : S ≠ N) (i : Nat) (u : Value) : zbd w0 D C T S n (w.setCell ⟨N,i,none⟩ u) MT MS where
 hf:=h.hf
 hC:=h.hC
 hT:=h.hT
 hS:=h.hS
 CT:=h.CT
 CS:=h.CS
 TS:=h.TS
 below:=h.below.setCell h0 u
 blk:=h.blk.far (p:=⟨N,i,none⟩) hC u
 mt:=h.mt.set_ hT u
 ms:=h.ms.set_ hS u
 vt:=fun p hp=>(h.vt p hp).keep (zc.set_ _ _ u fun x=>x.2 hX) fun _ _ x=>x
 vs:=fun p hp=>(h.vs p hp).keep (zc.set_ _ _ u fun x=>x.2 hX) fun _ _ x=>x
theorem zbd.mono {n' : Nat} (h : zbd w0 D C T S n w MT MS) (hn : n <= n') : zbd w0 D C T S n' w MT MS:={ h with mt:=h.mt.mono hn,ms:=h.ms.mono hn }
theorem zkr.with_ (ok : zkr D) (X : Nat -> Prop) : zkr (D.with_ X):=⟨ok.fd,ok.t,ok.s⟩
theorem zc.trans_new {P : Nat -> Prop} {a b c : World} {N : Nat} (h : zc P a b) (k : zc (fun x=>P x /\ x ≠ N) b c) (hN : a.heap.size <= N) : zc P a c:=
 ⟨Nat.le_trans h.size k.size,fun x hx hp=>(k.block x (Nat.lt_of_lt_of_le hx h.size) ⟨hp,by omega⟩).trans (h.block x hx hp)⟩
def zpJ (w : World) (A : Option Addr) (m c : Nat) (b : Bool) (o : Option (List zP)) : Prop:=b = o.isSome /\ ∀ ns,o = some ns -> zwv w (.slice A m c) ns
theorem ziE.strV {P : Nat -> Prop} {w : World} {A : Option Addr} {m c : Nat} {b : Bool} {o : Option (List zP)} (h : ziE P w (.agg #[.slice A m c,.bool b]) o) (hz : ∀ ns,o = some ns -> ns ≠ []) : zpJ w A m c b o:=by
 rcases h with ⟨rfl,e⟩ | ⟨ns,nv,rfl,e,hn⟩
 ·cases e
  exact ⟨rfl,fun _ h=>by cases h⟩
 ·obtain ⟨A',c',rfl,h1,h2,h3⟩:=hn
  cases e
  exact ⟨rfl,fun ns' h=>by
   cases h
   exact zbw.src ⟨_,_,rfl,h1,h2,h3⟩ (hz _ rfl)⟩
theorem zpJ.below {w w' : World} {A : Option Addr} {m c : Nat} {b : Bool} {o : Option (List zP)} (h : zpJ w A m c b o) (hb : Below w.heap.size w w') : zpJ w' A m c b o:=⟨h.1,fun ns e=>(h.2 ns e).below hb⟩
theorem zpJ.no {w : World} {A : Option Addr} {m c : Nat} {o : Option (List zP)} (h : zpJ w A m c false o) : o = none:=by
 have:=h.1
 cases o with
 | none=>rfl
 | some ns=>cases this
theorem zpJ.yes {w : World} {A : Option Addr} {m c : Nat} {o : Option (List zP)} (h : zpJ w A m c true o) : ∃ ns,o = some ns /\ zwv w (.slice A m c) ns:=by
 have:=h.1
 cases o with
 | none=>cases this
 | some ns=>exact ⟨ns,rfl,h.2 ns rfl⟩
theorem zbT.src {B : Nat} {w : World} {v : Value} {ns : List zP} (h : zbT B w v ns) : zwv w v ns:=by
 by_cases h0 : ns = []
 ·subst h0
  rcases h.1.2 with ⟨rfl,-⟩ | ⟨g,cap,cur,rfl,-,hg,-⟩
  ·exact .inl ⟨rfl,rfl⟩
  ·exact .inr ⟨g,0,cap,rfl,(Array.getElem?_eq_some_iff.1 hg).1,fun j u hu=>by simp at hu⟩
 ·exact h.notesP.src h0
theorem zfu.strV {o : Option (List zP)} {B : Nat} {e : Ending} {w' : World} (h : zfu o B e w') : ∃ A m c b,e = .returned (.agg #[.slice A m c,.bool b]) /\ zpJ w' A m c b o:=by
 rcases h with ⟨rfl,rfl⟩ | ⟨ns,nv,rfl,rfl,hn⟩
 ·exact ⟨_,_,_,_,rfl,rfl,fun _ h=>by cases h⟩
 ·obtain ⟨A,c,rfl⟩:=hn.form_
  exact ⟨_,_,_,_,rfl,rfl,fun ns' h=>by cases h; exact hn.src⟩
def zxY (o : Option (List zP)) (n : Nat) (ks : List Int) : Prop:=∀ ns,o = some ns -> zkq ns /\ ns.length <= n /\ (ns.map (·.kind)).Sublist ks
def zAk (w0 : World) (D : zeA) (C T S n : Nat) (MT' : List (Int × Value)) (z2 : Int) (N7 : Nat) (W2 wx : World) : Prop:=
 ∃ A m c b MS',Blk wx N7 130 #[.slice A m c,.bool b] /\ zpJ wx A m c b (zap D.f D.fd D.tx z2) /\ zbd w0 D C T S n wx MT' MS' /\ zc (fun b=>zaB T S b /\ b ≠ N7) W2 wx
theorem zzL (D : zeA) (T S : Nat) (p : zh) {w : World} (hb : Blk w C 127 (D.cells T S)) : ∀ i,i < (zQ D.f p).length -> ztX w C (17 + i * 4) ((zQ D.f p).getD i zhO.zero):=by
 intro i hi;unfold ztX;rw [hb.cell,hb.cell,hb.cell,hb.cell];unfold zeA.cells;have h5 : i < 5:=hi
 match i,h5 with
 | 0,_=>exact ⟨rfl,rfl,rfl,rfl⟩
 | 1,_=>exact ⟨rfl,rfl,rfl,rfl⟩
 | 2,_=>exact ⟨rfl,rfl,rfl,rfl⟩
 | 3,_=>exact ⟨rfl,rfl,rfl,rfl⟩
 | 4,_=>exact ⟨rfl,rfl,rfl,rfl⟩
theorem zbz.keep {w w' : World} {B : Nat} (h : zbz w) (hB : B = w.heap.size) (hb : Below B w w') : zbz w':=h.below (hB ▸ hb)
theorem zqM (h : zbd w0 D C T S n w MT MS) (_ok : zkr D) (htab : zbz w0) (p : zh) (h0 : 0 <= zW p) (h1 : zW p <= 1000000) (h2 : zam p.number) (h3 : zam p.box) :
  Calls Tryz.prog 56 #[.pointer (some ⟨C,0,none⟩),.slice (some ⟨C,17,none⟩) 5 5,.agg (zfF D.vt D.vs D.vr D.vp ⟨zJ.zero,zz.zero,p⟩ (.slice none 0 0) (.slice none 0 0))] w fun e w'=>zfu (zbu D.f D.fd p) w.heap.size e w' /\ Below w.heap.size w w':=by
 have hf:=h.refer;have hfm:=hf.forms;exact ziK C D.fd C 17 5 (zQ D.f p) D.vt D.vs D.vr D.vp (.slice none 0 0) (.slice none 0 0) ⟨zJ.zero,zz.zero,p⟩ w hfm.1 hfm.2.1 hfm.2.2.1 hfm.2.2.2 ⟨_,_,_,rfl⟩ ⟨_,_,_,rfl⟩ h.blk.lt
  (fun k hk=>(h.blk.cell (5 + k)).trans (zrA D T S k hk)) h.blk.lt (zzL D T S p h.blk) (by simp [zQ])
  (zma (r:=⟨zJ.zero,zz.zero,p⟩) hf ⟨_,_,_,rfl⟩ ⟨_,_,_,rfl⟩ h0 h1 h2 h3 (htab.below h.below))
theorem zpl {w w9 : World} {N8 : Nat} {oA : Option Addr} {om oc : Nat} {ob : Bool} {po : Option (List zP)} (u v : Value) (k9 : Blk w9 N8 130 #[.slice none 0 0,.bool false]) (hN : w.heap.size <= N8) (hb : Below w.heap.size w w9) (hs : zpJ w9 oA om oc ob po) :
  Blk ((w9.setCell ⟨N8,0,none⟩ u).setCell ⟨N8,1,none⟩ v) N8 130 #[u,v] /\ zpJ ((w9.setCell ⟨N8,0,none⟩ u).setCell ⟨N8,1,none⟩ v) oA om oc ob po /\ Below w.heap.size w ((w9.setCell ⟨N8,0,none⟩ u).setCell ⟨N8,1,none⟩ v):=by
 refine ⟨(k9.set_ 0 u).set_ 1 v,⟨hs.1,fun ns e=>?_⟩,(hb.setCell hN u).setCell hN v⟩;rcases hs.2 ns e with h | ⟨b,off,c,e1,e2,e3⟩
 ·exact .inl h
 ·refine .inr ⟨b,off,c,e1,by simpa using e2,fun j x hx=>?_⟩
  have:=e3 j x hx
  have hbn : b ≠ N8:=by
   rintro rfl;rw [k9.cell] at this;obtain ⟨y,-,hy⟩:=List.mem_flatMap.1 (List.mem_of_getElem? hx)
   have hyx : ∃ k z,x = .int k z:=by
    simp [zfo] at hy;rcases hy with rfl | rfl | rfl <;> exact ⟨_,_,rfl⟩
   obtain ⟨k,z,rfl⟩:=hyx
   match off + j,this with
   | 0,h=>simp at h
   | 1,h=>simp at h
   | k + 2,h=>simp at h
  rw [World.cell?_setCell_far _ _ _ _ (by simpa using Ne.symm hbn),World.cell?_setCell_far _ _ _ _ (by simpa using Ne.symm hbn)];exact this
theorem zkD (h : zbd w0 D C T S n w MT MS) (ok : zkr D) (htab : zbz w0) (p : zh) (pk : zAa D p) (hn : n < 900000) (hX : ∀ b,w.heap.size <= b -> ¬ D.X b) : Calls Tryz.prog 34 #[.pointer (some ⟨C,0,none⟩),.agg (zaz p)] w fun e w'=>
  zpE (zeb D p) p.id w.heap.size e w' /\ (∃ MT' MS',zbd w0 D C T S (n + 2) w' MT' MS') /\ zc (zaB T S) w w':=by
 have hk:=Hd pk;have hX':=Hd hX;clear hX pk
 have hm : Hid (zeb D p = match zax D.f D.cty D.fd p.town,zap D.f D.fd D.tx p.street,zbu D.f D.fd p with
  | some a,some b,some d=>some (zlu (a ++ b ++ d))
  | _,_,_=>none):=Hd rfl
 generalize hmo : zeb D p = mo at *;clear hmo;have hpr:=Hd (rfl : p = p);obtain ⟨z0,z1,z2,z3,z4,z5,z6,z7⟩:=p;unfold zaz;simp only;have hb1 : Hid (Below w.heap.size w ((w.alloc (.cells #[.int .i64 z0,.int .i64 z1,.int .i64 z2,.int .i64 z3,.string z4,.string z5,.int .i64 z6,.int .i64 z7] 33)).alloc (.cells #[.int .i64 0,.int .i64 0,.slice none 0 0] 43))):=Hd (((Below.refl _ _).alloc (lQ _) _).alloc (by simp) _);have kP:=Hd ((Blk.new w 33 #[.int .i64 z0,.int .i64 z1,.int .i64 z2,.int .i64 z3,.string z4,.string z5,.int .i64 z6,.int .i64 z7]).alloc (.cells #[.int .i64 0,.int .i64 0,.slice none 0 0] 43));have kR:=Hd (Blk.new_at (w.alloc (.cells #[.int .i64 z0,.int .i64 z1,.int .i64 z2,.int .i64 z3,.string z4,.string z5,.int .i64 z6,.int .i64 z7] 33)) 43 #[.int .i64 0,.int .i64 0,.slice none 0 0] (w.heap.size + 1) (by simp));have h1:=Hd ((h.reset (fun b=>D.X b \/ b = w.heap.size + 1) fun b hb x=>x.resolve_right (by omega)).up hb1.out);go_enter Tryz.func34,Tryz.ntmps34;go_upto_region 1 with fail;have hPW : w.heap.size + 2 <= ((w.alloc (.cells #[.int .i64 z0,.int .i64 z1,.int .i64 z2,.int .i64 z3,.string z4,.string z5,.int .i64 z6,.int .i64 z7] 33)).alloc (.cells #[.int .i64 0,.int .i64 0,.slice none 0 0] 43)).heap.size:=by simp
 generalize (w.alloc (.cells #[.int .i64 z0,.int .i64 z1,.int .i64 z2,.int .i64 z3,.string z4,.string z5,.int .i64 z6,.int .i64 z7] 33)).alloc (.cells #[.int .i64 0,.int .i64 0,.slice none 0 0] 43) = W at *;generalize hR : w.heap.size + 1 = R at *;generalize hP : w.heap.size = P at *;have p1:=kP.out.cell 1;have lP:=kP.out.lt;simp at p1
 have htw:=Hd (zmo h1.out (ok.with_ _) z1 hk.out.town (by omega) fun b hb x=>by
  rcases x with x | x
  ·exact hX'.out b (by omega) x
  ·omega)
 go_wp2_with fail;refine htw.out.mono ?_;rintro e w1 ⟨v,MT',rfl,hv,h2,hk1⟩;obtain ⟨tA,tm,tc,tb,rfl,htb⟩:=hv.form;have hv1:=Hd hv;have htb1:=Hd htb;have hk11:=Hd hk1;have h0T : T < P /\ S < P:=by have:=h.mt.lt; have:=h.ms.lt; omega
 have hPT : zaB T S P:=⟨by omega,by omega⟩;have hRT : zaB T S R:=⟨by omega,by omega⟩;have kP1:=Hd (kP.out.keep hk1 hPT);have kR1:=Hd (kR.out.keep hk1 hRT);have h21:=Hd ((h2.reset (fun b=>(D.X b \/ b = R) \/ b = w1.heap.size + 1) fun b hb x=>x.resolve_right (by omega)).up (((Below.refl w1.heap.size w1).alloc (lQ _) (.cells #[.slice tA tm tc,.bool tb] 130)).alloc (by simp) (.cells #[.slice none 0 0,.bool true] 130)));have k6:=Hd ((Blk.new w1 130 #[.slice tA tm tc,.bool tb]).alloc (.cells #[.slice none 0 0,.bool true] 130));have k7:=Hd (Blk.new_at (w1.alloc (.cells #[.slice tA tm tc,.bool tb] 130)) 130 #[.slice none 0 0,.bool true] (w1.heap.size + 1) (by simp));have hb2:=Hd (((Below.refl w1.heap.size w1).alloc (lQ _) (.cells #[.slice tA tm tc,.bool tb] 130)).alloc (by simp) (.cells #[.slice none 0 0,.bool true] 130));have hWw:=hk1.size;clear hv htb hk1 h2 htw p1 lP h1 kP kR;go_upto_region 2 with fail;have kP2:=Hd (kP1.out.below hb2.out kP1.out.lt);have kR2:=Hd (kR1.out.below hb2.out kR1.out.lt);have hv2:=Hd (hv1.out.keep (Q:=fun b=>zaB T S b /\ b ≠ w1.heap.size + 1) (zc.of_below hb2.out _) fun b hb x=>⟨x.1,by omega⟩);have hk2:=Hd (hk11.out.trans (zc.of_below hb2.out (zaB T S)));have hz2:=hb2.out.size;clear kP1 kR1 hv1 hk11;generalize (w1.alloc (.cells #[.slice tA tm tc,.bool tb] 130)).alloc (.cells #[.slice none 0 0,.bool true] 130) = W2 at *;generalize hN7 : w1.heap.size + 1 = N7 at *;generalize hN6 : w1.heap.size = N6 at *;have p2:=kP2.out.cell 2;have lP2:=kP2.out.lt;simp at p2;go_upto_if 17 with (fail)
 go_cut [21] (fun _ wx=>zAk w0 (D.with_ fun b=>(D.X b \/ b = R) \/ b = N7) C T S (n + 2) MT' z2 N7 W2 wx)
 case first=>
  by_cases hs : z2 = 0
  ·have e1 : (z2 != 0) = false:=by simp [hs]
   have hs':=Hd hs;clear hs;go_wp2;go_meet
   case rel=>exact ⟨none,0,0,true,MS,k7.out,⟨by rw [hs'.out]; rfl,fun ns hns=>by rw [hs'.out] at hns; exact .inl ⟨rfl,(Option.some.inj hns).symm⟩⟩,h21.out.mono (by omega),zc.refl _ _⟩
  ·have e1 : (z2 != 0) = true:=by simp [hs]
   have hs':=Hd hs;clear hs;have p2':=p2
   have hst:=Hd (zjk h21.out (ok.with_ _) z2 hk.out.street (by omega) fun b hb x=>by
    rcases x with (x | x) | x
    ·exact hX'.out b (by omega) x
    ·omega
    ·have:=k7.out.lt; omega)
   go_wp2_with fail;refine hst.out.mono ?_;rintro e w3 ⟨v3,MS',rfl,hv3,h3,hk3⟩;obtain ⟨sA,sm,sc,sb,rfl,hsb⟩:=hv3.form;have hN7T : zaB T S N7:=⟨by omega,by omega⟩;have k73:=k7.out.keep hk3 hN7T;have r0:=k73.cell 0;have r1:=k73.cell 1;have f0:=k73.frozen 0;have f1:=k73.frozen 1;have lV:=k73.lt;simp at r0 r1;have hx7 : (D.with_ fun b=>(D.X b \/ b = R) \/ b = N7).X N7:=.inr rfl;have h0N : w0.heap.size <= N7:=by have:=h.below.size; omega
   have h3s:=Hd ((h3.set_ hx7 h0N (by have:=h.blk.lt; omega) (by omega) (by omega) 0 (.slice sA sm sc)).set_ hx7 h0N (by have:=h.blk.lt; omega) (by omega) (by omega) 1 (.bool sb));have hv3s:=Hd (hv3.keep ((zc.set_ (P:=zgx (D.with_ fun b=>(D.X b \/ b = R) \/ b = N7) T S) w3 ⟨N7,0,none⟩ (.slice sA sm sc) fun x=>x.2 hx7).trans (zc.set_ (P:=zgx (D.with_ fun b=>(D.X b \/ b = R) \/ b = N7) T S) (w3.setCell ⟨N7,0,none⟩ (.slice sA sm sc)) ⟨N7,1,none⟩ (.bool sb) fun x=>x.2 hx7)) fun _ _ x=>x);have k7s:=Hd ((k73.set_ 0 (.slice sA sm sc)).set_ 1 (.bool sb));have hks:=Hd (((hk3.weaken (Q:=fun b=>zaB T S b /\ b ≠ N7) fun _ x=>x.1).trans (zc.set_ (P:=fun b=>zaB T S b /\ b ≠ N7) w3 ⟨N7,0,none⟩ (.slice sA sm sc) fun x=>x.2 rfl)).trans (zc.set_ (P:=fun b=>zaB T S b /\ b ≠ N7) (w3.setCell ⟨N7,0,none⟩ (.slice sA sm sc)) ⟨N7,1,none⟩ (.bool sb) fun x=>x.2 rfl));have hsb':=Hd hsb;clear hv3 h3 hk3 hst hsb k73;go_wp2;go_meet
   case rel=>
    refine ⟨sA,sm,sc,sb,MS',k7s.out,⟨?_,fun ns hns=>?_⟩,h3s.out.mono (by omega),hks.out⟩
    ·unfold zap; rw [if_neg hs'.out]; exact hsb'.out
    ·unfold zap at hns
     rw [if_neg hs'.out] at hns;exact (ziE.strV (o:=zZ D.f D.fd D.tx z2) hv3s.out fun ns e=>znL e (hk.out.ns hs'.out)).2 ns hns
 case rest=>
  obtain ⟨sA,sm,sc,sb,MS',k7c,hsv,h3,hk3⟩:=hcut;have hN7T : N6 + 1 = N7:=hN7;have hP3 : (fun b=>zaB T S b /\ b ≠ N7) P:=⟨hPT,by omega⟩;have hR3 : (fun b=>zaB T S b /\ b ≠ N7) R:=⟨hRT,by omega⟩;have hN63 : (fun b=>zaB T S b /\ b ≠ N7) N6:=⟨⟨by omega,by omega⟩,by omega⟩;have kP3:=Hd (kP2.out.keep hk3 hP3);have kR3:=Hd (kR2.out.keep hk3 hR3);have k63:=Hd (k6.out.keep hk3 hN63);have k73:=Hd k7c;have hv3:=Hd (hv2.out.keep (Q:=zaB T S) hk3 (fun b _ x=>x.1));have h33:=Hd (h3.reset (fun b=>D.X b \/ b = R) fun b _ x=>.inl x);have hk33 : Hid (zc (zaB T S) W wc):=Hd (hk2.out.trans_new hk3 (by omega));clear hk3 h3 hv2 kP2 kR2 k6 k7c k7 h21 hb2 hk2 p2 lP2 hP3 hR3 hN63;have hts : Hid (zpJ wc tA tm tc tb (zax D.f D.cty D.fd z1)):=Hd (hv3.out.strV fun ns e=>zrm e hk.out.nt);have hss : Hid (zpJ wc sA sm sc sb (zap D.f D.fd D.tx z2)):=Hd hsv;have hpt : Hid (zxY (zax D.f D.cty D.fd z1) 2 [8,9]):=Hd fun ns e=>⟨(zdV e).1,(zdV e).2,zjI e⟩
  have hps : Hid (zxY (zap D.f D.fd D.tx z2) 3 [3,4,5]):=Hd fun ns e=>by
   refine ⟨?_,?_,zhp e⟩
   ·unfold zap at e
    split at e
    ·cases e; exact fun _ h=>by cases h
    ·exact (zdL e).1
   ·unfold zap at e
    split at e
    ·cases e; exact Nat.zero_le _
    ·exact (zdL e).2
  have hpo : Hid (zxY (zbu D.f D.fd ⟨z0,z1,z2,z3,z4,z5,z6,z7⟩) 5 [1,2,6,7,10]):=Hd fun ns e=>⟨(zfU e).1,(zfU e).2,zim e⟩
  have hback : Hid (∀ (w' : World) (a b c : Value),Below wc.heap.size wc w' -> (∃ MT' MS',zbd w0 D C T S (n + 2) (((w'.setCell ⟨R,0,none⟩ a).setCell ⟨R,1,none⟩ b).setCell ⟨R,2,none⟩ c) MT' MS') /\ zc (zaB T S) w (((w'.setCell ⟨R,0,none⟩ a).setCell ⟨R,1,none⟩ b).setCell ⟨R,2,none⟩ c)):=Hd fun w' a b c hb=>by
   have hx7 : (D.with_ fun b=>D.X b \/ b = R).X R:=.inr rfl;have g0 : w0.heap.size <= R:=by have:=h.below.size; omega
   have gC : C ≠ R:=by have:=h.blk.lt; omega
   have gT : T ≠ R:=by omega
   have gS : S ≠ R:=by omega
   have h4:=h33.out.up hb;have h5:=((h4.set_ hx7 g0 gC gT gS 0 a).set_ hx7 g0 gC gT gS 1 b).set_ hx7 g0 gC gT gS 2 c;refine ⟨⟨_,_,h5.reset D.X fun b _ x=>.inl x⟩,?_⟩;have k1 : zc (zaB T S) w W:=zc.of_below (by rw [hP]; exact hb1.out) _;have k2:=(k1.trans hk33.out).trans (zc.of_below hb (zaB T S));refine zc.trans_new (N:=R) (zc.trans_new (N:=R) (zc.trans_new (N:=R) k2 (zc.set_ _ _ _ fun x=>x.2 rfl) (by omega)) (zc.set_ _ _ _ fun x=>x.2 rfl) (by omega)) (zc.set_ _ _ _ fun x=>x.2 rfl) (by omega)
  clear hsv hv3 hpr htb1;generalize zax D.f D.cty D.fd z1 = tv at *;generalize zap D.f D.fd D.tx z2 = so at *;have r0:=k63.out.cell 1;have r1:=k73.out.cell 1;have q0:=kR3.out.cell 0;have q1:=kR3.out.cell 1;have q2:=kR3.out.cell 2;have g0:=kR3.out.frozen 0;have g1:=kR3.out.frozen 1;have g2:=kR3.out.frozen 2;have l6:=k63.out.lt;have l7:=k73.out.lt;have lR:=kR3.out.lt;simp at r0 r1 q0 q1 q2
  cases tb with
  | false=>
   have hmo : Hid (mo = none):=Hd (by rw [hm.out,hts.out.no]);go_wp2;refine bodyPost_ret (zk (P:=Tryz.prog) Tryz.results34 _ _ _ _ _ _ rfl (((kR3.out.set_ 0 _).set_ 1 _).set_ 2 _) Tryz.underlying43 rfl (by kernel_rfl)) rfl ?_;exact ⟨.inl ⟨hmo.out,rfl⟩,hback.out _ _ _ _ (Below.refl _ _)⟩
  | true=>
   obtain ⟨na,rfl,hsa⟩:=hts.out.yes
   cases sb with
   | false=>
    have hmo : Hid (mo = none):=Hd (by rw [hm.out,hss.out.no]);go_wp2;refine bodyPost_ret (zk (P:=Tryz.prog) Tryz.results34 _ _ _ _ _ _ rfl (((kR3.out.set_ 0 _).set_ 1 _).set_ 2 _) Tryz.underlying43 rfl (by kernel_rfl)) rfl ?_;exact ⟨.inl ⟨hmo.out,rfl⟩,hback.out _ _ _ _ (Below.refl _ _)⟩
   | true=>
    obtain ⟨nb,rfl,hsb⟩:=hss.out.yes;have hsa':=Hd hsa;have hsb':=Hd hsb;clear hsa hsb hts hss q0 q1 q2 g0 g1 g2 lR;go_upto_region 6 with fail;clear r0 r1 l6 l7;generalize hpv : zbu D.f D.fd ⟨z0,z1,z2,z3,z4,z5,z6,z7⟩ = po at *;have hpv':=Hd hpv;clear hpv
    go_cut [8] (fun s8 wx=>∃ N8 oA om oc ob,s8 = .pointer (some ⟨N8,0,none⟩) /\ Hid (Blk wx N8 130 #[.slice oA om oc,.bool ob] /\ zpJ wx oA om oc ob po /\ Below wc.heap.size wc wx))
    case first=>
     obtain ⟨⟨a1,a2,a3,e1⟩,⟨b1,b2,b3,e2⟩,⟨d1,d2,d3,e3⟩,⟨f1,f2,f3,e4⟩⟩:=h33.out.refer.forms;have x0 : Hid (∀ w1,Below wc.heap.size wc w1 -> w1.cell? ⟨C,0,none⟩ = some D.vt):=Hd fun w1 h1=>(h33.out.up h1).cell 0;have x1 : Hid (∀ w1,Below wc.heap.size wc w1 -> w1.cell? ⟨C,1,none⟩ = some D.vs):=Hd fun w1 h1=>(h33.out.up h1).cell 1;have x2 : Hid (∀ w1,Below wc.heap.size wc w1 -> w1.cell? ⟨C,2,none⟩ = some D.vr):=Hd fun w1 h1=>(h33.out.up h1).cell 2;have x3 : Hid (∀ w1,Below wc.heap.size wc w1 -> w1.cell? ⟨C,3,none⟩ = some D.vp):=Hd fun w1 h1=>(h33.out.up h1).cell 3;have hpp:=Hd fun w1 (h1 : Below wc.heap.size wc w1)=>kP3.out.below h1 kP3.out.lt;have hrec:=Hd (fun w1 (h1 : Below wc.heap.size wc w1)=>zqM (h33.out.up h1) (ok.with_ _) htab ⟨z0,z1,z2,z3,z4,z5,z6,z7⟩ hk.out.n0 hk.out.n1 hk.out.number hk.out.box);simp only [zeA.with_] at hrec e1 e2 e3 e4;rw [hpv'.out] at hrec;simp only [e1,e2,e3,e4] at x0 x1 x2 x3 hrec;clear e1 e2 e3 e4;unfold zfF zJ.zero zz.zero at hrec;simp only at hrec;refine zcw (C:=fun w1=>Below wc.heap.size wc w1) [true,true,true,true,true,true,true,true,true,true,true,false,false] [11,12] (by kernel_rfl) (by kernel_rfl) (by kernel_rfl) (fun _ h=>h) ?A6 ?q6 ?t6
     case q6=>
      intro S1 hS1 hSC hne;have y0:=fun (u : zaP S1)=>x0.out u.wld (hSC u.wld u.mem);have y1:=fun (u : zaP S1)=>x1.out u.wld (hSC u.wld u.mem);have y2:=fun (u : zaP S1)=>x2.out u.wld (hSC u.wld u.mem);have y3:=fun (u : zaP S1)=>x3.out u.wld (hSC u.wld u.mem);have yp:=fun (u : zaP S1)=>hpp.out u.wld (hSC u.wld u.mem);simp only [zbM,if_true,if_false,Bool.false_eq_true]
      repeat (go_big_quiet_step (fail))
      refine zcv rfl 33 (.tmp 3) rfl P rfl 33 #[.int .i64 z0,.int .i64 z1,.int .i64 z2,.int .i64 z3,.string z4,.string z5,.int .i64 z6,.int .i64 z7] _ (by rintro _ ⟨u,rfl⟩; exact yp u) Tryz.underlying33 rfl (by kernel_rfl) ?_;simp only [Act.put,sX,sS,sZ]
      repeat (go_big_quiet_step (fail))
      refine wpQuiet_nil ?_;rfl
     clear x0 x1 x2 x3 hpp;refine zaR [11,12] (by kernel_rfl) fun i hi w1 hb1=>?_;have hbw1:=Hd hb1;rcases List.mem_cons.1 hi with rfl | hi
     ·refine ⟨_,rfl,zy (ops:=#[]) (K:=fun a' w'=>(∀ w2,Below w'.heap.size w' w2 -> Below wc.heap.size wc w2) /\ mkZ Tryz.prog _ _ (fun w1=>Below wc.heap.size wc w1) _ 1 [12] a' w') rfl fun Q' hQ=>?_⟩
      simp only [gX,gQ,gZ];have hc:=Hd (hrec.out w1 hb1);clear hrec hb1;go_wp2_with fail;refine hc.out.mono ?_;rintro e w2 ⟨hverd,hb2⟩;obtain ⟨oA,om,oc,ob,rfl,hsv⟩:=hverd.strV;have hb2':=za hbw1.out hb2;go_wp2;refine hQ _ _ rfl ⟨fun w3 h3=>za hb2' h3,?_⟩;have hb2h:=Hd hb2';have hsvh:=Hd hsv;clear hc hverd hsv hb2 hb2' hQ hbw1;refine zaR [12] (by kernel_rfl) fun i hi w3 hb3=>?_;obtain rfl:=mS.1 hi;refine ⟨_,rfl,zy (ops:=#[]) (K:=fun a' w'=>(∀ w2,Below w'.heap.size w' w2 -> Below wc.heap.size wc w2) /\ mkZ Tryz.prog _ _ (fun w1=>Below wc.heap.size wc w1) _ 0 [] a' w') rfl fun Q' hQ=>?_⟩;simp only [gX,gQ,gZ];have hb3':=za hb2h.out hb3;have k8:=Hd (Blk.new w3 130 #[.slice none 0 0,.bool false]);have hb8':=Hd (zq hb3' (.cells #[.slice none 0 0,.bool false] 130));have hsv8:=Hd (hsvh.out.below (hb3.alloc (by exact hb3.size) (.cells #[.slice none 0 0,.bool false] 130)));have hN8 : wc.heap.size <= w3.heap.size:=hb3'.size;clear hb3' hsvh hb2h hb3;go_wp2;refine hQ _ _ rfl ⟨fun w4 h4=>za hb8'.out h4,?_⟩;clear hQ;generalize w3.heap.size = N8 at *;refine zii rfl [] [] _ _ rfl (fun j hj=>by cases hj) rfl ?_;intro w9 hb9;have k9:=k8.out.below hb9 k8.out.lt;have s0:=k9.cell 0;have s1:=k9.cell 1;have s2:=k9.frozen 0;have s3:=k9.frozen 1;have s4:=k9.lt;simp at s0 s1;have hfin:=Hd (zpl (.slice oA om oc) (.bool ob) k9 hN8 (za hb8'.out hb9) (hsv8.out.below hb9));clear k9 k8 hb8' hsv8 hb9;go_wp2;go_meet
      case rel=>exact ⟨N8,oA,om,oc,ob,rfl,hfin⟩
     ·obtain rfl:=mS.1 hi
      refine ⟨_,rfl,zy (ops:=#[]) (K:=fun a' w'=>(∀ w2,Below w'.heap.size w' w2 -> Below wc.heap.size wc w2) /\ mkZ Tryz.prog _ _ (fun w1=>Below wc.heap.size wc w1) _ 1 [11] a' w') rfl fun Q' hQ=>?_⟩;simp only [gX,gQ,gZ];have k8:=Hd (Blk.new w1 130 #[.slice none 0 0,.bool false]);have hb8':=Hd (zq hb1 (.cells #[.slice none 0 0,.bool false] 130));have hN8 : wc.heap.size <= w1.heap.size:=hb1.size;clear hb1 hbw1;go_wp2;refine hQ _ _ rfl ⟨fun w4 h4=>za hb8'.out h4,?_⟩;clear hQ;generalize w1.heap.size = N8 at *;refine zaR [11] (by kernel_rfl) fun i hi w3 hb3=>?_;obtain rfl:=mS.1 hi;refine ⟨_,rfl,zy (ops:=#[]) (K:=fun a' w'=>(∀ w2,Below w'.heap.size w' w2 -> Below wc.heap.size wc w2) /\ mkZ Tryz.prog _ _ (fun w1=>Below wc.heap.size wc w1) _ 0 [] a' w') rfl fun Q' hQ=>?_⟩;simp only [gX,gQ,gZ];have hb3':=za hb8'.out hb3;have k83:=k8.out.below hb3 k8.out.lt;have hc:=Hd (hrec.out w3 hb3');clear hrec;go_wp2_with fail;refine hc.out.mono ?_;rintro e w2 ⟨hverd,hb2⟩;obtain ⟨oA,om,oc,ob,rfl,hsv⟩:=hverd.strV;have hb2':=za hb3' hb2;have k82:=k83.below hb2 k83.lt;go_wp2;refine hQ _ _ rfl ⟨fun w3 h3=>za hb2' h3,?_⟩;have hsv8:=Hd hsv;clear hb8' k8;have hb8':=Hd hb2';have k8:=Hd k82;clear hc hverd hsv hb2 hb2' hQ k82 k83 hb3' hb3;refine zii rfl [] [] _ _ rfl (fun j hj=>by cases hj) rfl ?_;intro w9 hb9;have k9:=k8.out.below hb9 k8.out.lt;have s0:=k9.cell 0;have s1:=k9.cell 1;have s2:=k9.frozen 0;have s3:=k9.frozen 1;have s4:=k9.lt;simp at s0 s1;have hfin:=Hd (zpl (.slice oA om oc) (.bool ob) k9 hN8 (za hb8'.out hb9) (hsv8.out.below hb9));clear k9 k8 hb8' hsv8 hb9;go_wp2;go_meet
      case rel=>exact ⟨N8,oA,om,oc,ob,rfl,hfin⟩
    case rest=>
     obtain ⟨N8,oA,om,oc,ob,rfl,hx⟩:=hcut;rename World=>wx;have k8:=Hd hx.out.1;have hso:=Hd hx.out.2.1;have hb4:=Hd hx.out.2.2;have kP4:=Hd (kP3.out.below hb4.out kP3.out.lt);have kR4:=Hd (kR3.out.below hb4.out kR3.out.lt);have k64:=Hd (k63.out.below hb4.out k63.out.lt);have k74:=Hd (k73.out.below hb4.out k73.out.lt);have hsa4:=Hd (hsa'.out.below hb4.out);have hsb4:=Hd (hsb'.out.below hb4.out);have hRx : R < wx.heap.size:=kR4.out.lt;clear hx kP3 kR3 k63 k73 hsa' hsb' h33 hpv';have r0:=k8.out.cell 1;have q0:=kR4.out.cell 0;have q1:=kR4.out.cell 1;have q2:=kR4.out.cell 2;have g0:=kR4.out.frozen 0;have g1:=kR4.out.frozen 1;have g2:=kR4.out.frozen 2;have l8:=k8.out.lt;simp at r0 q0 q1 q2
     cases ob with
     | false=>
      have hmo : Hid (mo = none):=Hd (by rw [hm.out,hso.out.no]);go_wp2;refine bodyPost_ret (zk (P:=Tryz.prog) Tryz.results34 _ _ _ _ _ _ rfl (((kR4.out.set_ 0 _).set_ 1 _).set_ 2 _) Tryz.underlying43 rfl (by kernel_rfl)) rfl ?_;exact ⟨.inl ⟨hmo.out,rfl⟩,hback.out _ _ _ _ hb4.out⟩
     | true=>
      obtain ⟨nd,rfl,hsd⟩:=hso.out.yes;have hmo : Hid (mo = some (zlu (na ++ nb ++ nd))):=hm;have hA:=hpt.out na rfl;have hB:=hps.out nb rfl;have hD:=hpo.out nd rfl;have hap:=Hd (zry hA.2.2 hB.2.2 hD.2.2)
      have hch : Hid (zkq (na ++ nb ++ nd) /\ (na ++ nb ++ nd).length <= 10):=Hd ⟨fun x hx=>by
       rcases List.mem_append.1 hx with hx | hx
       ·rcases List.mem_append.1 hx with hx | hx
        ·exact hA.1 x hx
        ·exact hB.1 x hx
       ·exact hD.1 x hx,by rw [List.length_append,List.length_append]; have:=hA.2.1; have:=hB.2.1; have:=hD.2.1; omega⟩
      have hl3 : Hid (na.length <= 2 /\ nb.length <= 3 /\ nd.length <= 5):=Hd ⟨hA.2.1,hB.2.1,hD.2.1⟩;have hsd4:=Hd hsd;clear hso hsd hm hA hB hD hpt hps hpo q0 q1 q2 g0 g1 g2;have r6:=k64.out.cell 0;have r7:=k74.out.cell 0;have r8:=k8.out.cell 0;have l6:=k64.out.lt;have l7:=k74.out.lt;simp at r6 r7 r8;have hb9:=Hd ((Below.refl wx.heap.size wx).alloc (lQ _) (.cells #[.slice tA tm tc,.slice sA sm sc,.slice oA om oc] 41))
      have hcon:=Hd (zuz [(.slice tA tm tc,na),(.slice sA sm sc,nb),(.slice oA om oc,nd)] wx.heap.size 0 3 (wx.alloc (.cells #[.slice tA tm tc,.slice sA sm sc,.slice oA om oc] 41)) (by simp) (fun i hi=>by
       have kk:=Blk.new wx 41 #[.slice tA tm tc,.slice sA sm sc,.slice oA om oc]
       match i,hi with
       | 0,_=>exact ⟨kk.cell 0,hsa4.out.below hb9.out⟩
       | 1,_=>exact ⟨kk.cell 1,hsb4.out.below hb9.out⟩
       | 2,_=>exact ⟨kk.cell 2,hsd4.out.below hb9.out⟩) (by simp) (by simp [zfk]; have:=hl3.out; omega))
      simp only [List.length_cons,List.length_nil,Nat.zero_add,Nat.reduceAdd,zoa,List.flatMap_cons,List.flatMap_nil,List.append_nil] at hcon;go_wp2_with fail;refine hcon.out.mono ?_;rintro e w9 ⟨gv,rfl,hown,hbg⟩;generalize hnl0 : na ++ (nb ++ nd) = nl at hown;have hnl : Hid (na ++ nb ++ nd = nl):=Hd (by rw [List.append_assoc]; exact hnl0);clear hnl0;rw [hnl.out] at hch hap hmo;have hown':=Hd hown;have hb10:=Hd (za hb9.out hbg);obtain ⟨gA,gc,rfl⟩:=hown.form_;have hsort:=Hd (zpi hown (by have:=hch.out.2; omega));clear hcon hbg hown hsa4 hsb4 hsd4 k64 k74 k8 r0 r6 r7 r8 l6 l7 l8;go_wp2_with fail;refine hsort.out.mono ?_;rintro e w11 ⟨rfl,ns,hperm,hsrt,hown2,hgr⟩;have hb11:=Hd (hb10.out.grown hgr hb10.out.size fun k hk=>Nat.le_trans hb9.out.size (hown'.out.block_lt hk).1);have hns : Hid (ns = zlu nl):=Hd (zsb hperm hsrt hap.out);have hn2:=Hd (hown2.notesP);have hch2 : Hid (zkq ns /\ ns.length <= 10):=Hd ⟨fun x hx=>hch.out.1 x (hperm.mem_iff.1 hx),by rw [hperm.length_eq]; exact hch.out.2⟩;have hlen : Hid (nl.length = ns.length):=Hd hperm.length_eq.symm;clear hsort hperm hsrt hown2 hgr hap hch hown';go_upto_region 11 with fail;have kP5:=kP4.out.below hb11.out kP4.out.lt;have kR5:=Hd (kR4.out.below hb11.out kR4.out.lt);have htot:=Hd (fun (u : Ups w11)=>zko (.slice gA nl.length gc) ns u.wld (hn2.out.notes.stays (zo.of u.up)) hch2.out.1 (by have:=hch2.out.2; omega));have y0 : ∀ u : Ups w11,u.wld.cell? ⟨P,0,none⟩ = some (.int .i64 z0):=fun u=>(kP5.ups u).cell 0;generalize nl.length = nm at *;clear kP5 kP4 hch2 hnl hlen hl3;generalize htt : zO ns = tt at *;have htt':=Hd htt;clear htt;refine zL 6 (by kernel_rfl) (by kernel_rfl) ?_;simp only [tS,tZ,dS,dZ]
      repeat (go_big_quiet_step ((go_at_call 61; exact zbe (htot.out _))))
      refine wpQuiet_nil ?_;rintro _ ⟨u,rfl⟩;have kR6:=kR5.out.ups u;have hb12:=Hd (za hb11.out u.up);have hn3:=Hd (hn2.out.keep (Q:=fun b=>wx.heap.size <= b) (zc.of_below u.up _) fun b _ hb=>Nat.le_trans hb9.out.size hb);clear htot y0 kR5 hn2 hb11;generalize u.wld = WU at *;have q0:=kR6.cell 0;have q1:=kR6.cell 1;have q2:=kR6.cell 2;have g0:=kR6.frozen 0;have g1:=kR6.frozen 1;have g2:=kR6.frozen 2;have lR:=kR6.lt;simp at q0 q1 q2;have kR7:=Hd kR6;clear kR6;go_wp2;refine bodyPost_ret (zk (P:=Tryz.prog) Tryz.results34 _ _ _ _ _ _ rfl (((kR7.out.set_ 0 _).set_ 1 _).set_ 2 _) Tryz.underlying43 rfl (by kernel_rfl)) rfl ?_;refine ⟨.inr ⟨ns,_,by rw [hmo.out,hns.out],by rw [htt'.out]; rfl,?_⟩,hback.out _ _ _ _ (za hb4.out hb12.out)⟩;have hRn : ¬ (wx.heap.size <= R):=by omega
      have hwx : w.heap.size <= wx.heap.size:=by omega
      exact zbw.weaken (((hn3.out.keep (zc.set_ _ _ _ hRn) fun _ _ x=>x).keep (zc.set_ _ _ _ hRn) fun _ _ x=>x).keep (zc.set_ _ _ _ hRn) fun _ _ x=>x) fun b _ hb=>Nat.le_trans hwx hb
end
end Go.Proofs.YtggimnndflkjkaaGreatDoor
