import Derived.Test.YtggimnndflkjkaaGreatDoorR01
import Derived.Test.YtggimnndflkjkaaGreatDoorR40
import Derived.Test.YtggimnndflkjkaaGreatDoorR45
import Derived.Test.YtggimnndflkjkaaGreatDoorR46
import Derived.Deep.Upon
set_option linter.all false
set_option maxRecDepth 100000
set_option maxHeartbeats 0
namespace Go.Proofs.YtggimnndflkjkaaGreatDoor
section
open Go.RowKit Go.Maps
theorem ztD {ps : List zu} (m : Nat) (h : zH ps) : zH (zbV m ps):=fun q hq=>h q (List.mem_filter.1 hq).1
theorem zBn {ok : Bool} {l : List zeC} {B : Nat} {e : Ending} {w' : World} (hok : ok = true) (h : ztS ok l B e w') : ∃ v ms,e = .returned (.tuple #[v,.int .i64 0]) /\ zes B w' v ms /\ ms.map zcl.plain = l:=by
 subst hok;rcases h with ⟨h,-⟩ | ⟨-,h⟩
 ·cases h
 ·exact h
theorem zCj {ok : Bool} {l : List zby} {B : Nat} {e : Ending} {w' : World} (hok : ok = true) (h : zhN ok l B e w') : ∃ v pl,e = .returned (.tuple #[v,.int .i64 0]) /\ zco B w' v pl /\ pl.Perm l:=by
 subst hok;rcases h with ⟨h,-⟩ | ⟨-,h⟩
 ·cases h
 ·exact h
theorem zBE (m j : Nat) (h : Nat.testBit 1640 j = false) : (m &&& 1640).testBit j = false:=by rw [Nat.testBit_and,h,Bool.and_false]
theorem zCb (x : zi) (p : zh) (hp : p ∈ (zb x).points) (m : Nat) : zR (zcT (zb x) p) (zbV (m &&& 1640) (zm (zX (zb x) p))) = true:=by
 obtain ⟨t,i,-,-,hb⟩:=zcx x p hp;rw [zsZ,zqG x t p hb];refine (zwQ (zxR x t p hb) (fun h=>?_)).1 ?_ ?_
 ·rw [zBE m 8 (by decide)] at h; cases h
 ·unfold zbZ
  rw [zBE m 1 (by decide),zBE m 2 (by decide),zBE m 4 (by decide),zBE m 7 (by decide)];rfl
 ·rw [zBE m 8 (by decide)]; rfl
theorem zCv (m : Nat) : m &&& 1640 < 65536:=Nat.lt_of_le_of_lt Nat.and_le_right (by decide)
structure zCx (pts : List zh) (mo : zh -> Option (List zP)) (AL : List zeC) (SL TL : List zby) : Prop where
 good : ∀ m ∈ AL,zCw m
 up : AL.Pairwise fun a b=>a.cost < b.cost \/ (a.cost = b.cost /\ a.point < b.point)
 apart : AL.Pairwise fun a b=>a.point ≠ b.point
 fitA : ∀ m ∈ AL,zam m.point
 fitQ : ∀ q ∈ pts,zam q.id
 has : ∀ q ∈ pts,(∃ m ∈ AL,m.point = q.id) ↔ (mo q).isSome = true
 near : ∀ q ∈ pts,∀ ns,mo q = some ns -> q.street = 0 \/ ∃ p ∈ SL,p.street = q.street /\ p.town = q.town /\ p.cost <= zO ns
 home : ∀ q ∈ pts,∀ ns,mo q = some ns -> ∃ p ∈ TL,p.town = q.town /\ p.cost <= zO ns /\ p.street = 0
theorem zCq (x : zi) (c : Int) (ps : List zu) : zCx (zb x).points (zaU (zb x) c ps) (ziF (zb x) c ps) (zfi (zb x) c ps) (zfE (zb x) c ps) where
 good:=fun m hm=>by
  obtain ⟨q,-,ns,h,rfl⟩:=zBT.1 hm;exact zCg h
 up:=zCz (zce x) c ps
 apart:=zBV (zce x) c ps
 fitA:=fun m hm=>by
  obtain ⟨q,hq,ns,-,rfl⟩:=zBT.1 hm;have:=znZ x q hq;exact ⟨by simp only; omega,by simp only; omega⟩
 fitQ:=fun q hq=>by
  have:=znZ x q hq;exact ⟨by omega,by omega⟩
 has:=fun q hq=>zCu (zce x) c ps hq
 near:=fun q hq ns h=>zCh x c ps hq h
 home:=fun q hq ns h=>zCf x c ps hq h
structure zBD (w : World) (b : Nat) (i : Nat) (m : zeC) : Prop where
 c0 : w.cell? ⟨b,i * 3,none⟩ = some (.int .i64 m.point)
 c1 : w.cell? ⟨b,i * 3 + 1,none⟩ = some (.int .i64 m.cost)
 c2 : ∃ A2 c2,w.cell? ⟨b,i * 3 + 2,none⟩ = some (.slice A2 m.notes.length c2) /\ (0 < m.notes.length -> ∃ nb no,A2 = some ⟨nb,no,none⟩ /\ nb < w.heap.size /\ ∀ k,k < m.notes.length -> zjh w nb (no + k * 3) (m.notes.getD k zP.zero))
theorem zCl {B : Nat} {w : World} {A : Option Addr} {c : Nat} {ms : List zcl} (h : zes B w (.slice A ms.length c) ms) (h0 : 0 < ms.length) : ∃ b,A = some ⟨b,0,none⟩ /\ b < w.heap.size /\ ∀ i (hi : i < ms.length),zBD w b i (ms[i].plain):=by
 obtain ⟨A',c',e,-,-,hA⟩:=h.sl (fun _=>rfl);injection e with e1 e2 e3;subst e1;obtain ⟨b,off,rfl,hb,-,hi⟩:=hA h0;obtain ⟨rfl,-,-⟩:=hi 0 h0;refine ⟨b,rfl,hb,fun i hil=>?_⟩;obtain ⟨-,-,hc⟩:=hi i hil;have c0:=hc hil 0 (by omega);have c1:=hc hil 1 (by omega);have c2:=hc hil 2 (by omega);simp only [zgi,zcl.value,List.getElem?_cons_zero,List.getElem?_cons_succ,Nat.zero_add,Nat.add_zero] at c0 c1 c2;obtain ⟨A3,c3,e4,-,-,hN⟩:=h.2 _ (List.getElem_mem hil);unfold zcl.value at e4;injection e4 with e5 e6 e7;refine ⟨c0,c1,ms[i].A,ms[i].c,?_,fun hp=>?_⟩
 ·rw [c2,e6]; rfl
 ·obtain ⟨nb,no,e8,h8,-,h9⟩:=hN hp
  exact ⟨nb,no,by rw [e5,e8],h8,h9⟩
theorem zBD.below {w w' : World} {b i : Nat} {m : zeC} (h : zBD w b i m) (hb : b < w.heap.size) (k : Below w.heap.size w w') : zBD w' b i m:=by
 obtain ⟨h0,h1,A2,c2,h2,h3⟩:=h;refine ⟨(k.cell (p:=⟨b,_,none⟩) hb).trans h0,(k.cell (p:=⟨b,_,none⟩) hb).trans h1,A2,c2,(k.cell (p:=⟨b,_,none⟩) hb).trans h2,fun hp=>?_⟩;obtain ⟨nb,no,e,hn,hi⟩:=h3 hp;refine ⟨nb,no,e,Nat.lt_of_lt_of_le hn k.size,fun j hj=>?_⟩;obtain ⟨g0,g1,g2⟩:=hi j hj;exact ⟨(k.cell (p:=⟨nb,_,none⟩) hn).trans g0,(k.cell (p:=⟨nb,_,none⟩) hn).trans g1,(k.cell (p:=⟨nb,_,none⟩) hn).trans g2⟩
theorem zCt {B : Nat} {w : World} {A : Option Addr} {c : Nat} {pl : List zby} (h : zco B w (.slice A pl.length c) pl) (h0 : 0 < pl.length) : ∃ b,A = some ⟨b,0,none⟩ /\ b < w.heap.size /\ ∀ i (hi : i < pl.length),w.cell? ⟨b,i * 3,none⟩ = some (.int .i64 (pl[i]).town) /\ w.cell? ⟨b,i * 3 + 1,none⟩ = some (.int .i64 (pl[i]).street) /\ w.cell? ⟨b,i * 3 + 2,none⟩ = some (.int .i64 (pl[i]).cost):=by
 obtain ⟨A',c',e,-,-,hA⟩:=zaw.sl h (fun _=>rfl);injection e with e1 e2 e3;subst e1;obtain ⟨b,off,rfl,hb,-,hi⟩:=hA h0;obtain ⟨rfl,-,-⟩:=hi 0 h0;refine ⟨b,rfl,hb,fun i hil=>?_⟩;obtain ⟨-,-,hc⟩:=hi i hil;have c0:=hc hil 0 (by omega);have c1:=hc hil 1 (by omega);have c2:=hc hil 2 (by omega);simp only [zgF,List.getElem?_cons_zero,List.getElem?_cons_succ,Nat.zero_add,Nat.add_zero] at c0 c1 c2;exact ⟨c0,c1,c2⟩
def zBU (w : World) (v : Value) (AL : List zeC) : Prop:=∃ A c,v = .slice A AL.length c /\ AL.length <= 9223372036854775807 /\ (0 < AL.length -> ∃ b,A = some ⟨b,0,none⟩ /\ b < w.heap.size /\ ∀ i (hi : i < AL.length),zBD w b i AL[i])
theorem zCy {B : Nat} {w : World} {v : Value} {ms : List zcl} {AL : List zeC} (h : zes B w v ms) (e : ms.map zcl.plain = AL) : zBU w v AL:=by
 obtain ⟨A,c,rfl⟩:=h.form_;obtain ⟨_,_,em,h1,h2,-⟩:=h.sl (fun _=>rfl);have hl : ms.length = AL.length:=by rw [<- e,List.length_map]
 refine ⟨A,c,by rw [hl],by unfold maxLen at h2; omega,fun h0=>?_⟩;obtain ⟨b,hA,hb,hi⟩:=zCl h (by omega);refine ⟨b,hA,hb,fun i hil=>?_⟩;have:=hi i (by omega);have e2 : AL[i] = (ms[i]'(by omega)).plain:=by subst e; rw [List.getElem_map]
 rw [e2];exact this
theorem zBU.below {w w' : World} {v : Value} {AL : List zeC} (h : zBU w v AL) (k : Below w.heap.size w w') : zBU w' v AL:=by
 obtain ⟨A,c,e,h1,h2⟩:=h;refine ⟨A,c,e,h1,fun h0=>?_⟩;obtain ⟨b,hA,hb,hi⟩:=h2 h0;exact ⟨b,hA,Nat.lt_of_lt_of_le hb k.size,fun i hil=>(hi i hil).below hb k⟩
def zBz (w : World) (v : Value) (pl : List zby) : Prop:=∃ A c,v = .slice A pl.length c /\ pl.length <= 9223372036854775807 /\ (0 < pl.length -> ∃ b,A = some ⟨b,0,none⟩ /\ b < w.heap.size /\ ∀ i (hi : i < pl.length),w.cell? ⟨b,i * 3,none⟩ = some (.int .i64 (pl[i]).town) /\ w.cell? ⟨b,i * 3 + 1,none⟩ = some (.int .i64 (pl[i]).street) /\ w.cell? ⟨b,i * 3 + 2,none⟩ = some (.int .i64 (pl[i]).cost))
theorem zCr {B : Nat} {w : World} {v : Value} {pl : List zby} (h : zco B w v pl) : zBz w v pl:=by
 obtain ⟨A,c,rfl⟩:=h.form_;obtain ⟨_,_,em,h1,h2,-⟩:=zaw.sl h (fun _=>rfl);exact ⟨A,c,rfl,by unfold maxLen at h2; omega,zCt h⟩
theorem zBz.below {w w' : World} {v : Value} {pl : List zby} (h : zBz w v pl) (k : Below w.heap.size w w') : zBz w' v pl:=by
 obtain ⟨A,c,e,h1,h2⟩:=h;refine ⟨A,c,e,h1,fun h0=>?_⟩;obtain ⟨b,hA,hb,hi⟩:=h2 h0;refine ⟨b,hA,Nat.lt_of_lt_of_le hb k.size,fun i hil=>?_⟩;obtain ⟨g0,g1,g2⟩:=hi i hil;exact ⟨(k.cell (p:=⟨b,_,none⟩) hb).trans g0,(k.cell (p:=⟨b,_,none⟩) hb).trans g1,(k.cell (p:=⟨b,_,none⟩) hb).trans g2⟩
theorem zCd {α : Type} {a b : List α} (h : a.Perm b) (P : α -> Bool) : a.any P = b.any P:=by
 rw [Bool.eq_iff_iff,List.any_eq_true,List.any_eq_true];exact ⟨fun ⟨x,h1,h2⟩=>⟨x,h.mem_iff.1 h1,h2⟩,fun ⟨x,h1,h2⟩=>⟨x,h.mem_iff.2 h1,h2⟩⟩
theorem zCe {α : Type} (P : α -> Bool) (l : List α) (k : Nat) (h : k < l.length) : (l.take (k + 1)).any P = ((l.take k).any P || P (l[k]'h)):=by
 rw [List.take_succ_eq_append_getElem h,List.any_append];simp
theorem zBU.at_ {w : World} {A : Option Addr} {n c : Nat} {AL : List zeC} (h : zBU w (.slice A n c) AL) (h0 : 0 < AL.length) : ∃ b,A = some ⟨b,0,none⟩ /\ b < w.heap.size /\ ∀ i (hi : i < AL.length),zBD w b i AL[i]:=by
 obtain ⟨A',c',e,-,h2⟩:=h;injection e with e1 e2 e3;subst e1;exact h2 h0
theorem zBz.at_ {w : World} {A : Option Addr} {n c : Nat} {pl : List zby} (h : zBz w (.slice A n c) pl) (h0 : 0 < pl.length) : ∃ b,A = some ⟨b,0,none⟩ /\ b < w.heap.size /\ ∀ i (hi : i < pl.length),w.cell? ⟨b,i * 3,none⟩ = some (.int .i64 (pl[i]).town) /\ w.cell? ⟨b,i * 3 + 1,none⟩ = some (.int .i64 (pl[i]).street) /\ w.cell? ⟨b,i * 3 + 2,none⟩ = some (.int .i64 (pl[i]).cost):=by
 obtain ⟨A',c',e,-,h2⟩:=h;injection e with e1 e2 e3;subst e1;exact h2 h0
theorem zBB {j : Nat} (h : 0 < j) : ((j : Int) - 1).toNat = j - 1:=by omega
def zBN (q : zh) (y : Int) (p : zby) : Bool:=decide (p.street = q.street) && (decide (p.town = q.town) && decide (p.cost <= y))
def zBL (q : zh) (y : Int) (p : zby) : Bool:=decide (p.town = q.town) && (decide (p.cost <= y) && decide (p.street = 0))
def zBW (AL : List zeC) (k : Nat) : List (Int × Int):=((AL.take k).map fun m=>(m.point,(1 : Int))).reverse
theorem zCi (AL : List zeC) (k : Nat) (h : k < AL.length) : zBW AL (k + 1) = ((AL[k]'h).point,1) :: zBW AL k:=by
 unfold zBW;rw [List.take_succ_eq_append_getElem h,List.map_append,List.reverse_append];rfl
theorem zBF {α β : Type} [DecidableEq α] {a : α} : ∀ {l : List (α × β)},(∀ p ∈ l,p.1 ≠ a) -> zbR a l = none
 | [],_=>rfl
 | p :: t,h=>by
  rw [zbR,if_neg (h p (List.mem_cons_self ..))];exact zBF fun q hq=>h q (List.mem_cons_of_mem _ hq)
theorem zCn {AL : List zeC} (hap : AL.Pairwise fun a b=>a.point ≠ b.point) (k : Nat) (h : k < AL.length) : zbR (AL[k]'h).point (zBW AL k) = none:=by
 refine zBF fun p hp=>?_;unfold zBW at hp;rw [List.mem_reverse] at hp;obtain ⟨m,hm,rfl⟩:=List.mem_map.1 hp;obtain ⟨i,hi,rfl⟩:=List.mem_take_iff_getElem.1 hm;exact List.pairwise_iff_getElem.1 hap i k (by omega) h (by omega)
theorem zCm (AL : List zeC) (q : Int) : zbR q (zBW AL AL.length) = if ∃ m ∈ AL,m.point = q then some 1 else none:=by
 unfold zBW;rw [List.take_length]
 split
 ·rename_i h
  obtain ⟨m,hm,rfl⟩:=h;refine zBK (List.mem_reverse.2 (List.mem_map.2 ⟨m,hm,rfl⟩)) fun p hp _=>?_;obtain ⟨n,-,rfl⟩:=List.mem_map.1 (List.mem_reverse.1 hp);rfl
 ·rename_i h
  refine zBF fun p hp e=>h ?_;obtain ⟨n,hn,rfl⟩:=List.mem_map.1 (List.mem_reverse.1 hp);exact ⟨n,hn,e⟩
theorem zBR (ns : List zP) (hc : zkq ns) (hl : ns.length <= 10) (k : Nat) : 0 <= zO (ns.take k) /\ zO (ns.take k) <= 10000000:=by
 have h:=zbD (ns.take k) fun n hn=>hc n (List.mem_of_mem_take hn);have h2 : (ns.take k).length <= 10:=Nat.le_trans (by rw [List.length_take]; omega) hl;omega
theorem zCs {ok : Bool} {l : List zeC} {B : Nat} {e : Ending} {w' : World} (hok : ok = true) (h : ztS ok l B e w') : ∃ v,e = .returned (.tuple #[v,.int .i64 0]) /\ zBU w' v l:=by
 obtain ⟨v,ms,he,h1,h2⟩:=zBn hok h;exact ⟨v,he,zCy h1 h2⟩
theorem zBO {ok : Bool} {l : List zby} {B : Nat} {e : Ending} {w' : World} (hok : ok = true) (h : zhN ok l B e w') : ∃ v pl,e = .returned (.tuple #[v,.int .i64 0]) /\ zBz w' v pl /\ pl.Perm l:=by
 obtain ⟨v,pl,he,h1,h2⟩:=zCj hok h;exact ⟨v,pl,he,zCr h1,h2⟩
def zCB (mo : Option (List zP)) (e : Ending) : Prop:=
 ∃ (i y : Int) (A : Option Addr) (n c : Nat) (er : Int),e = .returned (.tuple #[.agg #[.int .i64 i,.int .i64 y,.slice A n c],.int .i64 er]) /\ ((mo = none /\ er = 140) \/ ∃ ns,mo = some ns /\ er = 0 /\ y = zO ns)
theorem zCk {f : zw} {c : Int} {ps : List zu} {q : zh} {ok : Bool} (hok : ok = true) (hp : zaX f q.id = (q,true)) {B : Nat} {e : Ending} {w' : World}
  (h : zzc ok (zaX f q.id).2 (zaX f q.id).1.id (zaU f c ps (zaX f q.id).1) B e w') : zCB (zaU f c ps q) e:=by
 rw [hp] at h;subst hok;rcases h with ⟨h,-⟩ | ⟨-,h,-⟩ | ⟨-,-,h,rfl⟩ | ⟨-,-,ns,nv,h,rfl,hn⟩
 ·cases h
 ·cases h
 ·exact ⟨0,0,none,0,0,140,rfl,.inl ⟨h,rfl⟩⟩
 ·obtain ⟨A,c,rfl,-⟩:=hn
  exact ⟨_,_,A,_,c,0,rfl,.inr ⟨ns,h,rfl,rfl⟩⟩
def zCo : PSigma fun G : Prop=>zub G -> ∀ (x : zi) (vc vp : Value) (a1 a2 : Int) (w : World) (hs : zbS w vc vp x) (hw1 : (Lit.int .u8 a1).wf = true) (hw2 : (Lit.int .u16 a2).wf = true) (htab : zbz w),
  Calls Tryz.prog 7 #[.agg #[.int .u8 (x.towns : Int),.int .u8 (x.streets : Int),vc,vp],.int .u8 a1,.int .u16 a2] w fun e w'=>e = .returned (.bool true) /\ Below w.heap.size w w':=by
 apply PSigma.mk
 case snd=>
 intro hG x vc vp a1 a2 w hs hw1 hw2 htab
 obtain ⟨wh,rfl,hwh⟩ : ∃ n : Nat,a1 = (n : Int) /\ n < 256:=by
  have:=bounds_u8 hw1;exact ⟨a1.toNat,by omega,by omega⟩
 obtain ⟨m,rfl,hm⟩ : ∃ n : Nat,a2 = (n : Int) /\ n < 65536:=by
  have:=bounds_u16 hw2;exact ⟨a2.toNat,by omega,by omega⟩
 obtain ⟨cA,cc,rfl,-⟩:=hs.c;obtain ⟨pA,pc,rfl,-⟩:=hs.p;have hs':=Hd hs;have htab':=Hd htab;clear hs hw1 hw2 htab;go_enter Tryz.func7,Tryz.ntmps7;go_upto_region 1 with fail;have hb0:=Hd ((Below.refl w.heap.size w).alloc (lQ _) (.cells #[.int .u8 (x.towns : Int),.int .u8 (x.streets : Int),.slice cA x.cuts.length cc,.slice pA x.points.length pc] 25));have kS:=Hd (Blk.new w 25 #[.int .u8 (x.towns : Int),.int .u8 (x.streets : Int),.slice cA x.cuts.length cc,.slice pA x.points.length pc]);generalize w.alloc (.cells #[.int .u8 (x.towns : Int),.int .u8 (x.streets : Int),.slice cA x.cuts.length cc,.slice pA x.points.length pc] 25) = W0 at *;have c0:=kS.out.cell 0;have c1:=kS.out.cell 1;have c2:=kS.out.cell 2;have c3:=kS.out.cell 3;have lS:=kS.out.lt;simp at c0 c1 c2 c3;go_wp2_with fail;refine (zik x _ _ wh W0 (hs'.out.stays (zo.of hb0.out)) hwh).mono ?_;rintro e w1 ⟨vt,vs,vr,vq,hr,hb1,hcase⟩;clear c0 c1 c2 c3 lS kS;have hbw:=Hd (hb0.out.trans (hb1.mono hb0.out.size));obtain ⟨⟨tA,tn,tc,rfl⟩,⟨sA,sn,sc,rfl⟩,⟨rA,rn,rc,rfl⟩,⟨qA,qn,qc,rfl⟩⟩:=hr.forms;obtain ⟨-,rfl⟩ | ⟨p,hp,rfl⟩:=hcase
 ·unfold zaz zh.zero
  have hb2:=Hd ((hbw.out.alloc hbw.out.size (.cells #[.slice tA tn tc,.slice sA sn sc,.slice rA rn rc,.slice qA qn qc] 31)).alloc (by have:=hbw.out.size; simp; omega) (.cells #[.int .i64 0,.int .i64 0,.int .i64 0,.int .i64 0,.string ⟨#[]⟩,.string ⟨#[]⟩,.int .i64 0,.int .i64 0] 33));go_upto_region 2 with fail;generalize (w1.alloc (.cells #[.slice tA tn tc,.slice sA sn sc,.slice rA rn rc,.slice qA qn qc] 31)).alloc (.cells #[.int .i64 0,.int .i64 0,.int .i64 0,.int .i64 0,.string ⟨#[]⟩,.string ⟨#[]⟩,.int .i64 0,.int .i64 0] 33) = w2 at *;go_wp2_with fail;refine (zbq w2 (htab'.out.below hb2.out)).mono ?_;rintro e w3 ⟨rfl,hb3⟩;go_wp2;go_ret;exact ⟨rfl,hb2.out.trans (hb3.mono hb2.out.size)⟩
 ·have F:=Hd (znB x p hp)
  unfold zaz;have hb2:=Hd ((hbw.out.alloc hbw.out.size (.cells #[.slice tA tn tc,.slice sA sn sc,.slice rA rn rc,.slice qA qn qc] 31)).alloc (by have:=hbw.out.size; simp; omega) (.cells #[.int .i64 p.id,.int .i64 p.town,.int .i64 p.street,.int .i64 p.number,.string p.letter,.string p.unit,.int .i64 p.box,.int .i64 p.seq] 33));have kF:=Hd ((Blk.new w1 31 #[.slice tA tn tc,.slice sA sn sc,.slice rA rn rc,.slice qA qn qc]).alloc (.cells #[.int .i64 p.id,.int .i64 p.town,.int .i64 p.street,.int .i64 p.number,.string p.letter,.string p.unit,.int .i64 p.box,.int .i64 p.seq] 33));have kP:=Hd (Blk.new_at (w1.alloc (.cells #[.slice tA tn tc,.slice sA sn sc,.slice rA rn rc,.slice qA qn qc] 31)) 33 #[.int .i64 p.id,.int .i64 p.town,.int .i64 p.street,.int .i64 p.number,.string p.letter,.string p.unit,.int .i64 p.box,.int .i64 p.seq] (w1.heap.size + 1) (by simp));have hr2:=Hd (hr.stays (zo.of (((Below.refl w1.heap.size w1).alloc (lQ _) (.cells #[.slice tA tn tc,.slice sA sn sc,.slice rA rn rc,.slice qA qn qc] 31)).alloc (by simp) (.cells #[.int .i64 p.id,.int .i64 p.town,.int .i64 p.street,.int .i64 p.number,.string p.letter,.string p.unit,.int .i64 p.box,.int .i64 p.seq] 33))));clear hr hb1;go_upto_region 2 with fail;generalize (w1.alloc (.cells #[.slice tA tn tc,.slice sA sn sc,.slice rA rn rc,.slice qA qn qc] 31)).alloc (.cells #[.int .i64 p.id,.int .i64 p.town,.int .i64 p.street,.int .i64 p.number,.string p.letter,.string p.unit,.int .i64 p.box,.int .i64 p.seq] 33) = w2 at *;generalize w1.heap.size + 1 = N6 at *;generalize w1.heap.size = N5 at *;have hband : bits BinOp.and IntKind.u16 (m : Int) 1640 = ((m &&& 1640 : Nat) : Int):=zhw m 1640 hm (by omega);go_upto_region 5 with fail;clear hband;have f0:=kF.out.cell 0;have f1:=kF.out.cell 1;have f2:=kF.out.cell 2;have f3:=kF.out.cell 3;have lF:=kF.out.lt;have g0:=kP.out.cell 0;have g1:=kP.out.cell 1;have g2:=kP.out.cell 2;have g3:=kP.out.cell 3;have g4:=kP.out.cell 4;have g5:=kP.out.cell 5;have g6:=kP.out.cell 6;have g7:=kP.out.cell 7;have lP:=kP.out.lt;simp at f0 f1 f2 f3 g0 g1 g2 g3 g4 g5 g6 g7;go_wp2_with fail;refine (zrV _ _ _ _ (zb x) p w2 hr2.out F.out.fine (htab'.out.below hb2.out)).mono ?_;rintro e w3 ⟨v,rfl,hown,hb3⟩;have hpp:=Hd hown.parts;obtain ⟨vA,vm,rfl⟩:=hown.form_;clear f0 f1 f2 f3 lF g0 g1 g2 g3 g4 g5 g6 g7 lP hown;have hpos : 0 < (zb x).points.length:=List.length_pos_of_mem hp;obtain ⟨rb,ro,rc2,erv,hrb,hpts⟩:=zpc hr2.out hpos;injection erv with e1 e2 e3;subst e1;subst e2;subst e3
  have hkd:=Hd (show ∀ q ∈ zm (zX (zb x) p),∃ k : Nat,q.kind = k /\ k <= 10 from fun q hq=>by
   obtain ⟨j,-,h2,-,rfl⟩:=(zcO _ 10 q).1 hq
   exact ⟨j,rfl,h2⟩)
  have hp10 : (zm (zX (zb x) p)).length <= 10:=zcX _ 10;have hP64 : (zb x).points.length <= 64:=F.out.few
  have hfew : (zb x).towns.length <= 1000 /\ (zb x).streets.length <= 1000:=by
   have:=(zmZ x).few;omega
  have hok : (zae (zb x) && zR (zcT (zb x) p) (zbV (m &&& 1640) (zm (zX (zb x) p)))) = true:=by rw [zeE x,zCb x p hp m]; rfl
  have hal:=Hd (fun (lv : Value) (W : World) h1 h2 h3=>(zfP (.slice tA tn tc) (.slice sA sn sc) (.slice rA rn rc) (.slice (some ⟨rb,ro,none⟩) (zb x).points.length qc) (zb x) (zcT (zb x) p) lv (zbV (m &&& 1640) (zm (zX (zb x) p))) W h1 (zbv x) h2 (ztD _ F.out.small) (fun _=>zbl x) h3 F.out.few (fun _=>zce x)).mono (fun e w' hh=>And.intro (zCs hok hh.1) hh.2));have hst:=Hd (fun (lv : Value) (W : World) h1 h2=>(zgD (.slice tA tn tc) (.slice sA sn sc) (.slice rA rn rc) (.slice (some ⟨rb,ro,none⟩) (zb x).points.length qc) (zb x) (zcT (zb x) p) lv (zbV (m &&& 1640) (zm (zX (zb x) p))) W h1 (zbv x) h2 (ztD _ F.out.small) (fun _=>zbl x) hfew.1 hfew.2).mono (fun e w' hh=>And.intro (zBO hok hh.1) hh.2));have htn:=Hd (fun (lv : Value) (W : World) h1 h2=>(zig (.slice tA tn tc) (.slice sA sn sc) (.slice rA rn rc) (.slice (some ⟨rb,ro,none⟩) (zb x).points.length qc) (zb x) (zcT (zb x) p) lv (zbV (m &&& 1640) (zm (zX (zb x) p))) W h1 (zbv x) h2 (ztD _ F.out.small) (fun _=>zbl x) hfew.1).mono (fun e w' hh=>And.intro (zBO hok hh.1) hh.2));have hpt:=Hd (fun (q : zh) (hq : q ∈ (zb x).points) (lv : Value) (W : World) h1 h2 h3=>(zcA (.slice tA tn tc) (.slice sA sn sc) (.slice rA rn rc) (.slice (some ⟨rb,ro,none⟩) (zb x).points.length qc) (zb x) (zcT (zb x) p) lv (zbV (m &&& 1640) (zm (zX (zb x) p))) q.id W h1 (zbv x) h2 (ztD _ F.out.small) (fun _=>zbl x) h3).mono (fun e w' hh=>And.intro (zCk (hok) (zhR x q hq) hh.1) hh.2));have hlaw:=Hd (zCq x (zcT (zb x) p) (zbV (m &&& 1640) (zm (zX (zb x) p))));clear F hok hfew;generalize zcT (zb x) p = c at *;generalize zm (zX (zb x) p) = ps at *;have h11:=zCv m;generalize m &&& 1640 = m2 at *;go_wp2_with fail;refine (ztP c (.slice vA ps.length vm) ps m2 w3 hpp.out hkd.out (by omega) h11).mono ?_;rintro e w4 ⟨lv,rfl,hlp,hb34⟩;have hqs:=Hd hlp.parts;obtain ⟨lA,lc,rfl⟩:=hlp.form_;clear hlp;generalize zbV m2 ps = qs at *;have h35:=(hb3.trans (hb34.mono hb3.size)).alloc (Nat.le_trans hb3.size hb34.size) (.cells #[.int .u8 c,.slice lA qs.length lc] 39);have hb5:=Hd (hb2.out.trans (h35.mono hb2.out.size));have kF5:=Hd (kF.out.below h35 kF.out.lt);have kR5:=Hd (Blk.new w4 39 #[.int .u8 c,.slice lA qs.length lc]);have hr5:=Hd (hr2.out.stays (zo.of h35));have hq5:=Hd (hqs.out.stays (zo.of ((Below.refl w4.heap.size w4).alloc (lQ _) (.cells #[.int .u8 c,.slice lA qs.length lc] 39))));have hpts5:=Hd (show ∀ (k : Nat) (hk : k < (zb x).points.length),zht (w4.alloc (.cells #[.int .u8 c,.slice lA qs.length lc] 39)) rb (ro + k * 8) (zb x).points[k] from fun k hk=>(hpts k hk).stays (zo.of h35) hrb);have hrb5 : rb < (w4.alloc (.cells #[.int .u8 c,.slice lA qs.length lc] 39)).heap.size:=Nat.lt_of_lt_of_le hrb h35.size;clear kF kP hr2 hpp hb2 hbw hb0 hs' hqs hkd hp hpts hrb hp10;go_upto_region 6 with fail;clear hb3 hb34 h35;generalize w4.alloc (.cells #[.int .u8 c,.slice lA qs.length lc] 39) = w5 at *;generalize w4.heap.size = N8 at *;have hA1:=Hd (hal.out (.slice lA qs.length lc));have hS1:=Hd (hst.out (.slice lA qs.length lc));have hT1:=Hd (htn.out (.slice lA qs.length lc));have hPt:=Hd (fun q hq=>hpt.out q hq (.slice lA qs.length lc));clear hal hst htn hpt;generalize zaU (zb x) c qs = mo at *;generalize ziF (zb x) c qs = AL at *;generalize zfi (zb x) c qs = SL0 at *;generalize zfE (zb x) c qs = TL0 at *;have f0:=kF5.out.cell 0;have f1:=kF5.out.cell 1;have f2:=kF5.out.cell 2;have f3:=kF5.out.cell 3;have lF:=kF5.out.lt;have r0:=kR5.out.cell 0;have r1:=kR5.out.cell 1;have lR:=kR5.out.lt
  simp at f0 f1 f2 f3 r0 r1;go_wp2_with fail;refine (hA1.out w5 hr5.out hq5.out (htab'.out.below hb5.out)).mono ?_;rintro e w6 ⟨⟨v1,rfl,hm1⟩,hb56⟩;obtain ⟨mA,mc,rfl,hmx,hm1⟩:=hm1;clear f0 f1 f2 f3 lF r0 r1 lR hA1;have hm6:=Hd (show zBU w6 (.slice mA AL.length mc) AL from ⟨mA,mc,rfl,hmx,hm1⟩);have hb6:=Hd (hb5.out.trans (hb56.mono hb5.out.size));have kF6:=Hd (kF5.out.below hb56 kF5.out.lt);have kR6:=Hd (kR5.out.below hb56 kR5.out.lt);have hr6:=Hd (hr5.out.stays (zo.of hb56));have hq6:=Hd (hq5.out.stays (zo.of hb56));have hpts6:=Hd (show ∀ (k : Nat) (hk : k < (zb x).points.length),zht w6 rb (ro + k * 8) (zb x).points[k] from fun k hk=>(hpts5.out k hk).stays (zo.of hb56) hrb5);have hrb6 : rb < w6.heap.size:=Nat.lt_of_lt_of_le hrb5 hb56.size;clear hm1 hb56 hb5 kF5 kR5 hr5 hq5 hpts5 hrb5;go_upto_region 7 with fail;have f0:=kF6.out.cell 0;have f1:=kF6.out.cell 1;have f2:=kF6.out.cell 2;have f3:=kF6.out.cell 3;have lF:=kF6.out.lt;have r0:=kR6.out.cell 0;have r1:=kR6.out.cell 1;have lR:=kR6.out.lt;simp at f0 f1 f2 f3 r0 r1;go_wp2_with fail;refine (hS1.out w6 hr6.out hq6.out).mono ?_;rintro e w7 ⟨⟨v2,SL,rfl,hs2,hsp⟩,hb67⟩;obtain ⟨sA2,sc2,rfl,hsx,hs2⟩:=hs2;clear f0 f1 f2 f3 lF r0 r1 lR hS1;have hs7:=Hd (show zBz w7 (.slice sA2 SL.length sc2) SL from ⟨sA2,sc2,rfl,hsx,hs2⟩);have hsp:=Hd hsp;have hm7:=Hd (hm6.out.below hb67);have hb7:=Hd (hb6.out.trans (hb67.mono hb6.out.size));have kF7:=Hd (kF6.out.below hb67 kF6.out.lt);have kR7:=Hd (kR6.out.below hb67 kR6.out.lt);have hr7:=Hd (hr6.out.stays (zo.of hb67));have hq7:=Hd (hq6.out.stays (zo.of hb67));have hpts7:=Hd (show ∀ (k : Nat) (hk : k < (zb x).points.length),zht w7 rb (ro + k * 8) (zb x).points[k] from fun k hk=>(hpts6.out k hk).stays (zo.of hb67) hrb6);have hrb7 : rb < w7.heap.size:=Nat.lt_of_lt_of_le hrb6 hb67.size;clear hs2 hb67 hb6 kF6 kR6 hr6 hq6 hpts6 hrb6 hm6;go_upto_region 8 with fail;have f0:=kF7.out.cell 0;have f1:=kF7.out.cell 1;have f2:=kF7.out.cell 2;have f3:=kF7.out.cell 3;have lF:=kF7.out.lt;have r0:=kR7.out.cell 0;have r1:=kR7.out.cell 1;have lR:=kR7.out.lt;simp at f0 f1 f2 f3 r0 r1;go_wp2_with fail;refine (hT1.out w7 hr7.out hq7.out).mono ?_;rintro e w8 ⟨⟨v3,TL,rfl,ht3,htp⟩,hb78⟩;obtain ⟨tA3,tc3,rfl,htx,ht3⟩:=ht3;clear f0 f1 f2 f3 lF r0 r1 lR hT1;have ht8:=Hd (show zBz w8 (.slice tA3 TL.length tc3) TL from ⟨tA3,tc3,rfl,htx,ht3⟩);have htp:=Hd htp;have hm8:=Hd (hm7.out.below hb78);have hs8:=Hd (hs7.out.below hb78);have hb8:=Hd (hb7.out.trans (hb78.mono hb7.out.size));have kF8:=Hd (kF7.out.below hb78 kF7.out.lt);have kR8:=Hd (kR7.out.below hb78 kR7.out.lt);have hr8:=Hd (hr7.out.stays (zo.of hb78));have hq8:=Hd (hq7.out.stays (zo.of hb78));have hpts8:=Hd (show ∀ (k : Nat) (hk : k < (zb x).points.length),zht w8 rb (ro + k * 8) (zb x).points[k] from fun k hk=>(hpts7.out k hk).stays (zo.of hb78) hrb7);have hrb8 : rb < w8.heap.size:=Nat.lt_of_lt_of_le hrb7 hb78.size;clear ht3 hb78 hb7 kF7 kR7 hr7 hq7 hpts7 hrb7 hm7 hs7;go_upto_region 11 with fail;have hmap0:=Hd (zbc.made Tryz.prog 3 zY zY w8);have hb9:=Hd ((Below.refl w8.heap.size w8).alloc (lQ _) (.map #[] 0));have hmk:=@run_makeMap Tryz.prog;go_upto_region 12 with fail;clear hmk;generalize w8.alloc (.map #[] 0) = w9 at *;generalize hMb : w8.heap.size = Mb at hmap0 ⊢;have hMb:=Hd hMb;go_wp2
  go_loopw [94] (fun jv wr=>∃ j : Nat,j <= AL.length /\ jv = .int .i64 j /\ Hid (Below w8.heap.size w8 wr /\ zbc Tryz.prog 3 zY zY wr Mb j (zBW AL j))) (fun jv _=>AL.length - (intOf jv).toNat)
  case atStart=>exact ⟨0,by omega,rfl,Hd ⟨hb9.out,hmap0.out⟩⟩
  case round=>
   rename_i xQy1 xhspy2 xhtpy3 xKy4 xay5 xhMby6
   revert x w wh hwh m hm cA cc pA pc htab' xQy1 W0 w1 tA tn tc sA sn sc rA rn rc qc p w2 N6 N5 w3 vA vm hpos rb ro hP64 c ps m2 h11 w4 lA lc qs w5 N8 mo hPt AL SL0 TL0 hlaw w6 mA mc hmx w7 SL xhspy2 sA2 sc2 hsx hsp w8 TL xhtpy3 tA3 tc3 htx ht8 htp hm8 hs8 hb8 kF8 kR8 hr8 hq8 hpts8 hrb8 xKy4 xay5 w9 hb9 Mb xhMby6 hmap0 hMb wr u6 u18 u19 u20 u21 u22 u94 u95 u96 u97 u98 u99 u100 u101 u102 u103 u104 u105 u106 u107 u108 u109 u110 u111 u112 u113 u114 u115 u116 u117 u118 u119 u120 u121 u122 u123 u124 u125 u126 u127 u128 u129 u130 u131 u132 u133 u134 u135 u136 u137 u138 u139 u140 u141 u142 u143 u144 u145 u146 u147 u148 u149 u150 u151 u152 u153 u154 u155 u156 u157 u158 u159 u160 u161 u162 u163 u164 u165 u166 u167 u168 u169 u170 u171 u172 u173 u174 u175 u176 u177 u178 u179 u180 u181 u182 u183 u184 u185 u186 hrel
   exact hG.out
end
end Go.Proofs.YtggimnndflkjkaaGreatDoor
