import Derived.Test.YtggimnndflkjkaaGreatDoorA01
import Derived.Test.YtggimnndflkjkaaGreatDoorC01
import Derived.Test.YtggimnndflkjkaaGreatDoorC46
import Derived.Deep.Upon
set_option linter.all false
set_option maxRecDepth 100000
set_option maxHeartbeats 0
namespace Go.Proofs.YtggimnndflkjkaaGreatDoor
section
open Go.RowKit Go.Maps
theorem zdP {w : World} {E : TypeId} {k : Nat} : (w.alloc (.cells #[] E)).ownsRow w.heap.size E k (.slice (some ⟨w.heap.size,0,none⟩) 0 0) 0 []:=
 ⟨by simp,.inr ⟨w.heap.size,0,#[],rfl,lQ _,heap_alloc_new _ _,lQ _,by decide,by simp,by simp⟩⟩
theorem zgQ {α : Type} {f : α -> List Value} (hf : ∀ a,∀ v ∈ f a,v.oneCell' = true) (l : List α) : ∀ v ∈ l.flatMap f,v.oneCell' = true:=fun v hv=>by
 obtain ⟨a,-,h⟩:=List.mem_flatMap.1 hv;exact hf a v h
structure Way (w6 w7 w : World) : Prop where
 below : Below w6.heap.size w6 w
 keeps : zc (fun b=>b < w7.heap.size) w7 w
theorem Way.up {w6 w7 w w' : World} (h : Way w6 w7 w) (hb : Below w.heap.size w w') : Way w6 w7 w':=⟨h.below.trans (hb.mono h.below.size),h.keeps.trans (zc.of_below hb _)⟩
theorem Way.grown {w6 w7 w w' : World} (h : Way w6 w7 w) {N : Nat} (hN : w7.heap.size <= N) (h67 : w6.heap.size <= w7.heap.size) (hg : w.grownBy w' (some N)) : Way w6 w7 w':=
 ⟨h.below.grown hg h.below.size (fun g e=>by have e2 : N = g:=Option.some.inj e; omega),h.keeps.trans (zc.of_grown hg fun b hb e=>by have e2 : b = N:=Option.some.inj e; omega)⟩
theorem zdt {P : Nat -> Prop} {w w' : World} {b o : Nat} {news : List Value} (h : ∀ j u,news[j]? = some u -> w.cell? ((⟨b,o,none⟩ : Addr).add j) = some u) (hb : b < w.heap.size) (hk : zc P w w') (hp : P b) : ∀ j u,news[j]? = some u -> w'.cell? ((⟨b,o,none⟩ : Addr).add j) = some u:=fun j u hu=>by
 have h1:=h j u hu;rw [Go.WideShapes.add_plain] at h1 ⊢;rw [<- h1];exact hk.cell hb hp
theorem zpL {P : Program} {w : World} {ops : Array Oper} {rest : List Oper} {o : Oper} {a : Act} {Q : Exit -> Act -> World -> Prop} (hgd : o.guard = none) (s x : Operand) (t : TypeId)
  (ho : o.op = .call { callee:=.builtin .append,args:=#[s,x],argTypes:=#[t,t] }) (e : TypeId) (i : TypeInfo) (ht : P.underlying t = some (.slice e)) (hi : P.info? e = some i)
  (base : Option Addr) (n m : Nat) (hle : n <= m) (hs : a.eval s = .slice base n m) (A : Option Addr) (c : Nat) (hx : a.eval x = .slice A 0 c)
  (h : wpList P ops Q rest (a.put o.dst (.slice base n m)) w) : wpList P ops Q (o :: rest) a w:=by
 refine wpList_plain hgd fun K hK=>?_
 have hsrc : Src P i.size t (.slice A 0 c) 0 [] w:=by
  cases A with
  | none=>exact Src.ofNil w ht c
  | some ad=>exact Src.ofSlice w ht ad 0 c [] (by simp) (fun j u h=>by simp at h) (fun _ h=>by cases h)
 have hrun:=run_append_nothing (P:=P) w t t o.type e i ht hi base n m hle (.slice A 0 c) hsrc;unfold Oper.wp;simp [execOp,ho,resolve,invoke,builtin,hs,hx,hrun,Result.andThen];exact hK _ _ h
theorem zBx {base : Nat} {w : World} {e : TypeId} {size g n cap : Nat} {xs : List Value} (h : w.ownsRow base e size (.slice (some ⟨g,0,none⟩) n cap) n xs) : n <= cap /\ g < w.heap.size /\ base <= g:=by
 rcases h.2 with h0 | ⟨g',cap',cur,e1,h1,hg,h2,-⟩
 ·exact absurd h0.1 (by simp)
 ·injection e1 with e2 e3 e4
  injection e2 with e5;injection e5 with e6;subst e6;subst e4;exact ⟨h2,(Array.getElem?_eq_some_iff.1 hg).1,h1⟩
theorem zls {w1 w2 : World} {base : Nat} {e : TypeId} {k : Nat} {v : Value} {n : Nat} {xs : List Value} (h : w1.ownsRow base e k v n xs) (hb : Below w1.heap.size w1 w2) : w2.ownsRow base e k v n xs:=by
 refine ⟨h.1,?_⟩;rcases h.2 with h0 | ⟨g,cap,cur,e1,h1,hg,h2⟩
 ·exact .inl h0
 ·exact .inr ⟨g,cap,cur,e1,h1,(hb.block g (Array.getElem?_eq_some_iff.1 hg).1).trans hg,h2⟩
theorem zBh {P : Program} {w : World} {ops : Array Oper} {rest : List Oper} {o : Oper} {a : Act} {Q : Exit -> Act -> World -> Prop} (hgd : o.guard = none) (s x : Operand) (t : TypeId)
  (ho : o.op = .call { callee:=.builtin .append,args:=#[s,x],argTypes:=#[t,t] })
  (base : Nat) (e : TypeId) (i : TypeInfo) (z : Value) (size bytes : Nat) (ht : P.underlying t = some (.slice e)) (hi : P.info? e = some i) (hz : i.zero = some z)
  (hsize : i.size = size) (hby : i.bytes = bytes) (hzs : z.cells.size = size) (hsz : 0 < size)
  (g0 n cap0 : Nat) (xs : List Value) (hs : a.eval s = .slice (some ⟨g0,0,none⟩) n cap0) (hown : w.ownsRow base e size (.slice (some ⟨g0,0,none⟩) n cap0) n xs)
  (A : Option Addr) (m c : Nat) (news : List Value) (hx : a.eval x = .slice A m c) (hl : news.length = m * size) (hnews : 0 < m -> ∃ ad,A = some ad /\ ∀ j u,news[j]? = some u -> w.cell? (ad.add j) = some u) (h1 : ∀ u ∈ news,u.oneCell' = true)
  (h63 : n + m <= maxLen) (hbytes : (n + m) * bytes <= 140737488355328) (hbase : base <= w.heap.size) (H : Nat) (hH : w.heap.size = H)
  (h : ∀ g cap w',w'.ownsRow base e size (.slice (some ⟨g,0,none⟩) (n + m) cap) (n + m) (xs ++ news) -> w.grownBy w' (some g0) -> (some g0 = some g \/ g = H) -> g < w'.heap.size -> wpList P ops Q rest (a.put o.dst (.slice (some ⟨g,0,none⟩) (n + m) cap)) w') : wpList P ops Q (o :: rest) a w:=by
 by_cases hm : 0 < m
 ·obtain ⟨ad,rfl,hn⟩:=hnews hm
  exact wpList_append_lies w hgd s x t ho base e i z size bytes ht hi hz hsize hby hzs hsz _ n xs hs hown ad m c news hx hl hn h1 hm h63 hbytes hbase H hH h
 ·obtain rfl : m = 0:=by omega
  obtain rfl : news = []:=List.eq_nil_of_length_eq_zero (by rw [hl,Nat.zero_mul]);obtain ⟨hc,hg,-⟩:=zBx hown;refine zpL hgd s x t ho e i ht hi (some ⟨g0,0,none⟩) n cap0 hc hs A c hx ?_;exact h g0 cap0 w (by rw [List.append_nil]; exact hown) ⟨rfl,rfl,rfl,lQ _,fun _ _ _=>rfl⟩ (.inl rfl) hg
theorem zBu {w : World} {b o : Nat} {l : List zh} (k : Nat) (h : ∀ j u,(l.flatMap zds)[j]? = some u -> w.cell? ((⟨b,o,none⟩ : Addr).add j) = some u) : ∀ j u,((l.take k).flatMap zds)[j]? = some u -> w.cell? ((⟨b,o,none⟩ : Addr).add j) = some u:=fun j u hu=>h j u (by
 have e : l.flatMap zds = (l.take k).flatMap zds ++ (l.drop k).flatMap zds:=by rw [<- List.flatMap_append,List.take_append_drop]
 rw [e,List.getElem?_append_left (List.getElem?_eq_some_iff.1 hu).1]; exact hu)
theorem zBt {w : World} {b o : Nat} {l : List zh} (k : Nat) (hk : k <= l.length) (h : ∀ j u,(l.flatMap zds)[j]? = some u -> w.cell? ((⟨b,o,none⟩ : Addr).add j) = some u) : ∀ j u,((l.drop k).flatMap zds)[j]? = some u -> w.cell? ((⟨b,o + k * 8,none⟩ : Addr).add j) = some u:=fun j u hu=>by
 have e : l.flatMap zds = (l.take k).flatMap zds ++ (l.drop k).flatMap zds:=by rw [<- List.flatMap_append,List.take_append_drop]
 have hl : ((l.take k).flatMap zds).length = k * 8:=by rw [zfN zds 8 (fun _=>rfl),List.length_take,Nat.min_eq_left hk]
 have h1:=h (k * 8 + j) u (by rw [e,List.getElem?_append_right (by omega),hl,Nat.add_sub_cancel_left]; exact hu);rw [Go.WideShapes.add_plain] at h1 ⊢;rw [Nat.add_assoc];exact h1
theorem zBp {α : Type} (P : α -> Bool) (l : List α) (j : Nat) (h : j < l.length) (hp : P (l[j]'h) = true) : (l.filter P)[((l.take j).filter P).length]? = some (l[j]'h):=by
 have e : l = l.take j ++ l[j]'h :: l.drop (j + 1):=by rw [<- List.drop_eq_getElem_cons h,List.take_append_drop]
 have e2 : l.filter P = (l.take j).filter P ++ (l[j]'h :: (l.drop (j + 1)).filter P):=by
  conv=>lhs; rw [e]
  rw [List.filter_append,List.filter_cons,if_pos hp]
 rw [e2,List.getElem?_append_right (lQ _),Nat.sub_self];rfl
theorem zBl {α : Type} (P : α -> Bool) (l : List α) (j : Nat) (h : j < l.length) : ((l.take (j + 1)).filter P).length = ((l.take j).filter P).length + if P (l[j]'h) then 1 else 0:=by
 rw [List.take_succ_eq_append_getElem h,List.filter_append,List.length_append,List.filter_cons,List.filter_nil]
 split <;> rfl
theorem zBk {B : Nat} {w : World} {A : Option Addr} {c : Nat} {ms : List zcl} (h : zes B w (.slice A ms.length c) ms) (h0 : 0 < ms.length) : ∃ b,A = some ⟨b,0,none⟩ /\ b < w.heap.size /\ ∀ i (hi : i < ms.length),w.cell? ⟨b,i * 3,none⟩ = some (.int .i64 (ms[i].plain).point) /\ w.cell? ⟨b,i * 3 + 1,none⟩ = some (.int .i64 (ms[i].plain).cost) /\ ∃ A2 c2,w.cell? ⟨b,i * 3 + 2,none⟩ = some (.slice A2 (ms[i].plain).notes.length c2):=by
 obtain ⟨A',c',e,-,-,hA⟩:=h.sl (fun _=>rfl);injection e with e1 e2 e3;subst e1;obtain ⟨b,off,rfl,hb,-,hi⟩:=hA h0;obtain ⟨rfl,-,-⟩:=hi 0 h0;refine ⟨b,rfl,hb,fun i hil=>?_⟩;obtain ⟨-,-,hc⟩:=hi i hil;have c0:=hc hil 0 (by omega);have c1:=hc hil 1 (by omega);have c2:=hc hil 2 (by omega);simp only [zgi,zcl.value,List.getElem?_cons_zero,List.getElem?_cons_succ,Nat.zero_add,Nat.add_zero] at c0 c1 c2;have hin:=h.2 _ (List.getElem_mem hil);obtain ⟨A3,c3,e4,-⟩:=hin;unfold zcl.value at e4;injection e4 with e5 e6 e7;have hpl : (ms[i]).plain.notes.length = (ms[i]).n:=e6.symm;exact ⟨c0,c1,ms[i].A,ms[i].c,by rw [hpl]; exact c2⟩
theorem zBo (ms rs : List zcl) (q : Int) (h : rs.map zcl.plain = (ms.map zcl.plain).filter fun m=>decide (m.point ≠ q)) : ∃ cnt : Nat -> Nat,cnt 0 = 0 /\ cnt ms.length = rs.length /\ ∀ j (hj : j < ms.length),((ms[j]).plain.point = q /\ cnt (j + 1) = cnt j) \/ ((ms[j]).plain.point ≠ q /\ cnt (j + 1) = cnt j + 1 /\ ∃ hr : cnt j < rs.length,(rs[cnt j]'hr).plain = (ms[j]).plain):=by
 refine ⟨fun j=>(((ms.map zcl.plain).take j).filter fun m=>decide (m.point ≠ q)).length,rfl,?_,fun j hj=>?_⟩
 ·show (((ms.map zcl.plain).take ms.length).filter fun m=>decide (m.point ≠ q)).length = rs.length
  rw [List.take_of_length_le (by simp),<- h,List.length_map]
 ·have hj' : j < (ms.map zcl.plain).length:=by simpa using hj
  have hc:=zBl (fun m : zeC=>decide (m.point ≠ q)) (ms.map zcl.plain) j hj';by_cases hq : (ms[j]).plain.point = q
  ·refine .inl ⟨hq,?_⟩
   show (((ms.map zcl.plain).take (j + 1)).filter fun m=>decide (m.point ≠ q)).length = _;rw [hc,List.getElem_map,if_neg (by simpa using hq),Nat.add_zero]
  ·have hf:=zBp (fun m : zeC=>decide (m.point ≠ q)) (ms.map zcl.plain) j hj' (by simpa using hq)
   refine .inr ⟨hq,?_,?_⟩
   ·show (((ms.map zcl.plain).take (j + 1)).filter fun m=>decide (m.point ≠ q)).length = _
    rw [hc,List.getElem_map,if_pos (by simpa using hq)]
   ·rw [<- h] at hf
    obtain ⟨hr,he⟩:=List.getElem?_eq_some_iff.1 hf;rw [List.length_map] at hr;refine ⟨hr,?_⟩;rw [List.getElem_map,List.getElem_map] at he;exact he
theorem zBb (m j : Nat) (h : Nat.testBit 1120 j = false) : (m &&& 1120).testBit j = false:=by rw [Nat.testBit_and,h,Bool.and_false]
theorem zBg (x : zi) (p : zh) (hp : p ∈ (zb x).points) (m : Nat) : zR (zcT (zb x) p) (zbV (m &&& 1120) (zm (zX (zb x) p))) = true:=by
 obtain ⟨t,i,-,-,hb⟩:=zcx x p hp;rw [zsZ,zqG x t p hb];refine (zwQ (zxR x t p hb) (fun h=>?_)).1 ?_ ?_
 ·rw [zBb m 8 (by decide)] at h; cases h
 ·unfold zbZ
  rw [zBb m 1 (by decide),zBb m 2 (by decide),zBb m 4 (by decide),zBb m 7 (by decide)];rfl
 ·rw [zBb m 8 (by decide)]; rfl
theorem ztD {ps : List zu} (m : Nat) (h : zH ps) : zH (zbV m ps):=fun q hq=>h q (List.mem_filter.1 hq).1
theorem zBn {ok : Bool} {l : List zeC} {B : Nat} {e : Ending} {w' : World} (hok : ok = true) (h : ztS ok l B e w') : ∃ v ms,e = .returned (.tuple #[v,.int .i64 0]) /\ zes B w' v ms /\ ms.map zcl.plain = l:=by
 subst hok;rcases h with ⟨h,-⟩ | ⟨-,h⟩
 ·cases h
 ·exact h
theorem zBv (m : Nat) : m &&& 1120 < 65536:=Nat.lt_of_le_of_lt Nat.and_le_right (by decide)
theorem zBj (x : zi) (vc vp : Value) (a1 a2 a3 : Int) (w : World) (hs : zbS w vc vp x) (hw1 : (Lit.int .u8 a1).wf = true) (hw2 : (Lit.int .u8 a2).wf = true) (hw3 : (Lit.int .u16 a3).wf = true) (htab : zbz w) :
  Calls Tryz.prog 8 #[.agg #[.int .u8 (x.towns : Int),.int .u8 (x.streets : Int),vc,vp],.int .u8 a1,.int .u8 a2,.int .u16 a3] w fun e w'=>e = .returned (.bool true) /\ Below w.heap.size w w':=by
 obtain ⟨wh,rfl,hwh⟩ : ∃ n : Nat,a1 = (n : Int) /\ n < 256:=by
  have:=bounds_u8 hw1;exact ⟨a1.toNat,by omega,by omega⟩
 obtain ⟨wy,rfl,hwy⟩ : ∃ n : Nat,a2 = (n : Int) /\ n < 256:=by
  have:=bounds_u8 hw2;exact ⟨a2.toNat,by omega,by omega⟩
 obtain ⟨m,rfl,hm⟩ : ∃ n : Nat,a3 = (n : Int) /\ n < 65536:=by
  have:=bounds_u16 hw3;exact ⟨a3.toNat,by omega,by omega⟩
 obtain ⟨cA,cc,rfl,-⟩:=hs.c;obtain ⟨pA,pc,rfl,-⟩:=hs.p;have hs':=Hd hs;have htab':=Hd htab;clear hs hw1 hw2 hw3 htab;go_enter Tryz.func8,Tryz.ntmps8;go_upto_region 1 with fail;have hb0:=Hd ((Below.refl w.heap.size w).alloc (lQ _) (.cells #[.int .u8 (x.towns : Int),.int .u8 (x.streets : Int),.slice cA x.cuts.length cc,.slice pA x.points.length pc] 25));have kS:=Hd (Blk.new w 25 #[.int .u8 (x.towns : Int),.int .u8 (x.streets : Int),.slice cA x.cuts.length cc,.slice pA x.points.length pc]);generalize w.alloc (.cells #[.int .u8 (x.towns : Int),.int .u8 (x.streets : Int),.slice cA x.cuts.length cc,.slice pA x.points.length pc] 25) = W0 at *;have c0:=kS.out.cell 0;have c1:=kS.out.cell 1;have c2:=kS.out.cell 2;have c3:=kS.out.cell 3;have lS:=kS.out.lt;simp at c0 c1 c2 c3;go_wp2_with fail;refine (zik x _ _ wh W0 (hs'.out.stays (zo.of hb0.out)) hwh).mono ?_;rintro e w1 ⟨vt,vs,vr,vq,hr,hb1,hcase⟩;clear c0 c1 c2 c3 lS kS;have hbw:=Hd (hb0.out.trans (hb1.mono hb0.out.size));obtain ⟨⟨tA,tn,tc,rfl⟩,⟨sA,sn,sc,rfl⟩,⟨rA,rn,rc,rfl⟩,⟨qA,qn,qc,rfl⟩⟩:=hr.forms;obtain ⟨-,rfl⟩ | ⟨p,hp,rfl⟩:=hcase
 ·unfold zaz zh.zero
  have hb2:=Hd ((hbw.out.alloc hbw.out.size (.cells #[.slice tA tn tc,.slice sA sn sc,.slice rA rn rc,.slice qA qn qc] 31)).alloc (by have:=hbw.out.size; simp; omega) (.cells #[.int .i64 0,.int .i64 0,.int .i64 0,.int .i64 0,.string ⟨#[]⟩,.string ⟨#[]⟩,.int .i64 0,.int .i64 0] 33));go_upto_region 2 with fail;generalize (w1.alloc (.cells #[.slice tA tn tc,.slice sA sn sc,.slice rA rn rc,.slice qA qn qc] 31)).alloc (.cells #[.int .i64 0,.int .i64 0,.int .i64 0,.int .i64 0,.string ⟨#[]⟩,.string ⟨#[]⟩,.int .i64 0,.int .i64 0] 33) = w2 at *;go_wp2_with fail;refine (zbq w2 (htab'.out.below hb2.out)).mono ?_;rintro e w3 ⟨rfl,hb3⟩;go_wp2;go_ret;exact ⟨rfl,hb2.out.trans (hb3.mono hb2.out.size)⟩
 ·have F:=Hd (znB x p hp)
  unfold zaz;have hb2:=Hd ((hbw.out.alloc hbw.out.size (.cells #[.slice tA tn tc,.slice sA sn sc,.slice rA rn rc,.slice qA qn qc] 31)).alloc (by have:=hbw.out.size; simp; omega) (.cells #[.int .i64 p.id,.int .i64 p.town,.int .i64 p.street,.int .i64 p.number,.string p.letter,.string p.unit,.int .i64 p.box,.int .i64 p.seq] 33));have kF:=Hd ((Blk.new w1 31 #[.slice tA tn tc,.slice sA sn sc,.slice rA rn rc,.slice qA qn qc]).alloc (.cells #[.int .i64 p.id,.int .i64 p.town,.int .i64 p.street,.int .i64 p.number,.string p.letter,.string p.unit,.int .i64 p.box,.int .i64 p.seq] 33));have kP:=Hd (Blk.new_at (w1.alloc (.cells #[.slice tA tn tc,.slice sA sn sc,.slice rA rn rc,.slice qA qn qc] 31)) 33 #[.int .i64 p.id,.int .i64 p.town,.int .i64 p.street,.int .i64 p.number,.string p.letter,.string p.unit,.int .i64 p.box,.int .i64 p.seq] (w1.heap.size + 1) (by simp));have hr2:=Hd (hr.stays (zo.of (((Below.refl w1.heap.size w1).alloc (lQ _) (.cells #[.slice tA tn tc,.slice sA sn sc,.slice rA rn rc,.slice qA qn qc] 31)).alloc (by simp) (.cells #[.int .i64 p.id,.int .i64 p.town,.int .i64 p.street,.int .i64 p.number,.string p.letter,.string p.unit,.int .i64 p.box,.int .i64 p.seq] 33))));clear hr hb1;go_upto_region 2 with fail;generalize (w1.alloc (.cells #[.slice tA tn tc,.slice sA sn sc,.slice rA rn rc,.slice qA qn qc] 31)).alloc (.cells #[.int .i64 p.id,.int .i64 p.town,.int .i64 p.street,.int .i64 p.number,.string p.letter,.string p.unit,.int .i64 p.box,.int .i64 p.seq] 33) = w2 at *;generalize w1.heap.size + 1 = N6 at *;generalize w1.heap.size = N5 at *;have hbr2:=hb2;go_upto_region 4 with fail;have f0:=kF.out.cell 0;have f1:=kF.out.cell 1;have f2:=kF.out.cell 2;have f3:=kF.out.cell 3;have lF:=kF.out.lt;have g0:=kP.out.cell 0;have g1:=kP.out.cell 1;have g2:=kP.out.cell 2;have g3:=kP.out.cell 3;have g4:=kP.out.cell 4;have g5:=kP.out.cell 5;have g6:=kP.out.cell 6;have g7:=kP.out.cell 7;have lP:=kP.out.lt;simp at f0 f1 f2 f3 g0 g1 g2 g3 g4 g5 g6 g7;go_wp2_with fail;refine (zrV _ _ _ _ (zb x) p w2 hr2.out F.out.fine (htab'.out.below hb2.out)).mono ?_;rintro e w3 ⟨v,rfl,hown,hb3⟩;have hpp:=Hd hown.parts;obtain ⟨vA,vm,rfl⟩:=hown.form_;clear f0 f1 f2 f3 lF g0 g1 g2 g3 g4 g5 g6 g7 lP hown;have hpos : 0 < (zb x).points.length:=List.length_pos_of_mem hp;obtain ⟨rb,ro,rc2,erv,hrb,hrc0⟩:=ztp hr2.out.p hpos;injection erv with e1 e2 e3;subst e1;subst e2;subst e3;have hP60 : (zb x).points.length <= 64:=F.out.few;obtain ⟨A9,c9,e9,hqc,hqm,-⟩:=hr2.out.p;injection e9 with e10 e11 e12;subst e12;clear e10 e11
  have hkd:=Hd (show ∀ q ∈ zm (zX (zb x) p),∃ k : Nat,q.kind = k /\ k <= 10 from fun q hq=>by
   obtain ⟨j,-,h2,-,rfl⟩:=(zcO _ 10 q).1 hq
   exact ⟨j,rfl,h2⟩)
  have hp10 : (zm (zX (zb x) p)).length <= 10:=zcX _ 10;have hal:=Hd (fun (lv : Value) (W : World) h1 h2 h3=>(zfP (.slice tA tn tc) (.slice sA sn sc) (.slice rA rn rc) (.slice (some ⟨rb,ro,none⟩) (zb x).points.length qc) (zb x) (zcT (zb x) p) lv (zbV (m &&& 1120) (zm (zX (zb x) p))) W h1 (zbv x) h2 (ztD _ F.out.small) (fun _=>zbl x) h3 F.out.few (fun _=>zce x)).mono (fun e w' hh=>And.intro (zBn (by rw [zeE x,zBg x p hp m]; rfl) hh.1) hh.2));have hal2:=Hd (fun (k : Nat) (pv lv : Value) (W : World) h1 h2 h3=>(zfP (.slice tA tn tc) (.slice sA sn sc) (.slice rA rn rc) pv (zAZ (zb x) k) (zcT (zb x) p) lv (zbV (m &&& 1120) (zm (zX (zb x) p))) W h1 (zBq x k) h2 (ztD _ F.out.small) (fun _=>zBr x k) h3 (Nat.le_trans (zBa (zb x) k).length_le F.out.few) (fun _=>zBi x k)).mono (fun e w' hh=>And.intro (zBn (by rw [zBm x,zBg x p hp m]; rfl) hh.1) hh.2));have hless0:=Hd (fun k h=>zBs x k h (zcT (zb x) p) (zbV (m &&& 1120) (zm (zX (zb x) p))));clear F;generalize zcT (zb x) p = c at *;generalize zm (zX (zb x) p) = ps at *;have hband : bits BinOp.and IntKind.u16 (m : Int) 1120 = ((m &&& 1120 : Nat) : Int):=zhw m 1120 hm (by omega);have h11:=zBv m;generalize m &&& 1120 = m2 at *;go_wp2_with fail;refine (ztP c (.slice vA ps.length vm) ps m2 w3 hpp.out hkd.out (by omega) h11).mono ?_;rintro e w4 ⟨lv,rfl,hlp,hb34⟩;have hqs:=Hd hlp.parts;obtain ⟨lA,lc,rfl⟩:=hlp.form_;clear hband hlp;generalize zbV m2 ps = qs at *;have h35:=(hb3.trans (hb34.mono hb3.size)).alloc (Nat.le_trans hb3.size hb34.size) (.cells #[.int .u8 c,.slice lA qs.length lc] 39);have hb5:=Hd (hb2.out.trans (h35.mono hb2.out.size));have kF5:=Hd (kF.out.below h35 kF.out.lt);have kR5:=Hd (Blk.new w4 39 #[.int .u8 c,.slice lA qs.length lc]);have hr5:=Hd (hr2.out.stays (zo.of h35));have hq5:=Hd (hqs.out.stays (zo.of ((Below.refl w4.heap.size w4).alloc (lQ _) (.cells #[.int .u8 c,.slice lA qs.length lc] 39))));have hsrc5:=Hd (zdt hrc0 hrb (zc.of_below h35 (fun _=>True)) trivial);have hrb5 : rb < (w4.alloc (.cells #[.int .u8 c,.slice lA qs.length lc] 39)).heap.size:=Nat.lt_of_lt_of_le hrb h35.size;clear kF kP hr2 hpp hb2 hbr2 hbw hb0 hs' hqs hkd hp hrc0 hrb;go_upto_region 5 with fail;clear hb3 hb34 h35;generalize w4.alloc (.cells #[.int .u8 c,.slice lA qs.length lc] 39) = w5 at *;generalize w4.heap.size = N8 at *;obtain ⟨k,hk⟩ : ∃ k,k = wy % (zb x).points.length:=⟨_,rfl⟩;have hkl : k < (zb x).points.length:=by rw [hk]; exact Nat.mod_lt _ hpos
  have hkI : (wy : Int) % ((zb x).points.length : Int) = (k : Int):=by rw [hk]; simp
  have hn0 : ((zb x).points.length : Int) ≠ 0:=by omega
  clear hk;have f3:=kF5.out.cell 3;have lF:=kF5.out.lt;simp at f3;go_upto_region 6 with fail;clear f3 lF hn0;rw [hkI];clear hkI;have f0:=kF5.out.cell 0;have f1:=kF5.out.cell 1;have f2:=kF5.out.cell 2;have f3:=kF5.out.cell 3;have lF:=kF5.out.lt;simp at f0 f1 f2 f3;have hb6:=Hd (hb5.out.alloc hb5.out.size (.cells #[.slice tA tn tc,.slice sA sn sc,.slice rA rn rc,.slice (some ⟨rb,ro,none⟩) (zb x).points.length qc] 31));have h56:=(Below.refl w5.heap.size w5).alloc (lQ _) (.cells #[.slice tA tn tc,.slice sA sn sc,.slice rA rn rc,.slice (some ⟨rb,ro,none⟩) (zb x).points.length qc] 31);have kF6:=Hd (kF5.out.below h56 kF5.out.lt);have kR6:=Hd (kR5.out.below h56 kR5.out.lt);have kL6:=Hd (Blk.new w5 31 #[.slice tA tn tc,.slice sA sn sc,.slice rA rn rc,.slice (some ⟨rb,ro,none⟩) (zb x).points.length qc]);have hr6:=Hd (hr5.out.stays (zo.of h56));have hq6:=Hd (hq5.out.stays (zo.of h56));have hsrc6:=Hd (zdt hsrc5.out hrb5 (zc.of_below h56 (fun _=>True)) trivial);have hrb6 : rb < (w5.alloc (.cells #[.slice tA tn tc,.slice sA sn sc,.slice rA rn rc,.slice (some ⟨rb,ro,none⟩) (zb x).points.length qc] 31)).heap.size:=Nat.lt_of_lt_of_le hrb5 h56.size;have hFL : N5 < w5.heap.size:=kF5.out.lt;clear hsrc5 hrb5;have h56':=Hd h56;clear h56;go_upto_region 7 with fail;clear f0 f1 f2 f3 lF;generalize w5.alloc (.cells #[.slice tA tn tc,.slice sA sn sc,.slice rA rn rc,.slice (some ⟨rb,ro,none⟩) (zb x).points.length qc] 31) = w6 at *;obtain ⟨NL,hNLq⟩ : ∃ n,n = w5.heap.size:=⟨_,rfl⟩;rw [<- hNLq] at kL6 hFL ⊢;have hNLe:=Hd hNLq;clear hNLq;have k0 : (0 : Int) <= (k : Int):=by omega
  have k1 : (k : Int) <= (qc : Int):=by omega
  have k2 : (k : Int) + 1 <= ((zb x).points.length : Int):=by omega
  have k3 : ((zb x).points.length : Int) <= (qc : Int):=by omega
  go_cut [] (fun wx=>∃ g3 cap3 NX,Hid (Below w5.heap.size w5 wx /\ Blk wx NL 31 #[.slice tA tn tc,.slice sA sn sc,.slice rA rn rc,.slice (some ⟨g3,0,none⟩) (zAZ (zb x) k).points.length cap3] /\ zaw 33 8 zds zdp NX wx (.slice (some ⟨g3,0,none⟩) (zAZ (zb x) k).points.length cap3) (zAZ (zb x) k).points))
  case first=>
   obtain ⟨i33,hi33,hz33,hy33,hw33⟩:=info_parts zuP;have hW:=Hd (show Way w5 w6 w6 from ⟨h56'.out,zc.of_below (Below.refl _ _) _⟩);have H7:=Hd (lQ w6.heap.size);have h67:=h56'.out.size;have hls : Hid ((zAZ (zb x) k).points = (zb x).points.take k ++ (zb x).points.drop (k + 1)):=Hd rfl;have hln : Hid ((zAZ (zb x) k).points.length = k + ((zb x).points.length - (k + 1))):=Hd (by rw [hls.out,List.length_append,List.length_take,List.length_drop,Nat.min_eq_left (by omega)]);generalize (zAZ (zb x) k).points = LP at *;generalize (zb x).points = PL at *;refine zT (C:=fun wc=>zc (fun b=>b < w6.heap.size) w6 wc) [false,true,true,true,true,false,true,true,true,true,true,false,false] [0,5,11,12] (by kernel_rfl) (by kernel_rfl) (by kernel_rfl) (fun _ h=>zc.of_below h _) ?A7 ?q7 ?t7
   case q7=>
    intro S1 hS1 hSC hne;have y3:=fun (u : zaP S1)=>(kF6.out.keep (hSC u.wld u.mem) kF6.out.lt).cell 3;simp at y3;simp only [zbM,if_true,if_false,Bool.false_eq_true]
    repeat (go_big_quiet_step (fail))
    refine wpQuiet_nil ?_;rfl
   obtain ⟨sB,hsB⟩ : ∃ sB,sB = (if qc = k + 1 then some (⟨rb,ro,none⟩ : Addr) else some ⟨rb,ro + (k + 1) * 8,none⟩):=⟨_,rfl⟩;rw [<- hsB];have hsB':=Hd (show 0 < PL.length - (k + 1) -> sB = some ⟨rb,ro + (k + 1) * 8,none⟩ from fun h0=>hsB.trans (if_neg (by omega)));clear hsB;refine zB [0] (by kernel_rfl) fun j hj wa hba=>?_;obtain rfl:=mS.1 hj;refine ⟨_,rfl,rfl,zy (ops:=#[]) (K:=fun a' w'=>(∀ w9,Below w'.heap.size w' w9 -> (fun wc=>zc (fun b=>b < w6.heap.size) w6 wc) w9) /\ mkG Tryz.prog _ _ (fun wc=>zc (fun b=>b < w6.heap.size) w6 wc) _ 3 [5,11,12] a' w') rfl fun Q' hQ=>?_⟩;simp only [gX,gQ,gZ];have hown:=Hd (zdP (w:=wa) (E:=33) (k:=8));have hW:=Hd ((hW.out.up hba).up ((Below.refl wa.heap.size wa).alloc (lQ _) (.cells #[] 33)));have hNX : w6.heap.size <= wa.heap.size:=Nat.le_trans H7.out hba.size;have hNXs:=Hd (show wa.heap.size + 1 <= (wa.alloc (.cells #[] 33)).heap.size by simp);go_wp2;refine hQ _ _ rfl ⟨fun w4 h4=>(hW.out.up h4).keeps,?_⟩;clear hQ;have H7:=Hd (show w6.heap.size <= (wa.alloc (.cells #[] 33)).heap.size by have:=hNXs.out; omega);clear hba;generalize wa.alloc (.cells #[] 33) = wx at *;generalize wa.heap.size = NX at *;refine zB [5] (by kernel_rfl) fun j hj wa hba=>?_;obtain rfl:=mS.1 hj;refine ⟨_,rfl,rfl,zy (ops:=#[]) (K:=fun a' w'=>(∀ w9,Below w'.heap.size w' w9 -> (fun wc=>zc (fun b=>b < w6.heap.size) w6 wc) w9) /\ mkG Tryz.prog _ _ (fun wc=>zc (fun b=>b < w6.heap.size) w6 wc) _ 2 [11,12] a' w') rfl fun Q' hQ=>?_⟩;simp only [gX,gQ,gZ];have hW:=Hd (hW.out.up hba);have hown:=Hd (zls hown.out hba);have H7:=Hd (Nat.le_trans H7.out hba.size);have hNXs:=Hd (Nat.le_trans hNXs.out hba.size);have hA:=Hd (fun (ops : Array Oper) (rest : List Oper) (o : Oper) (a : Act) (Q : Exit -> Act -> World -> Prop) hgd ho' hs hx h=>zBh (P:=Tryz.prog) (w:=wa) (ops:=ops) (rest:=rest) (o:=o) (a:=a) (Q:=Q) hgd (.tmp 45) (.tmp 49) 29 ho' NX 33 i33 (.agg #[.int .i64 0,.int .i64 0,.int .i64 0,.int .i64 0,.string ⟨#[]⟩,.string ⟨#[]⟩,.int .i64 0,.int .i64 0]) 8 80 Tryz.underlying29 hi33 hz33 hy33 hw33 rfl (by decide) NX 0 0 [] hs hown.out (some ⟨rb,ro,none⟩) k qc ((PL.take k).flatMap zds) hx (by rw [zfN zds 8 (fun _=>rfl),List.length_take,Nat.min_eq_left (by omega)]) (fun _=>⟨_,rfl,zBu k (zdt hsrc6.out hrb6 hW.out.keeps hrb6)⟩) (zgQ zfT _) (by unfold maxLen; omega) (by omega) (Nat.le_of_succ_le hNXs.out) _ rfl h);have hwaH:=Hd H7.out;go_wp2_with (at_builtin; refine hA.out _ _ _ _ _ rfl rfl rfl rfl ?_; intro g cap1 wC hownC hgrC hatC hltC);rw [Nat.zero_add] at hownC
   have hgN:=Hd (show w6.heap.size <= g by
    rcases hatC with h | h
    ·have e3 : NX = g:=Option.some.inj h
     omega
    ·rw [h]; exact hwaH.out)
   have hW:=Hd (hW.out.grown hNX h67 hgrC);have hown:=Hd hownC;have H7:=Hd (Nat.le_trans H7.out hgrC.size);have hNXs:=Hd (Nat.le_trans hNXs.out hgrC.size);refine hQ _ _ rfl ⟨fun w4 h4=>(hW.out.up h4).keeps,?_⟩;clear hQ;clear hA hownC hgrC hatC hltC hba hwaH;refine zB [11] (by kernel_rfl) fun j hj wa hba=>?_;obtain rfl:=mS.1 hj;refine ⟨_,rfl,rfl,zy (ops:=#[]) (K:=fun a' w'=>(∀ w9,Below w'.heap.size w' w9 -> (fun wc=>zc (fun b=>b < w6.heap.size) w6 wc) w9) /\ mkG Tryz.prog _ _ (fun wc=>zc (fun b=>b < w6.heap.size) w6 wc) _ 1 [12] a' w') rfl fun Q' hQ=>?_⟩;simp only [gX,gQ,gZ];have hW:=Hd (hW.out.up hba);have hown:=Hd (zls hown.out hba);have H7:=Hd (Nat.le_trans H7.out hba.size);have hNXs:=Hd (Nat.le_trans hNXs.out hba.size);have hA:=Hd (fun (ops : Array Oper) (rest : List Oper) (o : Oper) (a : Act) (Q : Exit -> Act -> World -> Prop) hgd ho' hs hx h=>zBh (P:=Tryz.prog) (w:=wa) (ops:=ops) (rest:=rest) (o:=o) (a:=a) (Q:=Q) hgd (.tmp 50) (.tmp 55) 29 ho' NX 33 i33 (.agg #[.int .i64 0,.int .i64 0,.int .i64 0,.int .i64 0,.string ⟨#[]⟩,.string ⟨#[]⟩,.int .i64 0,.int .i64 0]) 8 80 Tryz.underlying29 hi33 hz33 hy33 hw33 rfl (by decide) g k cap1 ([] ++ (PL.take k).flatMap zds) hs hown.out sB (PL.length - (k + 1)) (qc - (k + 1)) ((PL.drop (k + 1)).flatMap zds) hx (by rw [zfN zds 8 (fun _=>rfl),List.length_drop]) (fun h0=>⟨_,hsB'.out h0,zBt (k + 1) (by omega) (zdt hsrc6.out hrb6 hW.out.keeps hrb6)⟩) (zgQ zfT _) (by unfold maxLen; omega) (by omega) (Nat.le_of_succ_le hNXs.out) _ rfl h);have hwaH:=Hd H7.out;go_wp2_with (at_builtin; refine hA.out _ _ _ _ _ rfl rfl rfl rfl ?_; intro g3 cap3 wD hownD hgrD hatD hltD);have hW:=Hd (hW.out.grown hgN.out h67 hgrD);have hown2:=Hd (show zaw 33 8 zds zdp NX wD (.slice (some ⟨g3,0,none⟩) LP.length cap3) LP from ⟨by rw [hln.out,hls.out,List.flatMap_append]; exact hownD,fun _ _=>trivial⟩);refine hQ _ _ rfl ⟨fun w4 h4=>(hW.out.up h4).keeps,?_⟩;clear hQ;clear hA hownD hgrD hatD hltD hba hwaH;refine zag [12] (.pointer (some ⟨NL,3,none⟩)) (by kernel_rfl) rfl (i:=12) rfl rfl (fun _ _=>rfl) (fun w2 h2=>(hW.out.up h2).keeps) ?_;simp only [gX,gQ,gZ,Act.put,sX,sS,sZ];refine zaM rfl ?_;intro we hbe;have hWe:=hW.out.up hbe;have kE:=Hd (kL6.out.keep hWe.keeps kL6.out.lt);have s2:=kE.out.cell 3;have z2:=kE.out.frozen 3;have lE:=kE.out.lt;simp at s2;have hfin:=Hd (show Below w5.heap.size w5 (we.setCell ⟨NL,3,none⟩ (.slice (some ⟨g3,0,none⟩) LP.length cap3)) /\ Blk (we.setCell ⟨NL,3,none⟩ (.slice (some ⟨g3,0,none⟩) LP.length cap3)) NL 31 #[.slice tA tn tc,.slice sA sn sc,.slice rA rn rc,.slice (some ⟨g3,0,none⟩) LP.length cap3] /\ zaw 33 8 zds zdp NX (we.setCell ⟨NL,3,none⟩ (.slice (some ⟨g3,0,none⟩) LP.length cap3)) (.slice (some ⟨g3,0,none⟩) LP.length cap3) LP from ⟨hWe.below.setCell (by simp; exact Nat.le_of_eq hNLe.out.symm) _,kE.out.set_ 3 _,zaw.keep ze (zaw.keep ze hown2.out (zc.of_below hbe _)) (zc.set_ we _ _ (by have:=kL6.out.lt; simp; omega))⟩);rw [hln.out] at hfin;clear hWe hbe;go_wp2;go_meet
   case rel=>exact ⟨g3,cap3,NX,by rw [hln.out]; exact hfin⟩
  case rest=>
  obtain ⟨g3,cap3,NX,h7⟩:=hcut;rename World=>w7;have hb7:=Hd (hb5.out.trans (h7.out.1.mono hb5.out.size));have kF7:=Hd (kF5.out.below h7.out.1 kF5.out.lt);have kR7:=Hd (kR5.out.below h7.out.1 kR5.out.lt);have kL7:=Hd h7.out.2.1;have hr7:=Hd (hr5.out.stays (zo.of h7.out.1));have hq7:=Hd (hq5.out.stays (zo.of h7.out.1));have hL7:=Hd (show zaf w7 (.slice tA tn tc) (.slice sA sn sc) (.slice rA rn rc) (.slice (some ⟨g3,0,none⟩) (zAZ (zb x) k).points.length cap3) (zAZ (zb x) k) from ⟨hr7.out.t,hr7.out.s,hr7.out.r,zmJ h7.out.2.2⟩);have hle:=Hd (hless0.out k hkl);have hA1:=Hd (hal.out (.slice lA qs.length lc));have hA2:=Hd (hal2.out k (.slice (some ⟨g3,0,none⟩) (zAZ (zb x) k).points.length cap3) (.slice lA qs.length lc));clear h7 hb5 kF5 kR5 hr5 hq5 hb6 kF6 kR6 kL6 hr6 hq6 hsrc6 hrb6 h56' hFL hNLe k0 k1 k2 k3 hal hal2 hless0;go_upto_region 8 with fail;have f0:=kF7.out.cell 0;have f1:=kF7.out.cell 1;have f2:=kF7.out.cell 2;have f3:=kF7.out.cell 3;have lF:=kF7.out.lt;have r0:=kR7.out.cell 0;have r1:=kR7.out.cell 1;have lR:=kR7.out.lt;simp at f0 f1 f2 f3 r0 r1;go_wp2_with fail;refine (hA1.out w7 hr7.out hq7.out (htab'.out.below hb7.out)).mono ?_;rintro e w8 ⟨⟨v1,ms,rfl,hm1,hpl1⟩,hb78⟩;obtain ⟨mA,mc,rfl⟩:=hm1.form_;clear f0 f1 f2 f3 lF r0 r1 lR hA1;have hm1':=Hd hm1;have hpl1':=Hd hpl1;have hb8:=Hd (hb7.out.trans (hb78.mono hb7.out.size));have kF8:=Hd (kF7.out.below hb78 kF7.out.lt);have kR8:=Hd (kR7.out.below hb78 kR7.out.lt);have kL8:=Hd (kL7.out.below hb78 kL7.out.lt);have hr8:=Hd (hr7.out.stays (zo.of hb78));have hq8:=Hd (hq7.out.stays (zo.of hb78));have hL8:=Hd (hL7.out.stays (zo.of hb78));clear hm1 hpl1 hb78 hb7 kF7 kR7 kL7 hr7 hq7 hL7;go_upto_region 9 with fail;have f0:=kL8.out.cell 0;have f1:=kL8.out.cell 1;have f2:=kL8.out.cell 2;have f3:=kL8.out.cell 3;have lL:=kL8.out.lt;have r0:=kR8.out.cell 0;have r1:=kR8.out.cell 1;have lR:=kR8.out.lt;simp at f0 f1 f2 f3 r0 r1;go_wp2_with fail;refine (hA2.out w8 hL8.out hq8.out (htab'.out.below hb8.out)).mono ?_;rintro e w9 ⟨⟨v2,rs,rfl,hm2,hpl2⟩,hb89⟩;obtain ⟨nA,nc,rfl⟩:=hm2.form_;clear f0 f1 f2 f3 lL r0 r1 lR hA2;have hm2':=Hd hm2;have hb9:=Hd (hb8.out.trans (hb89.mono hb8.out.size));have kF9:=Hd (kF8.out.below hb89 kF8.out.lt);have hr9:=Hd (hr8.out.stays (zo.of hb89));have hm19:=Hd (zaw.keep zbX hm1'.out (zc.of_below hb89 _));have hRS : Hid (rs.map zcl.plain = (ms.map zcl.plain).filter fun m=>decide (m.point ≠ ((zb x).points[k]'hkl).id)):=Hd (by rw [hpl2,hle.out,hpl1'.out]);clear hm2 hpl2 hb89 hb8 kF8 kR8 kL8 hr8 hq8 hL8 hm1' hpl1' hle;go_upto_region 13 with fail;obtain ⟨cnt,hc0,hcN,hcS⟩:=zBo ms rs _ hRS.out;have hc0:=Hd hc0;have hcN:=Hd hcN;have hcS:=Hd hcS;clear hRS;have hidc:=Hd (zpc hr9.out hpos);obtain ⟨_,_,em,hmc1,hmc2,-⟩:=hm19.out.sl (fun _=>rfl);have hmx : ms.length <= 9223372036854775807:=by unfold maxLen at hmc2; omega
  clear em hmc1 hmc2;obtain ⟨_,_,em,hmc1,hmc2,-⟩:=zaw.sl hm2'.out (fun _=>rfl);have hrx : rs.length <= 9223372036854775807:=by unfold maxLen at hmc2; omega
  clear em hmc1 hmc2;go_wp2
  go_loopw [19,83] (fun av jv wr=>∃ j : Nat,j <= ms.length /\ jv = .int .i64 j /\ av = .int .i64 (cnt j) /\ Hid (Below w9.heap.size w9 wr)) (fun _ jv _=>ms.length - (intOf jv).toNat)
  case atStart=>exact ⟨0,by omega,rfl,by rw [hc0.out]; rfl,Hd (Below.refl _ _)⟩
  case round=>
   obtain ⟨j,hj,rfl,rfl,hbr⟩:=hrel;rename World=>wr;have n0 : (0 : Int) <= (j : Int):=by omega
   by_cases hlt : j < ms.length
   ·have n1 : (j : Int) < (ms.length : Int):=by omega
    obtain ⟨b1,rfl,hb1,hms⟩:=zBk hm19.out (by omega);obtain ⟨a0,a1,A2,c2,a2⟩:=hms j hlt;obtain ⟨bp,op,cp,hvp,hbp,hpp⟩:=hidc.out;injection hvp with e1 _ e3;injection e1 with e1;injection e1 with e1 e2;subst e1 e2;have p0:=(hpp k hkl).c0;have hb19 : b1 < w9.heap.size:=hb1;rw [<- hbr.out.cell (p:=⟨b1,j * 3,none⟩) hb19] at a0;rw [<- hbr.out.cell (p:=⟨b1,j * 3 + 1,none⟩) hb19] at a1;rw [<- hbr.out.cell (p:=⟨b1,j * 3 + 2,none⟩) hb19] at a2;have hst:=hcS.out j hlt;have n2 : (k : Int) < ((zb x).points.length : Int):=by omega
    have n3 : (0 : Int) <= (k : Int):=by omega
    generalize (ms[j]).plain = mj at *;generalize ((zb x).points[k]'hkl).id = qid at *;have hrc:=Hd (fun h0 : 0 < rs.length=>zBk hm2'.out h0);have hbx:=Hd (hbr.out.alloc hbr.out.size (.cells #[.int .i64 mj.point,.int .i64 mj.cost,.slice A2 mj.notes.length c2] 43));have kT:=Hd (Blk.new wr 43 #[.int .i64 mj.point,.int .i64 mj.cost,.slice A2 mj.notes.length c2]);go_upto_region 16 with fail;clear a0 a1 a2;generalize wr.alloc (.cells #[.int .i64 mj.point,.int .i64 mj.cost,.slice A2 mj.notes.length c2] 43) = wx at *;generalize wr.heap.size = NT at *;have y0:=fun (u : Ups wx)=>(kT.out.ups u).cell 0;have z1:=fun (u : Ups wx)=>((kF9.out.below hbx.out kF9.out.lt).ups u).cell 3;simp at y0 z1;have z0:=fun (u : Ups wx)=>((hbx.out.trans (u.up.mono hbx.out.size)).cell (p:=⟨rb,ro + k * 8,none⟩) hbp).trans p0;refine zC rfl (by kernel_rfl) ?_
    repeat (go_big_quiet_step (fail))
    refine wpQuiet_nil ?_;rintro w' ⟨u,rfl⟩;have hu:=Hd (hbx.out.trans (u.up.mono hbx.out.size));have kU:=Hd (kT.out.ups u);clear y0 z1 z0 hbx kT;generalize u.wld = wz at *;rcases hst with ⟨hq,hcn⟩ | ⟨hq,hcn,hr,hpe⟩
    ·have e1 : (mj.point == qid) = true:=by simpa using hq
     go_wp2;have hjb : j < 9223372036854775807:=by omega
     go_roundw
     case rel=>exact ⟨j + 1,by omega,by go_num,by rw [hcn],hu⟩
     case measure=>simp [intOf]; omega
    ·have e1 : (mj.point == qid) = false:=by simpa using hq
     go_upto_region 17 with fail;obtain ⟨b2,rfl,hb2,hrr⟩:=hrc.out (by omega);obtain ⟨r0,r1,A3,c3,r2⟩:=hrr (cnt j) hr;rw [hpe] at r0 r1 r2;have m0 : (0 : Int) <= (cnt j : Int):=by omega
     have m1 : (cnt j : Int) < (rs.length : Int):=by omega
     have m2' : ¬ (rs.length : Int) <= (cnt j : Int):=by omega
     have y0:=fun (u : Ups wz)=>(kU.out.ups u).cell 0;have y1:=fun (u : Ups wz)=>(kU.out.ups u).cell 1;have y2:=fun (u : Ups wz)=>(kU.out.ups u).cell 2;simp at y0 y1 y2;have z0:=fun (u : Ups wz)=>((hu.out.trans (u.up.mono hu.out.size)).cell (p:=⟨b2,cnt j * 3,none⟩) hb2).trans r0;have z1:=fun (u : Ups wz)=>((hu.out.trans (u.up.mono hu.out.size)).cell (p:=⟨b2,cnt j * 3 + 1,none⟩) hb2).trans r1;have z2:=fun (u : Ups wz)=>((hu.out.trans (u.up.mono hu.out.size)).cell (p:=⟨b2,cnt j * 3 + 2,none⟩) hb2).trans r2;have e3 : (mj.point != mj.point) = false:=by simp
     have e4 : (mj.cost != mj.cost) = false:=by simp
     have e5 : ((mj.notes.length : Int) != (mj.notes.length : Int)) = false:=by simp
     refine zC rfl (by kernel_rfl) ?_
     repeat (go_big_quiet_step (fail))
     refine wpQuiet_nil ?_;rintro w' ⟨u,rfl⟩;have hv:=Hd (hu.out.trans (u.up.mono hu.out.size));clear y0 y1 y2 z0 z1 z2;generalize u.wld = wv at *;have hjb : j < 9223372036854775807:=by omega
     have hcb : cnt j < 9223372036854775807:=by omega
     go_wp2;go_roundw
     case rel=>exact ⟨j + 1,by omega,by go_num,by rw [hcn]; go_num,hv⟩
     case measure=>simp [intOf]; omega
   ·obtain rfl : j = ms.length:=by omega
    have n1 : ¬ (ms.length : Int) < (ms.length : Int):=by omega
    have hbe:=Hd (hb9.out.trans (hbr.out.mono hb9.out.size));have e1 : ((cnt ms.length : Int) == (rs.length : Int)) = true:=by rw [hcN.out]; exact beq_self_eq_true _
    go_wp2_with fail;refine (zbq wr (htab'.out.below hbe.out)).mono ?_;rintro e wz ⟨rfl,hbz⟩;go_wp2;go_ret;exact ⟨rfl,hbe.out.trans (hbz.mono hbe.out.size)⟩
end
end Go.Proofs.YtggimnndflkjkaaGreatDoor
