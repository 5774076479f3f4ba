import Derived.Test.YtggimnndflkjkaaGreatDoorR01
import Derived.Test.YtggimnndflkjkaaGreatDoorR09
import Derived.StillTail
import Derived.Deep.Quiet
set_option linter.all false
set_option maxRecDepth 100000
set_option maxHeartbeats 0
namespace Go.Proofs.YtggimnndflkjkaaGreatDoor
section
open Go.RowKit
theorem zkC (v : Value) (l : List ByteArray) (w : World) (hv : zan w v l) (hn : l.length <= 1000000) :
  Calls Tryz.prog 43 #[v] w fun e w'=>∃ v',e = .returned v' /\ zbb w.heap.size w' v' l /\ Below w.heap.size w w':=by
 obtain ⟨A,c,rfl,hnc,hc,hA⟩:=hv
 cases A with
 | none=>
  have h0 : l.length = 0:=by
   rcases Nat.eq_zero_or_pos l.length with h | h
   ·exact h
   ·obtain ⟨_,_,h,_⟩:=hA h; cases h
  obtain rfl:=List.length_eq_zero_iff.1 h0;refine (Sh.slices_Clone_string_nil 0 c w).mono ?_;rintro e w' ⟨rfl,rfl⟩;exact ⟨_,rfl,zaw.nil_,Below.refl _ _⟩
 | some a=>
  rcases Nat.eq_zero_or_pos l.length with h0 | h0
  ·obtain rfl:=List.length_eq_zero_iff.1 h0
   refine (Sh.slices_Clone_string_zero a c w).mono ?_;rintro e w' ⟨v',rfl,ho,-,hb⟩;refine ⟨v',rfl,?_,hb⟩;have h : zbb w.heap.size w' v' []:=⟨by simpa using ho,fun _ h=>by cases h⟩;exact h
  ·obtain ⟨b,off,e,hb,hi⟩:=hA h0
   cases e
   refine (Sh.slices_Clone_string b off l.length c l w (lQ _) (by omega) (fun j hj=>(hi j hj).1)).mono ?_;rintro e w' ⟨v',rfl,ho,-,hb'⟩;refine ⟨v',rfl,?_,hb'⟩
   have h : zbb w.heap.size w' v' l:=⟨by
    have : l.flatMap strCells = (l.take l.length).map Value.string:=by
     rw [List.take_length]; clear ho hi hn hnc hA h0; induction l with
     | nil=>rfl
     | cons x t ih=>rw [List.flatMap_cons,ih]; rfl
    rw [this]; exact ho,fun p hp=>by
    obtain ⟨i,hi',rfl⟩:=List.mem_iff_getElem.1 hp;have:=(hi i hi').2;rw [zD _ _ _ hi'] at this
    exact this⟩
   exact h
theorem ziO (n : Int) (w : World) : Calls Tryz.prog 113 #[.int .i64 n] w fun e w'=>e = .returned (.bool (zcn n)) /\ w' = w:=by
 have hd : Hid (zcn n = (decide (1 <= n) && decide (n <= 999999))):=Hd rfl;go_enter Tryz.func113,Tryz.ntmps113;by_cases h1 : 1 <= n
 ·have d1 : decide (1 <= n) = true:=decide_eq_true h1
  rw [d1] at hd;clear h1;go_wp2;go_ret;exact ⟨zf (by rw [hd.out]; simp),rfl⟩
 ·have d1 : decide (1 <= n) = false:=decide_eq_false h1
  rw [d1] at hd;clear h1;go_wp2;go_ret;exact ⟨zf (by rw [hd.out]; simp),rfl⟩
theorem zvX (t : zJ) (cv : Value) (g : Nat) (id : Int) (w : World) (hcv : ∃ A n c,cv = .slice A n c) (hg : w.cell? ⟨g,0,none⟩ = some (.int .i64 id)) :
  Calls Tryz.prog 42 #[.agg (zcB t cv),.pointer (some ⟨g,0,none⟩)] w fun e w'=>e = .returned (.bool (decide (t.id = id))) /\ Below w.heap.size w w':=by
 obtain ⟨A,n,c,rfl⟩:=hcv;obtain ⟨tid,country,name,region,codes⟩:=t;have hb : Below w.heap.size w (w.alloc (.cells (zcB ⟨tid,country,name,region,codes⟩ (.slice A n c)) 79)):=(Below.refl _ _).alloc (lQ _) _;unfold zcB at *;have hlt:=World.block_lt_of_cell? _ _ hg;have hd : decide (tid = id) = (tid == id):=by by_cases h : tid = id <;> simp [h]
 rw [hd];go_enter Tryz.func42,Tryz.ntmps42;go_wp2;go_ret;exact ⟨rfl,hb⟩
theorem zrb (t : zz) (cv : Value) (g : Nat) (id : Int) (w : World) (hcv : ∃ A n c,cv = .slice A n c) (hg : w.cell? ⟨g,0,none⟩ = some (.int .i64 id)) :
  Calls Tryz.prog 45 #[.agg (zcj t cv),.pointer (some ⟨g,0,none⟩)] w fun e w'=>e = .returned (.bool (decide (t.id = id))) /\ Below w.heap.size w w':=by
 obtain ⟨A,n,c,rfl⟩:=hcv;obtain ⟨tid,town,pre,name,suffix,others⟩:=t;have hb : Below w.heap.size w (w.alloc (.cells (zcj ⟨tid,town,pre,name,suffix,others⟩ (.slice A n c)) 83)):=(Below.refl _ _).alloc (lQ _) _;unfold zcj at *;have hlt:=World.block_lt_of_cell? _ _ hg;have hd : decide (tid = id) = (tid == id):=by by_cases h : tid = id <;> simp [h]
 rw [hd];go_enter Tryz.func45,Tryz.ntmps45;go_wp2;go_ret;exact ⟨rfl,hb⟩
theorem ztn (t : zh) (g : Nat) (id : Int) (w : World) (hg : w.cell? ⟨g,0,none⟩ = some (.int .i64 id)) :
  Calls Tryz.prog 51 #[.agg (zaz t),.pointer (some ⟨g,0,none⟩)] w fun e w'=>e = .returned (.bool (decide (t.id = id))) /\ Below w.heap.size w w':=by
 obtain ⟨tid,town,street,number,letter,unit,box,seq⟩:=t;have hb : Below w.heap.size w (w.alloc (.cells (zaz ⟨tid,town,street,number,letter,unit,box,seq⟩) 33)):=(Below.refl _ _).alloc (lQ _) _;unfold zaz at *;have hlt:=World.block_lt_of_cell? _ _ hg;have hd : decide (tid = id) = (tid == id):=by by_cases h : tid = id <;> simp [h]
 rw [hd];go_enter Tryz.func51,Tryz.ntmps51;go_wp2;go_ret;exact ⟨rfl,hb⟩
def zfl (town street n : Int) (g : zj) : Bool:=decide (g.town = town) && decide (g.street = street) && zbf g n
theorem ztq (t : zj) (g1 g2 g3 : Nat) (town street n : Int) (w : World) (hn0 : 0 <= n) (hn1 : n <= 1000000) (h1 : w.cell? ⟨g1,0,none⟩ = some (.int .i64 town)) (h2 : w.cell? ⟨g2,0,none⟩ = some (.int .i64 street)) (h3 : w.cell? ⟨g3,0,none⟩ = some (.int .i64 n)) :
  Calls Tryz.prog 70 #[.agg (zaV t),.pointer (some ⟨g1,0,none⟩),.pointer (some ⟨g2,0,none⟩),.pointer (some ⟨g3,0,none⟩)] w fun e w'=>e = .returned (.bool (zfl town street n t)) /\ Below w.heap.size w w':=by
 have hcn:=Hd (zkI t n);have hin : Hid (zfl town street n t = (decide (t.town = town) && decide (t.street = street) && zbf t n)):=Hd rfl;generalize zbf t n = cb at *;obtain ⟨tn,st,low,high,parity,code,route⟩:=t;have hb : Below w.heap.size w (w.alloc (.cells (zaV ⟨tn,st,low,high,parity,code,route⟩) 72)):=(Below.refl _ _).alloc (lQ _) _;unfold zaV at *;have l1:=World.block_lt_of_cell? _ _ h1;have l2:=World.block_lt_of_cell? _ _ h2;have l3:=World.block_lt_of_cell? _ _ h3;simp only at l1 l2 l3;by_cases e1 : tn = town
 ·subst e1
  by_cases e2 : st = street
  ·subst e2
   go_enter Tryz.func70,Tryz.ntmps70;go_wp2_with fail;refine (hcn.out _ hn0 hn1).mono ?_;rintro e w2 ⟨rfl,hb2⟩;have hend:=hb.trans (hb2.mono hb.size);go_wp2;go_ret;exact ⟨zf (by rw [hin.out]; simp),hend⟩
  ·have d2 : (st == street) = false:=by simpa using e2
   have d3 : decide (st = street) = false:=decide_eq_false e2;rw [d3] at hin;clear e2 d3;go_enter Tryz.func70,Tryz.ntmps70;go_wp2;go_ret;exact ⟨zf (by rw [hin.out]; simp),hb⟩
 ·have d2 : (tn == town) = false:=by simpa using e1
  have d3 : decide (tn = town) = false:=decide_eq_false e1;rw [d3] at hin;clear e1 d3;go_enter Tryz.func70,Tryz.ntmps70;go_wp2;go_ret;exact ⟨zf (by rw [hin.out]; simp),hb⟩
theorem zyd (t : zj) (g1 : Nat) (n : Int) (w : World) (hn0 : 0 <= n) (hn1 : n <= 1000000) (h1 : w.cell? ⟨g1,0,none⟩ = some (.int .i64 n)) :
  Calls Tryz.prog 123 #[.agg (zaV t),.pointer (some ⟨g1,0,none⟩)] w fun e w'=>e = .returned (.bool (zbf t n)) /\ Below w.heap.size w w':=by
 have hcn:=Hd (zkI t n);generalize zbf t n = cb at *;obtain ⟨tn,st,low,high,parity,code,route⟩:=t;have hb : Below w.heap.size w (w.alloc (.cells (zaV ⟨tn,st,low,high,parity,code,route⟩) 72)):=(Below.refl _ _).alloc (lQ _) _;unfold zaV at *;have l1:=World.block_lt_of_cell? _ _ h1;go_enter Tryz.func123,Tryz.ntmps123;go_wp2_with fail;refine (hcn.out _ hn0 hn1).mono ?_;rintro e w2 ⟨rfl,hb2⟩;have hend:=hb.trans (hb2.mono hb.size);go_wp2;go_ret;exact ⟨rfl,hend⟩
end
section
open Go Go.RowKit
section
variable {P : Program} {ops : Array Oper} {md : Region.Mode} {C : World -> Prop}
def ziM (P : Program) (md : Region.Mode) (ops : Array Oper) (C : World -> Prop) (n : Nat) (L : Array Bool -> Act -> Prop) : Nat -> Array Bool -> Act -> Prop
 | 0,l,a=>L l a
 | f + 1,l,a=>Region.ready md ops l ≠ [] /\ ∀ i ∈ Region.ready md ops l,i < n /\ qOp P ops C i (ziM P md ops C n L f (l.setIfInBounds i true)) a
theorem ziM.any {n g : Nat} {L : Array Bool -> Act -> Prop} {Q' : Exit -> Act -> World -> Prop} (hL : ∀ l a w,C w -> L l a -> wpAny P md ops Q' g l a w) :
  ∀ (f : Nat) (l : Array Bool) (a : Act) (w : World),C w -> ziM P md ops C n L f l a -> wpAny P md ops Q' (f + g) l a w
 | 0,_,_,_,hw,h=>by rw [Nat.zero_add]; exact hL _ _ _ hw h
 | f + 1,_,_,_,hw,h=>by
  rw [show f + 1 + g = (f + g) + 1 by omega];exact ⟨fun h0=>absurd h0 h.1,fun i hi=>wpOp_of_qOp hw (fun a' w' hw' h'=>ziM.any hL f _ a' w' hw' h') (h.2 i hi).2⟩
theorem ziM.first {n i : Nat} {oi : Oper} {v : Value} {L : Array Bool -> Act -> Prop} (hi : ops[i]? = some oi) (hsel : ∀ (j : Nat) (o : Oper) cs b,ops[j]? = some o -> o.op ≠ .select cs b)
  (hs : Region.sinkB md ops n = true) (hc : Region.chainB md ops n = true) (hn : n < ops.size) (hin : i < n) (hL : ∀ l a,L l a -> ∀ j ∈ Region.ready md ops l,n <= j) :
  ∀ (f : Nat) (l : Array Bool) (a : Act),HeadInv md ops n l ->
   (∀ j oj,ops[j]? = some oj -> j ≠ i -> l.getD j true = false -> (∀ e ∈ oj.after,Region.binds md e = true -> e.on ≠ i) -> oi.apart ops oj = true) ->
   i ∈ Region.ready md ops l -> YieldsIn P ops C oi v a -> ziM P md ops C n L f (l.setIfInBounds i true) (a.put oi.dst v) -> ziM P md ops C n L (f + 1) l a:=by
 intro f
 induction f with
 | zero=>
  intro l a inv _ hr hy H;refine ⟨fun h=>(by rw [h] at hr; cases hr),fun j hj=>?_⟩
  have hjn : j < n:=by
   rcases Nat.lt_or_ge j n with h | h
   ·exact h
   ·exact absurd hj (tail_waits hs hc hn inv _ i rfl hin (mem_ready.1 hr).1 j h)
  rcases Decidable.em (j = i) with rfl | hne
  ·exact ⟨hjn,hy.qOp hi H⟩
  ·have:=hL _ _ H j (ready_mono hj hne)
   omega
 | succ f ih=>
  intro l a inv hfree hr hy H;have hun:=(mem_ready.1 hr).1;refine ⟨fun h=>(by rw [h] at hr; cases hr),fun j hj=>?_⟩
  have hjn : j < n:=by
   rcases Nat.lt_or_ge j n with h | h
   ·exact h
   ·exact absurd hj (tail_waits hs hc hn inv _ i rfl hin hun j h)
  refine ⟨hjn,?_⟩;rcases Decidable.em (j = i) with rfl | hne
  ·exact hy.qOp hi H
  ·have h1:=(H.2 j (ready_mono hj hne)).2
   obtain ⟨hjun,oj,hoj,hall⟩:=mem_ready.1 hj
   have hno : ∀ e ∈ oj.after,Region.binds md e = true -> e.on ≠ i:=fun e he hb heq=>by
    have h2:=hall e he hb;rw [heq,getD_both hun] at h2;cases h2
   refine qOp_mono (fun a' h3=>ih (l.setIfInBounds j true) a' (inv.set hj hjn) (fun k ok hk hki hku hk2=>hfree k ok hk hki ?_ hk2) (ready_mono hr (Ne.symm hne)) h3.1 ?_)
    (qOp_put hoj (hfree j oj hoj hne hjun hno) (fun cs b=>hsel i oi cs b hi) (fun cs b=>hsel j oj cs b hoj) hy h1)
   ·rcases Decidable.em (j = k) with rfl | hjk
    ·exact hjun
    ·rw [getD_set_ne true hjk] at hku; exact hku
   ·rw [Array.setIfInBounds_comm _ _ hne]
    exact h3.2
theorem ziM.lex {n g : Nat} {Lq : Act -> Prop} (hsel : Region.noSelect ops = true) (hs : Region.sinkB md ops n = true) (hc : Region.chainB md ops n = true) (hn : n < ops.size) :
  ∀ (l : List Oper) (k : Nat) (b : Array Bool) (a : Act),(∀ j,j < l.length -> l[j]? = ops[k + j]?) -> k + l.length = n -> HeadInv md ops n b ->
  Region.lexHead md ops g l.length k b = true -> wpQuiet P ops C Lq l a ->
  ziM P md ops C n (fun b' a'=>Region.seqB md ops g n b' = true /\ Lq a') l.length b a
 | [],k,b,a,_,hk,_,hB,h=>by
  obtain rfl : k = n:=by simpa using hk
  exact ⟨by simpa [Region.lexHead] using hB,h⟩
 | o :: l,k,b,a,hl,hk,inv,hB,h=>by
  have h0 : ops[k]? = some o:=by simpa using (hl 0 (by simp)).symm
  simp only [List.length_cons,Region.lexHead,Bool.and_eq_true] at hB;obtain ⟨⟨hr,hf⟩,hB'⟩:=hB;have hkn : k < n:=by simp only [List.length_cons] at hk; omega
  have hr' : k ∈ Region.ready md ops b:=by simpa using hr
  have hst : qOp P ops C k (wpQuiet P ops C Lq l) a:=by unfold qOp; simp only [h0]; exact h
  obtain ⟨v,hy,hK⟩:=yieldsIn_of_qOp h0 hst;exact ziM.first h0 (Region.noSelect_spec hsel) hs hc hn hkn (fun b' a' hL=>seqB_ready hL.1) l.length b a inv (Region.free_spec h0 hf) hr' hy
   (ziM.lex hsel hs hc hn l (k + 1) _ _ (fun j hj=>by have:=hl (j + 1) (by simp; omega); simpa [Nat.add_assoc,Nat.add_comm 1 j] using this) (by simp only [List.length_cons] at hk; omega) (inv.set hr' hkn) hB' hK)
theorem zeV {id : Nat} {Q : Exit -> Act -> World -> Prop} {a : Act} {w : World} {l : List Oper} (n : Nat) (hm : P.follows .mixedOrders = true) (hB : Region.lexTailB .any l.toArray n = true) (hC : C { w with drawn:=w.drawn + 1 })
  (h : wpQuiet P l.toArray C (fun a'=>∀ w',C w' -> wpList P l.toArray Q (l.drop n) a' w') (l.take n) a) : (Code.region id l.toArray true).wp P Q a w:=by
 simp only [Region.lexTailB,Bool.and_eq_true,decide_eq_true_eq] at hB;obtain ⟨⟨⟨⟨hsel,hn⟩,hs⟩,hc⟩,hlex⟩:=hB;have hn' : n < l.length:=by simpa using hn
 have htl : (l.take n).length = n:=by simp; omega
 have hdl : (l.drop n).length = l.toArray.size - n:=by simp
 have inv0 : HeadInv .any l.toArray n (Array.replicate l.toArray.size false):=
  ⟨by simp,fun j oj _ hl=>(by rw [getD_replicate_false] at hl; cases hl),fun t _ ht=>getD_in (by simpa using ht) (getD_replicate_false _ _)⟩
 have H:=ziM.lex (md:=.any) (g:=l.toArray.size - n) hsel hs hc hn (l.take n) 0 _ a (fun j hj=>by
  have hj' : j < n:=by rw [htl] at hj; exact hj
  simp [hj']) (by simpa using htl) inv0 (by rw [htl]; exact hlex) h
 refine wp_region_any hm ?_
 have H2:=ziM.any (Q':=Q) (g:=l.toArray.size - n) (fun b a' w' hw' hL=>by
  have:=wpAny_of_seq (md:=.any) (Q':=Q) (l.drop n) n b a' w' (fun j=>by simp [List.getElem?_drop]) (by rw [hdl]; exact hL.1) (hL.2 w' hw')
  rwa [hdl] at this) _ _ _ _ hC H
 rw [htl,show n + (l.toArray.size - n) = l.toArray.size by omega] at H2;exact H2
theorem zL {id : Nat} {Q : Exit -> Act -> World -> Prop} {a : Act} {w : World} {l : List Oper} (n : Nat) (hm : P.follows .mixedOrders = true) (hB : Region.lexTailB .any l.toArray n = true)
  (h : wpQuiet P l.toArray (fun w'=>∃ u : Ups w,w' = u.wld) (fun a'=>∀ w',(∃ u : Ups w,w' = u.wld) -> wpList P l.toArray Q (l.drop n) a' w') (l.take n) a) : (Code.region id l.toArray true).wp P Q a w:=
 zeV (C:=fun w'=>∃ u : Ups w,w' = u.wld) n hm hB ⟨⟨_,(Below.refl _ _).drew⟩,rfl⟩ h
end
end
section
open Go.RowKit
def zt (v : Value) : Prop:=∃ A n c,v = .slice A n c
def zas (f : zw) (id : Int) : zJ × Bool:=zA zJ.zero (fun t=>decide (t.id = id)) f.towns
def zn (f : zw) (id : Int) : zz × Bool:=zA zz.zero (fun t=>decide (t.id = id)) f.streets
def zaX (f : zw) (id : Int) : zh × Bool:=zA zh.zero (fun t=>decide (t.id = id)) f.points
def zdD (f : zw) (town street n : Int) : zj × Bool:=zA zj.zero (zfl town street n) f.ranges
theorem zan.form {w : World} {v : Value} {l : List ByteArray} (h : zan w v l) : zt v:=by
 obtain ⟨A,c,rfl,_⟩:=h;exact ⟨_,_,_,rfl⟩
theorem zaf.forms {w : World} {vt vs vr vp : Value} {f : zw} (h : zaf w vt vs vr vp f) : zt vt /\ zt vs /\ zt vr /\ zt vp:=by
 obtain ⟨⟨A,c,rfl,_⟩,⟨A,c,rfl,_⟩,⟨A,c,rfl,_⟩,⟨A,c,rfl,_⟩⟩:=h;exact ⟨⟨_,_,_,rfl⟩,⟨_,_,_,rfl⟩,⟨_,_,_,rfl⟩,⟨_,_,_,rfl⟩⟩
theorem zcp {α : Type} (z : α) (p : α -> Bool) : ∀ l : List α,(zA z p l).2 = true -> (zA z p l).1 ∈ l /\ p (zA z p l).1 = true
 | [],h=>by cases h
 | x :: t,h=>by
  unfold zA at h ⊢;cases hx : p x
  ·rw [hx] at h
   simp at h ⊢;exact ⟨.inr (zcp z p t h).1,(zcp z p t h).2⟩
  ·simp [hx]
theorem zxo (vt vs vr vp : Value) (f : zw) (id : Int) (w : World) (hf : zaf w vt vs vr vp f) :
  Calls Tryz.prog 32 #[.agg #[vt,vs,vr,vp],.int .i64 id] w fun e w'=>e = .returned (.tuple #[.agg (zaz (zaX f id).1),.bool (zaX f id).2]) /\ Below w.heap.size w w':=by
 obtain ⟨⟨At,nt,ct,rfl⟩,⟨As,ns,cs,rfl⟩,⟨Ar,nr,cr,rfl⟩,⟨Ap,np,cp,rfl⟩⟩:=hf.forms;have hb1 : Below w.heap.size w (((w.alloc (.cells #[.slice At nt ct,.slice As ns cs,.slice Ar nr cr,.slice Ap np cp] 31)).alloc (.cells #[.int .i64 id] 3)).alloc (.cells #[.int .i64 0,.int .i64 0,.int .i64 0,.int .i64 0,.string ⟨#[]⟩,.string ⟨#[]⟩,.int .i64 0,.int .i64 0] 33)):=(((Below.refl _ _).alloc (lQ _) _).alloc (by simp <;> omega) _).alloc (by simp <;> omega) _;have k0:=Blk.new (w.alloc (.cells #[.slice At nt ct,.slice As ns cs,.slice Ar nr cr,.slice Ap np cp] 31)) 3 #[.int .i64 id]
 replace k0:=k0.alloc (.cells #[.int .i64 0,.int .i64 0,.int .i64 0,.int .i64 0,.string ⟨#[]⟩,.string ⟨#[]⟩,.int .i64 0,.int .i64 0] 33)
 have kR:=Blk.new ((w.alloc (.cells #[.slice At nt ct,.slice As ns cs,.slice Ar nr cr,.slice Ap np cp] 31)).alloc (.cells #[.int .i64 id] 3)) 33 #[.int .i64 0,.int .i64 0,.int .i64 0,.int .i64 0,.string ⟨#[]⟩,.string ⟨#[]⟩,.int .i64 0,.int .i64 0];have hfi:=Hd (zqi (w.alloc (.cells #[.slice At nt ct,.slice As ns cs,.slice Ar nr cr,.slice Ap np cp] 31)).heap.size (fun t=>decide (t.id = id)) _ f.points _ (hf.p.stays (zo.of hb1)) fun W x hW _=>ztn x _ id W ((k0.below hW k0.lt).cell 0));have hpt : Hid (zaX f id = zA zh.zero (fun t=>decide (t.id = id)) f.points):=Hd rfl;rw [<- hpt.out] at hfi;clear hpt;generalize zaX f id = r at *;obtain ⟨⟨pid,town,street,number,letter,unit,box,seq⟩,ok⟩:=r;have kR':=Hd kR;have hb1':=Hd hb1;simp at hfi;clear hf kR hb1 k0;unfold zaz at *;go_enter Tryz.func32,Tryz.ntmps32;go_wp2_with fail;refine hfi.out.mono ?_;rintro e w2 ⟨rfl,hb2⟩;have hend:=hb1'.out.trans (hb2.mono (by omega));have kr:=kR'.out.below hb2 (by simp);have lr:=kr.lt;have y0:=kr.cell 0;have f0:=kr.frozen 0;have y1:=kr.cell 1;have f1:=kr.frozen 1;have y2:=kr.cell 2;have f2:=kr.frozen 2;have y3:=kr.cell 3;have f3:=kr.frozen 3;have y4:=kr.cell 4;have f4:=kr.frozen 4;have y5:=kr.cell 5;have f5:=kr.frozen 5;have y6:=kr.cell 6;have f6:=kr.frozen 6;have y7:=kr.cell 7;have f7:=kr.frozen 7;simp at lr y0 f0 y1 f1 y2 f2 y3 f3 y4 f4 y5 f5 y6 f6 y7 f7;clear hfi kR' hb1' hb2;simp only [World.size_alloc] at kr;generalize hG : w.heap.size + 1 + 1 = G at *;have hG2 : w.heap.size <= G:=by omega
 go_wp2;refine bodyPost_ret (zk (P:=Tryz.prog) Tryz.results32 _ _ _ _ _ _ rfl ((((((((kr.set_ 0 _).set_ 1 _).set_ 2 _).set_ 3 _).set_ 4 _).set_ 5 _).set_ 6 _).set_ 7 _) Tryz.underlying33 rfl (by kernel_rfl)) rfl ?_;exact ⟨rfl,((((((((hend.setCell (p:=⟨G,0,none⟩) hG2 _).setCell (p:=⟨G,1,none⟩) hG2 _).setCell (p:=⟨G,2,none⟩) hG2 _).setCell (p:=⟨G,3,none⟩) hG2 _).setCell (p:=⟨G,4,none⟩) hG2 _).setCell (p:=⟨G,5,none⟩) hG2 _).setCell (p:=⟨G,6,none⟩) hG2 _).setCell (p:=⟨G,7,none⟩) hG2 _)⟩
theorem zxr (vt vs vr vp : Value) (f : zw) (tn sn n : Int) (w : World) (hf : zaf w vt vs vr vp f) (hn0 : 0 <= n) (hn1 : n <= 1000000) :
  Calls Tryz.prog 46 #[.agg #[vt,vs,vr,vp],.int .i64 tn,.int .i64 sn,.int .i64 n] w fun e w'=>e = .returned (.tuple #[.agg (zaV (zdD f tn sn n).1),.bool (zdD f tn sn n).2]) /\ Below w.heap.size w w':=by
 obtain ⟨⟨At,nt,ct,rfl⟩,⟨As,ns,cs,rfl⟩,⟨Ar,nr,cr,rfl⟩,⟨Ap,np,cp,rfl⟩⟩:=hf.forms;have hb1 : Below w.heap.size w (((((w.alloc (.cells #[.slice At nt ct,.slice As ns cs,.slice Ar nr cr,.slice Ap np cp] 31)).alloc (.cells #[.int .i64 tn] 3)).alloc (.cells #[.int .i64 sn] 3)).alloc (.cells #[.int .i64 n] 3)).alloc (.cells #[.int .i64 0,.int .i64 0,.int .i64 0,.int .i64 0,.int .u8 0,.string ⟨#[]⟩,.int .i64 0] 72)):=(((((Below.refl _ _).alloc (lQ _) _).alloc (by simp <;> omega) _).alloc (by simp <;> omega) _).alloc (by simp <;> omega) _).alloc (by simp <;> omega) _;have k0:=Blk.new (w.alloc (.cells #[.slice At nt ct,.slice As ns cs,.slice Ar nr cr,.slice Ap np cp] 31)) 3 #[.int .i64 tn]
 replace k0:=k0.alloc (.cells #[.int .i64 sn] 3)
 replace k0:=k0.alloc (.cells #[.int .i64 n] 3)
 replace k0:=k0.alloc (.cells #[.int .i64 0,.int .i64 0,.int .i64 0,.int .i64 0,.int .u8 0,.string ⟨#[]⟩,.int .i64 0] 72)
 have k1:=Blk.new ((w.alloc (.cells #[.slice At nt ct,.slice As ns cs,.slice Ar nr cr,.slice Ap np cp] 31)).alloc (.cells #[.int .i64 tn] 3)) 3 #[.int .i64 sn]
 replace k1:=k1.alloc (.cells #[.int .i64 n] 3)
 replace k1:=k1.alloc (.cells #[.int .i64 0,.int .i64 0,.int .i64 0,.int .i64 0,.int .u8 0,.string ⟨#[]⟩,.int .i64 0] 72)
 have k2:=Blk.new (((w.alloc (.cells #[.slice At nt ct,.slice As ns cs,.slice Ar nr cr,.slice Ap np cp] 31)).alloc (.cells #[.int .i64 tn] 3)).alloc (.cells #[.int .i64 sn] 3)) 3 #[.int .i64 n]
 replace k2:=k2.alloc (.cells #[.int .i64 0,.int .i64 0,.int .i64 0,.int .i64 0,.int .u8 0,.string ⟨#[]⟩,.int .i64 0] 72)
 have kR:=Blk.new ((((w.alloc (.cells #[.slice At nt ct,.slice As ns cs,.slice Ar nr cr,.slice Ap np cp] 31)).alloc (.cells #[.int .i64 tn] 3)).alloc (.cells #[.int .i64 sn] 3)).alloc (.cells #[.int .i64 n] 3)) 72 #[.int .i64 0,.int .i64 0,.int .i64 0,.int .i64 0,.int .u8 0,.string ⟨#[]⟩,.int .i64 0];have hfi:=Hd (zqj (w.alloc (.cells #[.slice At nt ct,.slice As ns cs,.slice Ar nr cr,.slice Ap np cp] 31)).heap.size ((w.alloc (.cells #[.slice At nt ct,.slice As ns cs,.slice Ar nr cr,.slice Ap np cp] 31)).alloc (.cells #[.int .i64 tn] 3)).heap.size (((w.alloc (.cells #[.slice At nt ct,.slice As ns cs,.slice Ar nr cr,.slice Ap np cp] 31)).alloc (.cells #[.int .i64 tn] 3)).alloc (.cells #[.int .i64 sn] 3)).heap.size (zfl tn sn n) _ f.ranges _ (hf.r.stays (zo.of hb1)) fun W x hW _=>ztq x _ _ _ tn sn n W hn0 hn1 ((k0.below hW k0.lt).cell 0) ((k1.below hW k1.lt).cell 0) ((k2.below hW k2.lt).cell 0));have hpt : Hid (zdD f tn sn n = zA zj.zero (zfl tn sn n) f.ranges):=Hd rfl;rw [<- hpt.out] at hfi;clear hpt;generalize zdD f tn sn n = r at *;obtain ⟨⟨town,street,low,high,parity,code,route⟩,ok⟩:=r;have kR':=Hd kR;have hb1':=Hd hb1;simp at hfi;clear hf kR hb1 k0 k1 k2;unfold zaV at *;go_enter Tryz.func46,Tryz.ntmps46;go_wp2_with fail;refine hfi.out.mono ?_;rintro e w2 ⟨rfl,hb2⟩;have hend:=hb1'.out.trans (hb2.mono (by omega));have kr:=kR'.out.below hb2 (by simp);have lr:=kr.lt;have y0:=kr.cell 0;have f0:=kr.frozen 0;have y1:=kr.cell 1;have f1:=kr.frozen 1;have y2:=kr.cell 2;have f2:=kr.frozen 2;have y3:=kr.cell 3;have f3:=kr.frozen 3;have y4:=kr.cell 4;have f4:=kr.frozen 4;have y5:=kr.cell 5;have f5:=kr.frozen 5;have y6:=kr.cell 6;have f6:=kr.frozen 6;simp at lr y0 f0 y1 f1 y2 f2 y3 f3 y4 f4 y5 f5 y6 f6;clear hfi kR' hb1' hb2;simp only [World.size_alloc] at kr;generalize hG : w.heap.size + 1 + 1 + 1 + 1 = G at *;have hG2 : w.heap.size <= G:=by omega
 go_wp2;refine bodyPost_ret (zk (P:=Tryz.prog) Tryz.results46 _ _ _ _ _ _ rfl (((((((kr.set_ 0 _).set_ 1 _).set_ 2 _).set_ 3 _).set_ 4 _).set_ 5 _).set_ 6 _) Tryz.underlying72 rfl (by kernel_rfl)) rfl ?_;exact ⟨rfl,(((((((hend.setCell (p:=⟨G,0,none⟩) hG2 _).setCell (p:=⟨G,1,none⟩) hG2 _).setCell (p:=⟨G,2,none⟩) hG2 _).setCell (p:=⟨G,3,none⟩) hG2 _).setCell (p:=⟨G,4,none⟩) hG2 _).setCell (p:=⟨G,5,none⟩) hG2 _).setCell (p:=⟨G,6,none⟩) hG2 _)⟩
theorem zwf (vt vs vr vp : Value) (f : zw) (id : Int) (w : World) (hf : zaf w vt vs vr vp f) (hcs : (zas f id).1.codes.length <= 1000000) :
  Calls Tryz.prog 26 #[.agg #[vt,vs,vr,vp],.int .i64 id] w fun e w'=>∃ cv,e = .returned (.tuple #[.agg (zcB (zas f id).1 cv),.bool (zas f id).2]) /\ zan w' cv (zas f id).1.codes /\ Below w.heap.size w w':=by
 obtain ⟨⟨At,nt,ct,rfl⟩,⟨As,ns,cs,rfl⟩,⟨Ar,nr,cr,rfl⟩,⟨Ap,np,cp,rfl⟩⟩:=hf.forms;have hb1 : Below w.heap.size w (((w.alloc (.cells #[.slice At nt ct,.slice As ns cs,.slice Ar nr cr,.slice Ap np cp] 31)).alloc (.cells #[.int .i64 id] 3)).alloc (.cells #[.int .i64 0,.int .u8 0,.string ⟨#[]⟩,.string ⟨#[]⟩,.slice none 0 0] 79)):=(((Below.refl _ _).alloc (lQ _) _).alloc (by simp) _).alloc (by simp; omega) _;have k0:=(Blk.new (w.alloc (.cells #[.slice At nt ct,.slice As ns cs,.slice Ar nr cr,.slice Ap np cp] 31)) 3 #[.int .i64 id]).alloc (.cells #[.int .i64 0,.int .u8 0,.string ⟨#[]⟩,.string ⟨#[]⟩,.slice none 0 0] 79);have kR:=Blk.new ((w.alloc (.cells #[.slice At nt ct,.slice As ns cs,.slice Ar nr cr,.slice Ap np cp] 31)).alloc (.cells #[.int .i64 id] 3)) 79 #[.int .i64 0,.int .u8 0,.string ⟨#[]⟩,.string ⟨#[]⟩,.slice none 0 0];have hfi:=Hd (zsB (w.alloc (.cells #[.slice At nt ct,.slice As ns cs,.slice Ar nr cr,.slice Ap np cp] 31)).heap.size (fun t=>decide (t.id = id)) _ f.towns _ (hf.t.stays (zo.of hb1)) fun W x cv hW _ hx=>zvX x cv _ id W hx.form ((k0.below hW k0.lt).cell 0));have hpt : Hid (zas f id = zA zJ.zero (fun t=>decide (t.id = id)) f.towns):=Hd rfl;rw [<- hpt.out] at hfi;clear hpt;generalize zas f id = r at *;obtain ⟨⟨tid,country,name,region,codes⟩,ok⟩:=r;have kR':=Hd kR;have hb1':=Hd hb1;simp only at hcs;simp at hfi;clear hf kR hb1 k0;unfold zcB at *;go_enter Tryz.func26,Tryz.ntmps26;go_wp2_with fail;refine hfi.out.mono ?_;rintro e w2 ⟨cv,rfl,htx,hb2⟩;obtain ⟨Ac,nc,cc,rfl⟩:=htx.form;have hend:=Hd (hb1'.out.trans (hb2.mono (by omega)));have kr:=Hd (kR'.out.below hb2 (by simp));have lr:=kr.out.lt;have kT:=Hd (Blk.new w2 79 #[.int .i64 tid,.int .u8 country,.string name,.string region,.slice Ac nc cc]);have hcl:=Hd (zkC _ _ _ (htx.stays (zo.of ((Below.refl _ _).alloc (lQ _) (.cells #[.int .i64 tid,.int .u8 country,.string name,.string region,.slice Ac nc cc] 79)))) hcs);clear hfi kR' hb1' hb2 htx;go_wp2_with fail;refine hcl.out.mono ?_;rintro e w3 ⟨v3,rfl,hown3,hb3⟩;obtain ⟨A3,c3,rfl⟩:=hown3.form_;have hown3':=Hd hown3;have kT3:=Hd (kT.out.below hb3 (by simp));have hw23 : Below w2.heap.size w2 w3:=((Below.refl _ _).alloc (lQ _) _).trans (hb3.mono (by simp));have kr3:=Hd (kr.out.below hw23 kr.out.lt);have hend3:=Hd (hend.out.trans (hw23.mono hend.out.size));have hs3:=hw23.size;have hs3':=hb3.size;clear hcl hb3 hend kr kT hw23 hown3;simp only [World.size_alloc] at kr3 lr hown3' hs3';generalize hG : w.heap.size + 1 + 1 = G at *;have hG2 : w.heap.size <= G:=by omega
 generalize hH : w2.heap.size = H at *;have hGH : G ≠ H:=by omega
 have hHw : w.heap.size <= H:=by omega
 have x4:=kT3.out.frozen 4;have lr3:=kr3.out.lt;have lT3:=kT3.out.lt;have z0:=kT3.out.cell 0;have y0:=kr3.out.cell 0;have f0:=kr3.out.frozen 0;have z1:=kT3.out.cell 1;have y1:=kr3.out.cell 1;have f1:=kr3.out.frozen 1;have z2:=kT3.out.cell 2;have y2:=kr3.out.cell 2;have f2:=kr3.out.frozen 2;have z3:=kT3.out.cell 3;have y3:=kr3.out.cell 3;have f3:=kr3.out.frozen 3;have z4:=kT3.out.cell 4;have y4:=kr3.out.cell 4;have f4:=kr3.out.frozen 4;simp at z0 y0 z1 y1 z2 y2 z3 y3 z4 y4;go_wp2;refine bodyPost_ret (zk (P:=Tryz.prog) Tryz.results26 _ _ _ _ _ _ rfl ((((((kr3.out.far (p:=⟨H,4,none⟩) hGH _).set_ 0 _).set_ 1 _).set_ 2 _).set_ 3 _).set_ 4 _) Tryz.underlying79 rfl (by kernel_rfl)) rfl ?_;exact ⟨_,rfl,zbb.texts (zaw.keep zaA hown3'.out ((((((zc.set_ _ ⟨H,4,none⟩ _ (by simp)).trans (zc.set_ _ ⟨G,0,none⟩ _ (by simp; omega))).trans (zc.set_ _ ⟨G,1,none⟩ _ (by simp; omega))).trans (zc.set_ _ ⟨G,2,none⟩ _ (by simp; omega))).trans (zc.set_ _ ⟨G,3,none⟩ _ (by simp; omega))).trans (zc.set_ _ ⟨G,4,none⟩ _ (by simp; omega)))),((((((hend3.out.setCell (p:=⟨H,4,none⟩) hHw _).setCell (p:=⟨G,0,none⟩) hG2 _).setCell (p:=⟨G,1,none⟩) hG2 _).setCell (p:=⟨G,2,none⟩) hG2 _).setCell (p:=⟨G,3,none⟩) hG2 _).setCell (p:=⟨G,4,none⟩) hG2 _)⟩
theorem zpp (vt vs vr vp : Value) (f : zw) (id : Int) (w : World) (hf : zaf w vt vs vr vp f) (hcs : (zn f id).1.others.length <= 1000000) :
  Calls Tryz.prog 27 #[.agg #[vt,vs,vr,vp],.int .i64 id] w fun e w'=>∃ cv,e = .returned (.tuple #[.agg (zcj (zn f id).1 cv),.bool (zn f id).2]) /\ zan w' cv (zn f id).1.others /\ Below w.heap.size w w':=by
 obtain ⟨⟨At,nt,ct,rfl⟩,⟨As,ns,cs,rfl⟩,⟨Ar,nr,cr,rfl⟩,⟨Ap,np,cp,rfl⟩⟩:=hf.forms;have hb1 : Below w.heap.size w (((w.alloc (.cells #[.slice At nt ct,.slice As ns cs,.slice Ar nr cr,.slice Ap np cp] 31)).alloc (.cells #[.int .i64 id] 3)).alloc (.cells #[.int .i64 0,.int .i64 0,.string ⟨#[]⟩,.string ⟨#[]⟩,.string ⟨#[]⟩,.slice none 0 0] 83)):=(((Below.refl _ _).alloc (lQ _) _).alloc (by simp) _).alloc (by simp; omega) _;have k0:=(Blk.new (w.alloc (.cells #[.slice At nt ct,.slice As ns cs,.slice Ar nr cr,.slice Ap np cp] 31)) 3 #[.int .i64 id]).alloc (.cells #[.int .i64 0,.int .i64 0,.string ⟨#[]⟩,.string ⟨#[]⟩,.string ⟨#[]⟩,.slice none 0 0] 83);have kR:=Blk.new ((w.alloc (.cells #[.slice At nt ct,.slice As ns cs,.slice Ar nr cr,.slice Ap np cp] 31)).alloc (.cells #[.int .i64 id] 3)) 83 #[.int .i64 0,.int .i64 0,.string ⟨#[]⟩,.string ⟨#[]⟩,.string ⟨#[]⟩,.slice none 0 0];have hfi:=Hd (zoq (w.alloc (.cells #[.slice At nt ct,.slice As ns cs,.slice Ar nr cr,.slice Ap np cp] 31)).heap.size (fun t=>decide (t.id = id)) _ f.streets _ (hf.s.stays (zo.of hb1)) fun W x cv hW _ hx=>zrb x cv _ id W hx.form ((k0.below hW k0.lt).cell 0));have hpt : Hid (zn f id = zA zz.zero (fun t=>decide (t.id = id)) f.streets):=Hd rfl;rw [<- hpt.out] at hfi;clear hpt;generalize zn f id = r at *;obtain ⟨⟨tid,town,pre,name,suffix,codes⟩,ok⟩:=r;have kR':=Hd kR;have hb1':=Hd hb1;simp only at hcs;simp at hfi;clear hf kR hb1 k0;unfold zcj at *;go_enter Tryz.func27,Tryz.ntmps27;go_wp2_with fail;refine hfi.out.mono ?_;rintro e w2 ⟨cv,rfl,htx,hb2⟩;obtain ⟨Ac,nc,cc,rfl⟩:=htx.form;have hend:=Hd (hb1'.out.trans (hb2.mono (by omega)));have kr:=Hd (kR'.out.below hb2 (by simp));have lr:=kr.out.lt;have kT:=Hd (Blk.new w2 83 #[.int .i64 tid,.int .i64 town,.string pre,.string name,.string suffix,.slice Ac nc cc]);have hcl:=Hd (zkC _ _ _ (htx.stays (zo.of ((Below.refl _ _).alloc (lQ _) (.cells #[.int .i64 tid,.int .i64 town,.string pre,.string name,.string suffix,.slice Ac nc cc] 83)))) hcs);clear hfi kR' hb1' hb2 htx;go_wp2_with fail;refine hcl.out.mono ?_;rintro e w3 ⟨v3,rfl,hown3,hb3⟩;obtain ⟨A3,c3,rfl⟩:=hown3.form_;have hown3':=Hd hown3;have kT3:=Hd (kT.out.below hb3 (by simp));have hw23 : Below w2.heap.size w2 w3:=((Below.refl _ _).alloc (lQ _) _).trans (hb3.mono (by simp));have kr3:=Hd (kr.out.below hw23 kr.out.lt);have hend3:=Hd (hend.out.trans (hw23.mono hend.out.size));have hs3:=hw23.size;have hs3':=hb3.size;clear hcl hb3 hend kr kT hw23 hown3;simp only [World.size_alloc] at kr3 lr hown3' hs3';generalize hG : w.heap.size + 1 + 1 = G at *;have hG2 : w.heap.size <= G:=by omega
 generalize hH : w2.heap.size = H at *;have hGH : G ≠ H:=by omega
 have hHw : w.heap.size <= H:=by omega
 have x4:=kT3.out.frozen 5;have lr3:=kr3.out.lt;have lT3:=kT3.out.lt;have z0:=kT3.out.cell 0;have y0:=kr3.out.cell 0;have f0:=kr3.out.frozen 0;have z1:=kT3.out.cell 1;have y1:=kr3.out.cell 1;have f1:=kr3.out.frozen 1;have z2:=kT3.out.cell 2;have y2:=kr3.out.cell 2;have f2:=kr3.out.frozen 2;have z3:=kT3.out.cell 3;have y3:=kr3.out.cell 3;have f3:=kr3.out.frozen 3;have z4:=kT3.out.cell 4;have y4:=kr3.out.cell 4;have f4:=kr3.out.frozen 4;have z5:=kT3.out.cell 5;have y5:=kr3.out.cell 5;have f5:=kr3.out.frozen 5;simp at z0 y0 z1 y1 z2 y2 z3 y3 z4 y4 z5 y5;go_wp2;refine bodyPost_ret (zk (P:=Tryz.prog) Tryz.results27 _ _ _ _ _ _ rfl (((((((kr3.out.far (p:=⟨H,5,none⟩) hGH _).set_ 0 _).set_ 1 _).set_ 2 _).set_ 3 _).set_ 4 _).set_ 5 _) Tryz.underlying83 rfl (by kernel_rfl)) rfl ?_;exact ⟨_,rfl,zbb.texts (zaw.keep zaA hown3'.out (((((((zc.set_ _ ⟨H,5,none⟩ _ (by simp)).trans (zc.set_ _ ⟨G,0,none⟩ _ (by simp; omega))).trans (zc.set_ _ ⟨G,1,none⟩ _ (by simp; omega))).trans (zc.set_ _ ⟨G,2,none⟩ _ (by simp; omega))).trans (zc.set_ _ ⟨G,3,none⟩ _ (by simp; omega))).trans (zc.set_ _ ⟨G,4,none⟩ _ (by simp; omega))).trans (zc.set_ _ ⟨G,5,none⟩ _ (by simp; omega)))),(((((((hend3.out.setCell (p:=⟨H,5,none⟩) hHw _).setCell (p:=⟨G,0,none⟩) hG2 _).setCell (p:=⟨G,1,none⟩) hG2 _).setCell (p:=⟨G,2,none⟩) hG2 _).setCell (p:=⟨G,3,none⟩) hG2 _).setCell (p:=⟨G,4,none⟩) hG2 _).setCell (p:=⟨G,5,none⟩) hG2 _)⟩
end
section
open Go.RowKit
theorem Blk.ups {W : World} {g : Nat} {t : TypeId} {cs : Array Value} (h : Blk W g t cs) (u : Ups W) : Blk u.wld g t cs:=h.below u.up h.lt
theorem zuL (vt vs vr vp : Value) (f : zw) (p : zh) (w : World) (hf : zaf w vt vs vr vp f) (hn0 : 0 <= zW p) (hn1 : zW p <= 1000000) :
  Calls Tryz.prog 28 #[.agg #[vt,vs,vr,vp],.agg (zaz p)] w fun e w'=>e = .returned (.tuple #[.agg (zaV (zdD f p.town p.street (zW p)).1),.bool (zdD f p.town p.street (zW p)).2]) /\ Below w.heap.size w w':=by
 obtain ⟨⟨At,nt,ct,rfl⟩,⟨As,ns,cs,rfl⟩,⟨Ar,nr,cr,rfl⟩,⟨Ap,np,cp,rfl⟩⟩:=hf.forms;have hnum:=Hd (fun (W : World)=>zoO p W);have hrg:=Hd (fun (W : World) (hW : Below w.heap.size w W)=>zxr _ _ _ _ f p.town p.street (zW p) W (hf.stays (zo.of hW)) hn0 hn1);obtain ⟨id,town,street,number,letter,unit,box,seq⟩:=p;generalize zW _ = n at *;simp only at hrg ⊢;generalize zdD f town street n = r at *;obtain ⟨⟨tn,st,low,high,parity,code,route⟩,ok⟩:=r;unfold zaz zaV at *;clear hf
 have hb1 : Below w.heap.size w (((w.alloc (.cells #[.slice At nt ct,.slice As ns cs,.slice Ar nr cr,.slice Ap np cp] 31)).alloc (.cells #[.int .i64 id,.int .i64 town,.int .i64 street,.int .i64 number,.string letter,.string unit,.int .i64 box,.int .i64 seq] 33)).alloc (.cells #[.int .i64 0,.int .i64 0,.int .i64 0,.int .i64 0,.int .u8 0,.string ⟨#[]⟩,.int .i64 0] 72)):=
  (((Below.refl _ _).alloc (lQ _) _).alloc (by simp) _).alloc (by simp; omega) _
 have kF:=((Blk.new w 31 #[.slice At nt ct,.slice As ns cs,.slice Ar nr cr,.slice Ap np cp]).alloc (.cells #[.int .i64 id,.int .i64 town,.int .i64 street,.int .i64 number,.string letter,.string unit,.int .i64 box,.int .i64 seq] 33)).alloc (.cells #[.int .i64 0,.int .i64 0,.int .i64 0,.int .i64 0,.int .u8 0,.string ⟨#[]⟩,.int .i64 0] 72);have kP:=(Blk.new_at (w.alloc (.cells #[.slice At nt ct,.slice As ns cs,.slice Ar nr cr,.slice Ap np cp] 31)) 33 #[.int .i64 id,.int .i64 town,.int .i64 street,.int .i64 number,.string letter,.string unit,.int .i64 box,.int .i64 seq] (w.heap.size + 1) (by simp)).alloc (.cells #[.int .i64 0,.int .i64 0,.int .i64 0,.int .i64 0,.int .u8 0,.string ⟨#[]⟩,.int .i64 0] 72);have kG:=Blk.new_at ((w.alloc (.cells #[.slice At nt ct,.slice As ns cs,.slice Ar nr cr,.slice Ap np cp] 31)).alloc (.cells #[.int .i64 id,.int .i64 town,.int .i64 street,.int .i64 number,.string letter,.string unit,.int .i64 box,.int .i64 seq] 33)) 72 #[.int .i64 0,.int .i64 0,.int .i64 0,.int .i64 0,.int .u8 0,.string ⟨#[]⟩,.int .i64 0] (w.heap.size + 1 + 1) (by simp);have kF':=Hd kF;have kP':=Hd kP;have kG':=Hd kG;have hb1':=Hd hb1;clear kF kP kG hb1;go_enter Tryz.func28,Tryz.ntmps28;go_wp2_with fail;generalize ((w.alloc _).alloc _).alloc _ = W0 at *;generalize hG : w.heap.size + 1 + 1 = G at *;have q0:=fun (u : Ups W0)=>(kF'.out.ups u).cell 0;have q1:=fun (u : Ups W0)=>(kF'.out.ups u).cell 1;have q2:=fun (u : Ups W0)=>(kF'.out.ups u).cell 2;have q3:=fun (u : Ups W0)=>(kF'.out.ups u).cell 3;have p0:=fun (u : Ups W0)=>(kP'.out.ups u).cell 0;have p1:=fun (u : Ups W0)=>(kP'.out.ups u).cell 1;have p2:=fun (u : Ups W0)=>(kP'.out.ups u).cell 2;have p3:=fun (u : Ups W0)=>(kP'.out.ups u).cell 3;have p4:=fun (u : Ups W0)=>(kP'.out.ups u).cell 4;have p5:=fun (u : Ups W0)=>(kP'.out.ups u).cell 5;have p6:=fun (u : Ups W0)=>(kP'.out.ups u).cell 6;have p7:=fun (u : Ups W0)=>(kP'.out.ups u).cell 7;simp at q0 q1 q2 q3 p0 p1 p2 p3 p4 p5 p6 p7;have hrg0:=Hd (fun (u : Ups W0)=>hrg.out u.wld (hb1'.out.trans (u.up.mono hb1'.out.size)));refine zL 10 (by kernel_rfl) (by kernel_rfl) ?_;simp only [tS,tZ,dS,dZ]
 repeat (go_big_quiet_step (first | (go_at_call 47; exact zbe (hnum.out _)) | (go_at_call 46; exact zbe (hrg0.out _))))
 refine wpQuiet_nil ?_;rintro _ ⟨u,rfl⟩;have kr:=kG'.out.ups u;have lr:=kr.lt;have hend:=hb1'.out.trans (u.up.mono hb1'.out.size);have y0:=kr.cell 0;have y1:=kr.cell 1;have y2:=kr.cell 2;have y3:=kr.cell 3;have y4:=kr.cell 4;have y5:=kr.cell 5;have y6:=kr.cell 6;have f0:=kr.frozen 0;have f1:=kr.frozen 1;have f2:=kr.frozen 2;have f3:=kr.frozen 3;have f4:=kr.frozen 4;have f5:=kr.frozen 5;have f6:=kr.frozen 6;simp at y0 y1 y2 y3 y4 y5 y6;have hG2 : w.heap.size <= G:=by omega
 clear hrg hrg0 hnum hb1' kF' kP' kG' q0 q1 q2 q3 p0 p1 p2 p3 p4 p5 p6 p7;generalize u.wld = w2 at *;go_wp2;refine bodyPost_ret (zk (P:=Tryz.prog) Tryz.results28 _ _ _ _ _ _ rfl (((((((kr.set_ 0 _).set_ 1 _).set_ 2 _).set_ 3 _).set_ 4 _).set_ 5 _).set_ 6 _) Tryz.underlying72 rfl (by kernel_rfl)) rfl ?_;exact ⟨rfl,(((((((hend.setCell (p:=⟨G,0,none⟩) hG2 _).setCell (p:=⟨G,1,none⟩) hG2 _).setCell (p:=⟨G,2,none⟩) hG2 _).setCell (p:=⟨G,3,none⟩) hG2 _).setCell (p:=⟨G,4,none⟩) hG2 _).setCell (p:=⟨G,5,none⟩) hG2 _).setCell (p:=⟨G,6,none⟩) hG2 _)⟩
end
end Go.Proofs.YtggimnndflkjkaaGreatDoor
