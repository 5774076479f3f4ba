import Derived.Test.YteclineblddpbaaGreatDoorRC01
import Derived.Test.YteclineblddpbaaGreatDoorRC14
set_option linter.all false
set_option maxRecDepth 100000
set_option maxHeartbeats 0
namespace Go.Proofs.YteclineblddpbaaGreatDoorR
section
open Go Go.RowKit
structure UpsE (w : World) (E : World -> Prop) where
 wld : World
 up : Below w.heap.size w wld
 ex : E wld
def Grows (E : World -> Prop) : Prop:=∀ w w',E w -> Below w.heap.size w w' -> E w'
abbrev CE (W0 : World) (E : World -> Prop) : World -> Prop:=fun w'=>∃ u : UpsE W0 E,w' = u.wld
theorem UpsE.cellAt {w : World} {E : World -> Prop} {b o : Nat} {v : Option Value} (h : w.cell? ⟨b,o,none⟩ = v) (hb : b < w.heap.size) (u : UpsE w E) : u.wld.cell? ⟨b,o,none⟩ = v:=(u.up.cell hb).trans h
theorem Blk.upsE {W : World} {E : World -> Prop} {g : Nat} {t : TypeId} {cs : Array Value} (h : Blk W g t cs) (u : UpsE W E) : Blk u.wld g t cs:=h.below u.up h.lt
theorem calls_upsE {P : Program} {f : FuncId} {args : Array Value} {w : World} {E : World -> Prop} {v : Value} {u : UpsE w E} (hE : Grows E) (h : Calls P f args u.wld fun e w'=>e = .returned v /\ Below u.wld.heap.size u.wld w') :
  Calls P f args u.wld fun e w''=>e = .returned v /\ ∃ u' : UpsE w E,w'' = u'.wld:=
 h.mono fun _ w'' ⟨he,hb⟩=>⟨he,⟨w'',u.up.trans (hb.mono u.up.size),hE _ _ u.ex hb⟩,rfl⟩
section
variable {P : Program} {ops : Array Oper} {md : Region.Mode} {W0 : World}
def Same (P : Program) (W0 : World) (o : Oper) (a : Act) (v : Value) : Prop:=∀ E,Grows E -> ∀ w,CE W0 E w -> o.quietAt P a (CE W0 E) w v
def uOp (P : Program) (ops : Array Oper) (W0 : World) (i : Nat) (K : Act -> Prop) (a : Act) : Prop:=
 match ops[i]? with
 | none=>K a
 | some o=>if Region.wanted o (yielded ops a.tmps) then ∃ v,Same P W0 o a v /\ K (a.put o.dst v) else K (a.put o.dst undef)
theorem uOp_mono {i : Nat} {a : Act} {K K' : Act -> Prop} (h : ∀ a,K a -> K' a) (hh : uOp P ops W0 i K a) : uOp P ops W0 i K' a:=by
 unfold uOp at *
 split
 ·rename_i ho; simp only [ho] at hh; exact h _ hh
 ·rename_i o ho
  simp only [ho] at hh
  split
  ·rename_i hw
   rw [if_pos hw] at hh
   obtain ⟨v,h1,h2⟩:=hh
   exact ⟨v,h1,h _ h2⟩
  ·rename_i hw
   rw [if_neg hw] at hh
   exact h _ hh
theorem qOp_of_uOp {E : World -> Prop} (hE : Grows E) {i : Nat} {a : Act} {K : Act -> Prop} (hh : uOp P ops W0 i K a) : qOp P ops (CE W0 E) i K a:=by
 unfold uOp at hh
 unfold qOp
 split
 ·rename_i ho; simp only [ho] at hh; exact hh
 ·rename_i o ho
  simp only [ho] at hh
  split
  ·rename_i hw
   rw [if_pos hw] at hh
   obtain ⟨v,h1,h2⟩:=hh
   exact ⟨v,h1 E hE,h2⟩
  ·rename_i hw
   rw [if_neg hw] at hh
   exact hh
def Yields (P : Program) (ops : Array Oper) (W0 : World) (o : Oper) (v : Value) (a : Act) : Prop:=
 (Region.wanted o (yielded ops a.tmps) = true /\ Same P W0 o a v) \/ (Region.wanted o (yielded ops a.tmps) = false /\ v = undef)
theorem Yields.of {i : Nat} {o : Oper} {v : Value} {a : Act} (hi : ops[i]? = some o) (hy : Yields P ops W0 o v a) {K : Act -> Prop} (h : K (a.put o.dst v)) : uOp P ops W0 i K a:=by
 unfold uOp
 simp only [hi]
 rcases hy with ⟨hw,hv⟩ | ⟨hw,rfl⟩
 ·rw [if_pos hw]; exact ⟨v,hv,h⟩
 ·rw [if_neg (by rw [hw]; exact Bool.false_ne_true)]; exact h
theorem yields_of {i : Nat} {o : Oper} {a : Act} {K : Act -> Prop} (hi : ops[i]? = some o) (h : uOp P ops W0 i K a) : ∃ v,Yields P ops W0 o v a /\ K (a.put o.dst v):=by
 unfold uOp at h
 simp only [hi] at h
 cases hw : Region.wanted o (yielded ops a.tmps) with
 | true=>
  rw [if_pos hw] at h
  obtain ⟨v,h1,h2⟩:=h
  exact ⟨v,.inl ⟨hw,h1⟩,h2⟩
 | false=>
  rw [if_neg (by rw [hw]; exact Bool.false_ne_true)] at h
  exact ⟨undef,.inr ⟨hw,rfl⟩,h⟩
theorem Same.of_eq {o : Oper} {v : Value} {a a' : Act} (h : Same P W0 o a v) (he : execOp a'.eval o = execOp a.eval o) : Same P W0 o a' v:=fun E hE w hw=>by
 have:=h E hE w hw
 unfold Oper.quietAt at *
 rw [he]; exact this
theorem uOp_put {j : Nat} {oi oj : Oper} {v : Value} (hj : ops[j]? = some oj) (hap : oi.apart ops oj = true)
  (hsi : ∀ cs b,oi.op ≠ .select cs b) (hsj : ∀ cs b,oj.op ≠ .select cs b) {K : Act -> Prop} {a : Act}
  (hy : Yields P ops W0 oi v a) (h : uOp P ops W0 j K (a.put oi.dst v)) : uOp P ops W0 j (fun a'=>Yields P ops W0 oi v a' /\ K (a'.put oi.dst v)) a:=by
 obtain ⟨h1,h2,h3⟩:=Oper.apart_spec hap
 have keep : ∀ u,Yields P ops W0 oi v (a.put oj.dst u):=fun u=>by
  unfold Yields
  rw [wanted_put oi a oj.dst u h3]
  rcases hy with ⟨hw,hv⟩ | hy
  ·exact .inl ⟨hw,hv.of_eq (execOp_put oi hsi a oj.dst u h3)⟩
  ·exact .inr hy
 obtain ⟨u,hu,hn⟩:=yields_of hj h
 refine Yields.of hj (v:=u) ?_ ⟨keep u,by rw [<- Act.put_comm a v u h2]; exact hn⟩
 unfold Yields at hu ⊢
 rw [wanted_put oj a oi.dst v h1] at hu
 rcases hu with ⟨hw,hv⟩ | hu
 ·exact .inl ⟨hw,hv.of_eq (execOp_put oj hsj a oi.dst v h1).symm⟩
 ·exact .inr hu
def headU (P : Program) (md : Region.Mode) (ops : Array Oper) (W0 : World) (n z : Nat) (L : Array Bool -> Act -> Prop) : Nat -> Array Bool -> Act -> Prop
 | 0,l,a=>L l a
 | f + 1,l,a=>(∃ i ∈ Region.ready md ops l,i ≠ z) /\ ∀ i ∈ Region.ready md ops l,i ≠ z -> i < n /\ uOp P ops W0 i (headU P md ops W0 n z L f (l.setIfInBounds i true)) a
theorem headU.first {n z i : Nat} {oi : Oper} {v : Value} {L : Array Bool -> Act -> Prop} (hi : ops[i]? = some oi) (hsel : ∀ (j : Nat) (o : Oper) cs b,ops[j]? = some o -> o.op ≠ .select cs b)
  (hs : Region.sinkB md ops n = true) (hc : Region.chainB md ops n = true) (hn : n < ops.size) (hin : i < n) (hiz : i ≠ z) (hL : ∀ l a,L l a -> ∀ j ∈ Region.ready md ops l,j = z) :
  ∀ (f : Nat) (l : Array Bool) (a : Act),HeadInv md ops n l ->
   (∀ j oj,ops[j]? = some oj -> j ≠ i -> l.getD j true = false -> (∀ e ∈ oj.after,Region.binds md e = true -> e.on ≠ i) -> oi.apart ops oj = true) ->
   i ∈ Region.ready md ops l -> Yields P ops W0 oi v a -> headU P md ops W0 n z L f (l.setIfInBounds i true) (a.put oi.dst v) -> headU P md ops W0 n z L (f + 1) l a:=by
 intro f
 induction f with
 | zero=>
  intro l a inv _ hr hy H
  refine ⟨⟨i,hr,hiz⟩,fun j hj hjz=>?_⟩
  have hjn : j < n:=by
   rcases Nat.lt_or_ge j n with h | h
   ·exact h
   ·exact absurd hj (tail_waits hs hc hn inv _ i rfl hin (mem_ready.1 hr).1 j h)
  rcases Decidable.em (j = i) with rfl | hne
  ·exact ⟨hjn,hy.of hi H⟩
  ·exact absurd (hL _ _ H j (ready_mono hj hne)) hjz
 | succ f ih=>
  intro l a inv hfree hr hy H
  have hun:=(mem_ready.1 hr).1
  refine ⟨⟨i,hr,hiz⟩,fun j hj hjz=>?_⟩
  have hjn : j < n:=by
   rcases Nat.lt_or_ge j n with h | h
   ·exact h
   ·exact absurd hj (tail_waits hs hc hn inv _ i rfl hin hun j h)
  refine ⟨hjn,?_⟩
  rcases Decidable.em (j = i) with rfl | hne
  ·exact hy.of hi H
  ·have h1:=(H.2 j (ready_mono hj hne) hjz).2
   obtain ⟨hjun,oj,hoj,hall⟩:=mem_ready.1 hj
   have hno : ∀ e ∈ oj.after,Region.binds md e = true -> e.on ≠ i:=fun e he hb heq=>by
    have h2:=hall e he hb
    rw [heq,getD_both hun] at h2
    cases h2
   refine uOp_mono (fun a' h3=>ih (l.setIfInBounds j true) a' (inv.set hj hjn) (fun k ok hk hki hku hk2=>hfree k ok hk hki ?_ hk2) (ready_mono hr (Ne.symm hne)) h3.1 ?_)
    (uOp_put hoj (hfree j oj hoj hne hjun hno) (fun cs b=>hsel i oi cs b hi) (fun cs b=>hsel j oj cs b hoj) hy h1)
   ·rcases Decidable.em (j = k) with rfl | hjk
    ·exact hjun
    ·rw [getD_set_ne true hjk] at hku; exact hku
   ·rw [Array.setIfInBounds_comm _ _ hne]
    exact h3.2
def lexZ (md : Region.Mode) (ops : Array Oper) (g z : Nat) : Nat -> Nat -> Array Bool -> Bool
 | 0,k,l=>Region.seqB md ops g (k + 1) (l.setIfInBounds z true) && (Region.ready md ops l).all (· == z)
 | f + 1,k,l=>(Region.ready md ops l).contains k && Region.free md ops l k && lexZ md ops g z f (k + 1) (l.setIfInBounds k true)
def wpU (P : Program) (ops : Array Oper) (W0 : World) (A : Act) : List Oper -> Act -> Prop
 | [],a=>a = A
 | o :: rest,a=>if Region.wanted o (yielded ops a.tmps) then ∃ v,Same P W0 o a v /\ wpU P ops W0 A rest (a.put o.dst v) else wpU P ops W0 A rest (a.put o.dst undef)
theorem headU.lex {n g z : Nat} {A : Act} (hz : z + 1 = n) (hsel : Region.noSelect ops = true) (hs : Region.sinkB md ops n = true) (hc : Region.chainB md ops n = true) (hn : n < ops.size) :
  ∀ (l : List Oper) (k : Nat) (b : Array Bool) (a : Act),(∀ j,j < l.length -> l[j]? = ops[k + j]?) -> k + l.length = z -> HeadInv md ops n b ->
  lexZ md ops g z l.length k b = true -> wpU P ops W0 A l a ->
  headU P md ops W0 n z (fun b' a'=>(Region.seqB md ops g n (b'.setIfInBounds z true) = true /\ ∀ j ∈ Region.ready md ops b',j = z) /\ a' = A) l.length b a
 | [],k,b,a,_,hk,_,hB,h=>by
  obtain rfl : k = z:=by simpa using hk
  obtain rfl:=hz
  simp only [List.length_nil,lexZ,Bool.and_eq_true,List.all_eq_true,beq_iff_eq] at hB
  exact ⟨hB,h⟩
 | o :: l,k,b,a,hl,hk,inv,hB,h=>by
  have h0 : ops[k]? = some o:=by simpa using (hl 0 (by simp)).symm
  simp only [List.length_cons,lexZ,Bool.and_eq_true] at hB
  obtain ⟨⟨hr,hf⟩,hB'⟩:=hB
  have hkz : k < z:=by simp only [List.length_cons] at hk; omega
  have hr' : k ∈ Region.ready md ops b:=by simpa using hr
  have hst : uOp P ops W0 k (wpU P ops W0 A l) a:=by unfold uOp; simp only [h0]; exact h
  obtain ⟨v,hy,hK⟩:=yields_of h0 hst
  exact headU.first h0 (Region.noSelect_spec hsel) hs hc hn (by omega) (by omega) (fun b' a' hL=>hL.1.2) l.length b a inv (Region.free_spec h0 hf) hr' hy
   (headU.lex hz hsel hs hc hn l (k + 1) _ _ (fun j hj=>by have:=hl (j + 1) (by simp; omega); simpa [Nat.add_assoc,Nat.add_comm 1 j] using this) (by simp only [List.length_cons] at hk; omega) (inv.set hr' (by omega)) hB' hK)
theorem slot_kept {C : World -> Prop} {A : Act} (d : Tmp) : ∀ (l : List Oper) (b : Act),(∀ o ∈ l,o.dst ≠ some d) -> wpQuiet P ops C (fun a'=>a' = A) l b -> A.tmps.getD d undef = b.tmps.getD d undef
 | [],b,_,h=>by rw [show b = A from h]
 | o :: l,b,hd,h=>by
  have hne:=hd o (List.mem_cons_self ..)
  have step : ∀ v,(b.put o.dst v).tmps.getD d undef = b.tmps.getD d undef:=fun v=>by
   cases ho : o.dst with
   | none=>rfl
   | some d'=>
    have : d' ≠ d:=fun e=>hne (by rw [ho,e])
    simp [Act.put,this]
  unfold wpQuiet at h
  split at h
  ·obtain ⟨v,_,h⟩:=h
   rw [slot_kept d l _ (fun o' ho'=>hd o' (List.mem_cons_of_mem _ ho')) h,step]
  ·rw [slot_kept d l _ (fun o' ho'=>hd o' (List.mem_cons_of_mem _ ho')) h,step]
def dstsOK (m : Nat) : List Oper -> Bool
 | []=>true
 | o :: l=>(match o.dst with | some d=>decide (d < m) && l.all (fun o'=>o'.dst != some d) | none=>false) && dstsOK m l
theorem wpU_of {A : Act} : ∀ (l : List Oper) (a : Act),dstsOK a.tmps.size l = true -> (∀ E,Grows E -> Nonempty (UpsE W0 E) -> wpQuiet P ops (CE W0 E) (fun a'=>a' = A) l a) -> wpU P ops W0 A l a
 | [],a,_,h=>h (fun _=>True) (fun _ _ _ _=>trivial) ⟨⟨W0,Below.refl _ _,trivial⟩⟩
 | o :: l,a,hd,h=>by
  simp only [dstsOK,Bool.and_eq_true] at hd
  obtain ⟨hd1,hd2⟩:=hd
  cases ho : o.dst with
  | none=>rw [ho] at hd1; cases hd1
  | some d=>
  rw [ho] at hd1
  simp only [Bool.and_eq_true,decide_eq_true_eq,List.all_eq_true,bne_iff_ne] at hd1
  unfold wpU
  have hsz : ∀ v,(a.put (some d) v).tmps.size = a.tmps.size:=fun v=>by simp [Act.put]
  cases hw : Region.wanted o (yielded ops a.tmps) with
  | true=>
   rw [if_pos rfl]
   have key : ∀ E,Grows E -> Nonempty (UpsE W0 E) -> (∀ w,CE W0 E w -> o.quietAt P a (CE W0 E) w (A.tmps.getD d undef)) /\ wpQuiet P ops (CE W0 E) (fun a'=>a' = A) l (a.put o.dst (A.tmps.getD d undef)):=fun E hE hne=>by
    have h1:=h E hE hne
    unfold wpQuiet at h1
    rw [if_pos hw] at h1
    obtain ⟨v,h2,h3⟩:=h1
    have hv : A.tmps.getD d undef = v:=by
     rw [ho] at h3
     rw [slot_kept d l _ (fun o' ho'=>hd1.2 o' ho') h3]
     simp [Act.put,hd1.1]
    rw [hv]
    exact ⟨h2,h3⟩
   refine ⟨A.tmps.getD d undef,fun E hE w hw=>(key E hE ⟨hw.choose⟩).1 w hw,?_⟩
   rw [ho]
   exact wpU_of l _ (by rw [hsz]; exact hd2) fun E hE hne=>by have:=(key E hE hne).2; rwa [ho] at this
  | false=>
   rw [if_neg Bool.false_ne_true,ho]
   exact wpU_of l _ (by rw [hsz]; exact hd2) fun E hE hne=>by
    have h1:=h E hE hne
    unfold wpQuiet at h1
    rw [if_neg (by rw [hw]; exact Bool.false_ne_true),ho] at h1
    exact h1
def Made (W0 : World) (h : Nat) (ty : TypeId) (zs : Array Value) (w : World) : Prop:=W0.heap.size <= h /\ Blk w h ty zs
theorem Made.grows (W0 : World) (h : Nat) (ty : TypeId) (zs : Array Value) : Grows (Made W0 h ty zs):=fun _ _ ⟨h1,h2⟩ hb=>⟨h1,h2.below hb h2.lt⟩
theorem headInv_setZ {n z : Nat} {l : Array Bool} (inv : HeadInv md ops n l) (hz : z < n) {oz : Oper} (ho : ops[z]? = some oz) (ha : oz.after = #[]) : HeadInv md ops n (l.setIfInBounds z true):=by
 refine ⟨by simp [inv.size],fun j oj hj hl e he hb=>?_,fun t ht ht'=>by rw [getD_set_ne true (by omega)]; exact inv.tail t ht ht'⟩
 rcases Decidable.em (z = j) with rfl | hne
 ·obtain rfl : oj = oz:=Option.some.inj (hj.symm.trans ho)
  rw [ha] at he
  simp at he
 ·rw [getD_set_ne false hne] at hl
  exact getD_set_true (inv.closed j oj hj hl e he hb)
theorem headU.behind {n g z : Nat} {oz : Oper} {A : Act} {Q' : Exit -> Act -> World -> Prop} {h : Nat} {ty : TypeId} {zs : Array Value} (ho : ops[z]? = some oz) (ha : oz.after = #[]) (hzn : z < n)
  (hsel : Region.noSelect ops = true) (hs : Region.sinkB md ops n = true) (hc : Region.chainB md ops n = true) (hn : n < ops.size)
  (hno : ∀ i oi,i < n -> ops[i]? = some oi -> ∀ e ∈ oi.after,Region.binds md e = true -> e.on ≠ z) (hap : ∀ i oi,i < n -> i ≠ z -> ops[i]? = some oi -> oi.apart ops oz = true) (p : Value)
  (hT : ∀ b w,Made W0 h ty zs w -> Below W0.heap.size W0 w -> Region.seqB md ops g n b = true -> wpAny P md ops Q' g b (A.put oz.dst p) w) :
  ∀ (f : Nat) (l : Array Bool) (a : Act) (w : World),HeadInv md ops n l -> Made W0 h ty zs w -> Below W0.heap.size W0 w ->
  headU P md ops W0 n z (fun b' a'=>(Region.seqB md ops g n (b'.setIfInBounds z true) = true /\ ∀ j ∈ Region.ready md ops b',j = z) /\ a' = A) f l a ->
  wpAny P md ops Q' (f + g) (l.setIfInBounds z true) (a.put oz.dst p) w
 | 0,l,a,w,_,hm,hb,H=>by
  obtain ⟨⟨h1,_⟩,rfl⟩:=H
  rw [Nat.zero_add]
  exact hT _ _ hm hb h1
 | f + 1,l,a,w,inv,hm,hb,H=>by
  obtain ⟨⟨i0,hi0,hiz⟩,H⟩:=H
  have hi0':=ready_mono hi0 hiz
  rw [show f + 1 + g = (f + g) + 1 by omega]
  refine ⟨fun h0=>(by rw [h0] at hi0'; cases hi0'),fun j hj=>?_⟩
  obtain ⟨hun,oj,hoj,hall⟩:=mem_ready.1 hj
  have hjz : j ≠ z:=fun e=>by
   subst e
   have : j < l.size:=by rw [inv.size]; omega
   simp [this] at hun
  have inv':=headInv_setZ inv hzn ho ha
  have hjn : j < n:=by
   rcases Nat.lt_or_ge j n with h | h
   ·exact h
   ·exact absurd hj (tail_waits hs hc hn inv' _ i0 rfl (H i0 hi0 hiz).1 (mem_ready.1 hi0').1 j h)
  have hjl : j ∈ Region.ready md ops l:=mem_ready.2 ⟨by rw [getD_set_ne true (Ne.symm hjz)] at hun; exact hun,oj,hoj,fun e he hbd=>by
   have h2:=hall e he hbd
   rw [getD_set_ne false (Ne.symm (hno j oj hjn hoj e he hbd))] at h2
   exact h2⟩
  have h1:=(H j hjl hjz).2
  obtain ⟨a1,a2,a3⟩:=Oper.apart_spec (hap j oj hjn hjz hoj)
  obtain ⟨v,hy,hK⟩:=yields_of hoj h1
  have hy' : Yields P ops W0 oj v (a.put oz.dst p):=by
   unfold Yields at hy ⊢
   rw [wanted_put oj a oz.dst p a3]
   rcases hy with ⟨hw,hv⟩ | hy
   ·exact .inl ⟨hw,hv.of_eq (execOp_put oj (fun cs b=>Region.noSelect_spec hsel j oj cs b hoj) a oz.dst p a3)⟩
   ·exact .inr hy
  have h2:=hy'.of hoj (K:=fun a'=>∃ a0,a' = a0.put oz.dst p /\ headU P md ops W0 n z (fun b' a'=>(Region.seqB md ops g n (b'.setIfInBounds z true) = true /\ ∀ j ∈ Region.ready md ops b',j = z) /\ a' = A) f (l.setIfInBounds j true) a0)
   ⟨_,Act.put_comm a p v (fun d hd hd2=>a2 d hd2 hd),hK⟩
  refine wpOp_of_qOp (C:=CE W0 (Made W0 h ty zs)) ⟨⟨w,hb,hm⟩,rfl⟩ ?_ (qOp_of_uOp (Made.grows _ _ _ _) h2)
  rintro _ _ ⟨u,rfl⟩ ⟨a0,rfl,h3⟩
  rw [Array.setIfInBounds_comm _ _ (Ne.symm hjz)]
  exact headU.behind ho ha hzn hsel hs hc hn hno hap p hT f _ a0 u.wld (inv.set hjl hjn) u.ex u.up h3
theorem headU.ahead {n g z : Nat} {oz : Oper} {A : Act} {Q' : Exit -> Act -> World -> Prop} {ty : TypeId} {zs : Array Value} (ho : ops[z]? = some oz) (ha : oz.after = #[]) (hzn : z < n)
  (hsel : Region.noSelect ops = true) (hs : Region.sinkB md ops n = true) (hc : Region.chainB md ops n = true) (hn : n < ops.size)
  (hno : ∀ i oi,i < n -> ops[i]? = some oi -> ∀ e ∈ oi.after,Region.binds md e = true -> e.on ≠ z) (hap : ∀ i oi,i < n -> i ≠ z -> ops[i]? = some oi -> oi.apart ops oz = true)
  (hg : oz.guard = none) (hrun : ∀ (ρ : Operand -> Value) (w : World),(execOp ρ oz).run P w = .ok (.value (.pointer (some ⟨w.heap.size,0,none⟩))) (w.alloc (.cells zs ty)))
  (hT : ∀ h b w,Made W0 h ty zs w -> Below W0.heap.size W0 w -> Region.seqB md ops g n b = true -> wpAny P md ops Q' g b (A.put oz.dst (.pointer (some ⟨h,0,none⟩))) w) :
  ∀ (f : Nat) (l : Array Bool) (a : Act) (w : World),HeadInv md ops n l -> l.getD z true = false -> Below W0.heap.size W0 w ->
  headU P md ops W0 n z (fun b' a'=>(Region.seqB md ops g n (b'.setIfInBounds z true) = true /\ ∀ j ∈ Region.ready md ops b',j = z) /\ a' = A) f l a ->
  wpAny P md ops Q' (f + 1 + g) l a w:=by
 have hzr : ∀ l : Array Bool,l.getD z true = false -> z ∈ Region.ready md ops l:=fun l h=>mem_ready.2 ⟨h,oz,ho,fun e he=>by rw [ha] at he; simp at he⟩
 have hwz : ∀ y,Region.wanted oz y = true:=fun y=>by unfold Region.wanted; rw [hg]
 have step : ∀ (f : Nat) (l : Array Bool) (a : Act) (w : World),HeadInv md ops n l -> Below W0.heap.size W0 w ->
   headU P md ops W0 n z (fun b' a'=>(Region.seqB md ops g n (b'.setIfInBounds z true) = true /\ ∀ j ∈ Region.ready md ops b',j = z) /\ a' = A) f l a ->
   wpOp P ops Q' z (fun a' w'=>wpAny P md ops Q' (f + g) (l.setIfInBounds z true) a' w') a w:=fun f l a w inv hb H=>by
  unfold wpOp
  simp only [ho,hwz,if_true]
  refine .inl ?_
  unfold Oper.wp
  rw [hrun]
  simp only [Oper.upon]
  exact headU.behind ho ha hzn hsel hs hc hn hno hap _ (hT w.heap.size) f l a _ inv ⟨hb.size,Blk.new w ty zs⟩ (hb.alloc hb.size _) H
 intro f
 induction f with
 | zero=>
  intro l a w inv hz hb H
  rw [show 0 + 1 + g = (0 + g) + 1 by omega]
  refine ⟨fun h0=>(by have:=hzr l hz; rw [h0] at this; cases this),fun j hj=>?_⟩
  obtain rfl:=H.1.2 j hj
  exact step 0 l a w inv hb H
 | succ f ih=>
  intro l a w inv hz hb H
  rw [show f + 1 + 1 + g = (f + 1 + g) + 1 by omega]
  refine ⟨fun h0=>(by have:=hzr l hz; rw [h0] at this; cases this),fun j hj=>?_⟩
  rcases Decidable.em (j = z) with rfl | hjz
  ·exact step (f + 1) l a w inv hb H
  ·have h1:=H.2 j hj hjz
   refine wpOp_of_qOp (C:=CE W0 (fun _=>True)) ⟨⟨w,hb,trivial⟩,rfl⟩ ?_ (qOp_of_uOp (fun _ _ _ _=>trivial) h1.2)
   rintro a' _ ⟨u,rfl⟩ h3
   exact ih (l.setIfInBounds j true) a' u.wld (inv.set hj h1.1) (by rw [getD_set_ne true hjz]; exact hz) u.up h3
def allocB (md : Region.Mode) (ops : Array Oper) (z : Nat) : Bool:=
  Region.noSelect ops && decide (z + 1 < ops.size) && Region.sinkB md ops (z + 1) && Region.chainB md ops (z + 1) && lexZ md ops (ops.size - (z + 1)) z z 0 (Array.replicate ops.size false) &&
    (match ops[z]? with
     | some oz=>oz.after.isEmpty && oz.guard.isNone && (List.range z).all fun i=>match ops[i]? with
        | some oi=>oi.after.all (fun e=>e.on != z) && oi.apart ops oz
        | none=>true
     | none=>false)
theorem wp_region_alloc {id : Nat} {Q : Exit -> Act -> World -> Prop} {a : Act} {w : World} {l : List Oper} (z : Nat) (oz : Oper) (ty : TypeId) (zs : Array Value) (hm : P.follows .mixedOrders = true) (hB : allocB .any l.toArray z = true)
  (ho : l[z]? = some oz) (hrun : ∀ (ρ : Operand -> Value) (w : World),(execOp ρ oz).run P w = .ok (.value (.pointer (some ⟨w.heap.size,0,none⟩))) (w.alloc (.cells zs ty)))
  (hd : dstsOK a.tmps.size (l.take z) = true) (A : Act) (h : ∀ E,Grows E -> Nonempty (UpsE w E) -> wpQuiet P l.toArray (fun w'=>∃ u : UpsE w E,w' = u.wld) (fun a'=>a' = A) (l.take z) a)
  (hT : ∀ (g : Nat) (u : Ups w),w.heap.size <= g -> Blk u.wld g ty zs -> wpList P l.toArray Q (l.drop (z + 1)) (A.put oz.dst (.pointer (some ⟨g,0,none⟩))) u.wld) : (Code.region id l.toArray true).wp P Q a w:=by
 simp only [allocB,Bool.and_eq_true,decide_eq_true_eq] at hB
 obtain ⟨⟨⟨⟨⟨hsel,hn⟩,hs⟩,hc⟩,hlex⟩,hlast⟩:=hB
 have ho' : l.toArray[z]? = some oz:=by simpa using ho
 rw [ho'] at hlast
 simp only [Bool.and_eq_true,List.all_eq_true,List.mem_range] at hlast
 obtain ⟨⟨hae,hgn⟩,hrest⟩:=hlast
 have ha : oz.after = #[]:=by simpa using hae
 have hg : oz.guard = none:=by simpa using hgn
 have hn' : z + 1 < l.length:=by simpa using hn
 have htl : (l.take z).length = z:=by simp; omega
 have hdl : (l.drop (z + 1)).length = l.toArray.size - (z + 1):=by simp
 have hr2 : ∀ i oi,i < z -> l.toArray[i]? = some oi -> (∀ e ∈ oi.after,e.on ≠ z) /\ oi.apart l.toArray oz = true:=fun i oi hi hoi=>by
  have h1:=hrest i hi
  rw [hoi] at h1
  simp only [Bool.and_eq_true] at h1
  exact ⟨fun e he=>by have:=Array.all_eq_true'.1 h1.1 e he; simpa using this,h1.2⟩
 have inv0 : HeadInv .any l.toArray (z + 1) (Array.replicate l.toArray.size false):=
  ⟨by simp,fun j oj _ hl=>(by rw [getD_replicate_false] at hl; cases hl),fun t _ ht=>getD_in (by simpa using ht) (getD_replicate_false _ _)⟩
 have H:=headU.lex (md:=.any) (W0:=w) (g:=l.toArray.size - (z + 1)) (n:=z + 1) rfl hsel hs hc hn (l.take z) 0 _ a (fun j hj=>by
  have hj' : j < z:=by rw [htl] at hj; exact hj
  simp [hj']) (by simpa using htl) inv0 (by rw [htl]; exact hlex) (wpU_of _ _ hd h)
 refine wp_region_any hm ?_
 have H2:=headU.ahead (Q':=Q) (g:=l.toArray.size - (z + 1)) (ty:=ty) (zs:=zs) ho' ha (Nat.lt_succ_self z) hsel hs hc hn (fun i oi hi hoi e he hb=>by
   rcases Decidable.em (i = z) with rfl | hne
   ·obtain rfl : oi = oz:=Option.some.inj (hoi.symm.trans ho')
    rw [ha] at he
    simp at he
   ·exact (hr2 i oi (by omega) hoi).1 e he) (fun i oi hi hne hoi=>(hr2 i oi (by omega) hoi).2) hg hrun
  (fun g b w' hm' hb hseq=>by
   have:=wpAny_of_seq (md:=.any) (Q':=Q) (l.drop (z + 1)) (z + 1) b _ w' (fun j=>by simp [List.getElem?_drop]) (by rw [hdl]; exact hseq) (hT g ⟨w',hb⟩ hm'.1 hm'.2)
   rwa [hdl] at this) _ _ _ _ inv0 (getD_in (by simpa using (by omega : z < l.length)) (getD_replicate_false _ _)) (Below.refl _ _).drew H
 rw [htl,show z + 1 + (l.toArray.size - (z + 1)) = l.toArray.size by omega] at H2
 exact H2
end
theorem region_via {P : Program} {id : Nat} {ops : Array Oper} {b : Bool} {Q : Exit -> Act -> World -> Prop} {a : Act} {w : World} (A : Act) (R : World -> Prop)
  (h1 : ∀ Q' : Exit -> Act -> World -> Prop,(∀ w',R w' -> Q' .normal A w') -> (Code.region id ops b).wp P Q' a w) (h2 : ∀ w',R w' -> Q .normal A w') : (Code.region id ops b).wp P Q a w:=h1 Q h2
end
end Go.Proofs.YteclineblddpbaaGreatDoorR
