import Derived.Test.YtggimnndflkjkaaGreatDoorR01
import Derived.Test.YtggimnndflkjkaaGreatDoorR10
import Derived.Test.YtggimnndflkjkaaGreatDoorR12
import Derived.BigRegion
import Derived.Deep.DeepCutAuto
set_option linter.all false
set_option maxRecDepth 100000
set_option maxHeartbeats 0
namespace Go.Proofs.YtggimnndflkjkaaGreatDoor
section
open Go Go.RowKit
structure zhu (w : World) (E : World -> Prop) where
 wld : World
 up : Below w.heap.size w wld
 ex : E wld
def zhM (E : World -> Prop) : Prop:=∀ w w',E w -> Below w.heap.size w w' -> E w'
abbrev CE (W0 : World) (E : World -> Prop) : World -> Prop:=fun w'=>∃ u : zhu W0 E,w' = u.wld
theorem zhu.cellAt {w : World} {E : World -> Prop} {b o : Nat} {v : Option Value} (h : w.cell? ⟨b,o,none⟩ = v) (hb : b < w.heap.size) (u : zhu w E) : u.wld.cell? ⟨b,o,none⟩ = v:=(u.up.cell hb).trans h
theorem Blk.upsE {W : World} {E : World -> Prop} {g : Nat} {t : TypeId} {cs : Array Value} (h : Blk W g t cs) (u : zhu W E) : Blk u.wld g t cs:=h.below u.up h.lt
theorem zst {P : Program} {f : FuncId} {args : Array Value} {w : World} {E : World -> Prop} {v : Value} {u : zhu w E} (hE : zhM E) (h : Calls P f args u.wld fun e w'=>e = .returned v /\ Below u.wld.heap.size u.wld w') :
  Calls P f args u.wld fun e w''=>e = .returned v /\ ∃ u' : zhu w E,w'' = u'.wld:=
 h.mono fun _ w'' ⟨he,hb⟩=>⟨he,⟨w'',u.up.trans (hb.mono u.up.size),hE _ _ u.ex hb⟩,rfl⟩
section
variable {P : Program} {ops : Array Oper} {md : Region.Mode} {W0 : World}
def zze (P : Program) (W0 : World) (o : Oper) (a : Act) (v : Value) : Prop:=∀ E,zhM E -> ∀ w,CE W0 E w -> o.quietAt P a (CE W0 E) w v
def uOp (P : Program) (ops : Array Oper) (W0 : World) (i : Nat) (K : Act -> Prop) (a : Act) : Prop:=
 match ops[i]? with
 | none=>K a
 | some o=>if Region.wanted o (yielded ops a.tmps) then ∃ v,zze P W0 o a v /\ K (a.put o.dst v) else K (a.put o.dst undef)
theorem zxC {i : Nat} {a : Act} {K K' : Act -> Prop} (h : ∀ a,K a -> K' a) (hh : uOp P ops W0 i K a) : uOp P ops W0 i K' a:=by
 unfold uOp at *
 split
 ·rename_i ho; simp only [ho] at hh; exact h _ hh
 ·rename_i o ho
  simp only [ho] at hh
  split
  ·rename_i hw
   rw [if_pos hw] at hh;obtain ⟨v,h1,h2⟩:=hh;exact ⟨v,h1,h _ h2⟩
  ·rename_i hw
   rw [if_neg hw] at hh;exact h _ hh
theorem zmK {E : World -> Prop} (hE : zhM E) {i : Nat} {a : Act} {K : Act -> Prop} (hh : uOp P ops W0 i K a) : qOp P ops (CE W0 E) i K a:=by
 unfold uOp at hh;unfold qOp
 split
 ·rename_i ho; simp only [ho] at hh; exact hh
 ·rename_i o ho
  simp only [ho] at hh
  split
  ·rename_i hw
   rw [if_pos hw] at hh;obtain ⟨v,h1,h2⟩:=hh;exact ⟨v,h1 E hE,h2⟩
  ·rename_i hw
   rw [if_neg hw] at hh;exact hh
def zgd (P : Program) (ops : Array Oper) (W0 : World) (o : Oper) (v : Value) (a : Act) : Prop:=
 (Region.wanted o (yielded ops a.tmps) = true /\ zze P W0 o a v) \/ (Region.wanted o (yielded ops a.tmps) = false /\ v = undef)
theorem zgd.of {i : Nat} {o : Oper} {v : Value} {a : Act} (hi : ops[i]? = some o) (hy : zgd P ops W0 o v a) {K : Act -> Prop} (h : K (a.put o.dst v)) : uOp P ops W0 i K a:=by
 unfold uOp;simp only [hi];rcases hy with ⟨hw,hv⟩ | ⟨hw,rfl⟩
 ·rw [if_pos hw]; exact ⟨v,hv,h⟩
 ·rw [if_neg (by rw [hw]; exact Bool.false_ne_true)]; exact h
theorem zlN {i : Nat} {o : Oper} {a : Act} {K : Act -> Prop} (hi : ops[i]? = some o) (h : uOp P ops W0 i K a) : ∃ v,zgd P ops W0 o v a /\ K (a.put o.dst v):=by
 unfold uOp at h;simp only [hi] at h
 cases hw : Region.wanted o (yielded ops a.tmps) with
 | true=>
  rw [if_pos hw] at h;obtain ⟨v,h1,h2⟩:=h;exact ⟨v,.inl ⟨hw,h1⟩,h2⟩
 | false=>
  rw [if_neg (by rw [hw]; exact Bool.false_ne_true)] at h;exact ⟨undef,.inr ⟨hw,rfl⟩,h⟩
theorem zze.of_eq {o : Oper} {v : Value} {a a' : Act} (h : zze P W0 o a v) (he : execOp a'.eval o = execOp a.eval o) : zze P W0 o a' v:=fun E hE w hw=>by
 have:=h E hE w hw;unfold Oper.quietAt at *;rw [he]; exact this
theorem zyW {j : Nat} {oi oj : Oper} {v : Value} (hj : ops[j]? = some oj) (hap : oi.apart ops oj = true)
  (hsi : ∀ cs b,oi.op ≠ .select cs b) (hsj : ∀ cs b,oj.op ≠ .select cs b) {K : Act -> Prop} {a : Act}
  (hy : zgd P ops W0 oi v a) (h : uOp P ops W0 j K (a.put oi.dst v)) : uOp P ops W0 j (fun a'=>zgd P ops W0 oi v a' /\ K (a'.put oi.dst v)) a:=by
 obtain ⟨h1,h2,h3⟩:=Oper.apart_spec hap
 have keep : ∀ u,zgd P ops W0 oi v (a.put oj.dst u):=fun u=>by
  unfold zgd;rw [wanted_put oi a oj.dst u h3];rcases hy with ⟨hw,hv⟩ | hy
  ·exact .inl ⟨hw,hv.of_eq (execOp_put oi hsi a oj.dst u h3)⟩
  ·exact .inr hy
 obtain ⟨u,hu,hn⟩:=zlN hj h;refine zgd.of hj (v:=u) ?_ ⟨keep u,by rw [<- Act.put_comm a v u h2]; exact hn⟩;unfold zgd at hu ⊢;rw [wanted_put oj a oi.dst v h1] at hu;rcases hu with ⟨hw,hv⟩ | hu
 ·exact .inl ⟨hw,hv.of_eq (execOp_put oj hsj a oi.dst v h1).symm⟩
 ·exact .inr hu
def zgl (P : Program) (md : Region.Mode) (ops : Array Oper) (W0 : World) (n z : Nat) (L : Array Bool -> Act -> Prop) : Nat -> Array Bool -> Act -> Prop
 | 0,l,a=>L l a
 | f + 1,l,a=>(∃ i ∈ Region.ready md ops l,i ≠ z) /\ ∀ i ∈ Region.ready md ops l,i ≠ z -> i < n /\ uOp P ops W0 i (zgl P md ops W0 n z L f (l.setIfInBounds i true)) a
theorem zgl.first {n z i : Nat} {oi : Oper} {v : Value} {L : Array Bool -> Act -> Prop} (hi : ops[i]? = some oi) (hsel : ∀ (j : Nat) (o : Oper) cs b,ops[j]? = some o -> o.op ≠ .select cs b)
  (hs : Region.sinkB md ops n = true) (hc : Region.chainB md ops n = true) (hn : n < ops.size) (hin : i < n) (hiz : i ≠ z) (hL : ∀ l a,L l a -> ∀ j ∈ Region.ready md ops l,j = z) :
  ∀ (f : Nat) (l : Array Bool) (a : Act),HeadInv md ops n l ->
   (∀ j oj,ops[j]? = some oj -> j ≠ i -> l.getD j true = false -> (∀ e ∈ oj.after,Region.binds md e = true -> e.on ≠ i) -> oi.apart ops oj = true) ->
   i ∈ Region.ready md ops l -> zgd P ops W0 oi v a -> zgl P md ops W0 n z L f (l.setIfInBounds i true) (a.put oi.dst v) -> zgl P md ops W0 n z L (f + 1) l a:=by
 intro f
 induction f with
 | zero=>
  intro l a inv _ hr hy H;refine ⟨⟨i,hr,hiz⟩,fun j hj hjz=>?_⟩
  have hjn : j < n:=by
   rcases Nat.lt_or_ge j n with h | h
   ·exact h
   ·exact absurd hj (tail_waits hs hc hn inv _ i rfl hin (mem_ready.1 hr).1 j h)
  rcases Decidable.em (j = i) with rfl | hne
  ·exact ⟨hjn,hy.of hi H⟩
  ·exact absurd (hL _ _ H j (ready_mono hj hne)) hjz
 | succ f ih=>
  intro l a inv hfree hr hy H;have hun:=(mem_ready.1 hr).1;refine ⟨⟨i,hr,hiz⟩,fun j hj hjz=>?_⟩
  have hjn : j < n:=by
   rcases Nat.lt_or_ge j n with h | h
   ·exact h
   ·exact absurd hj (tail_waits hs hc hn inv _ i rfl hin hun j h)
  refine ⟨hjn,?_⟩;rcases Decidable.em (j = i) with rfl | hne
  ·exact hy.of hi H
  ·have h1:=(H.2 j (ready_mono hj hne) hjz).2
   obtain ⟨hjun,oj,hoj,hall⟩:=mem_ready.1 hj
   have hno : ∀ e ∈ oj.after,Region.binds md e = true -> e.on ≠ i:=fun e he hb heq=>by
    have h2:=hall e he hb;rw [heq,getD_both hun] at h2;cases h2
   refine zxC (fun a' h3=>ih (l.setIfInBounds j true) a' (inv.set hj hjn) (fun k ok hk hki hku hk2=>hfree k ok hk hki ?_ hk2) (ready_mono hr (Ne.symm hne)) h3.1 ?_)
    (zyW hoj (hfree j oj hoj hne hjun hno) (fun cs b=>hsel i oi cs b hi) (fun cs b=>hsel j oj cs b hoj) hy h1)
   ·rcases Decidable.em (j = k) with rfl | hjk
    ·exact hjun
    ·rw [getD_set_ne true hjk] at hku; exact hku
   ·rw [Array.setIfInBounds_comm _ _ hne]
    exact h3.2
def zzA (md : Region.Mode) (ops : Array Oper) (g z : Nat) : Nat -> Nat -> Array Bool -> Bool
 | 0,k,l=>Region.seqB md ops g (k + 1) (l.setIfInBounds z true) && (Region.ready md ops l).all (· == z)
 | f + 1,k,l=>(Region.ready md ops l).contains k && Region.free md ops l k && zzA md ops g z f (k + 1) (l.setIfInBounds k true)
def wpU (P : Program) (ops : Array Oper) (W0 : World) (A : Act) : List Oper -> Act -> Prop
 | [],a=>a = A
 | o :: rest,a=>if Region.wanted o (yielded ops a.tmps) then ∃ v,zze P W0 o a v /\ wpU P ops W0 A rest (a.put o.dst v) else wpU P ops W0 A rest (a.put o.dst undef)
theorem zgl.lex {n g z : Nat} {A : Act} (hz : z + 1 = n) (hsel : Region.noSelect ops = true) (hs : Region.sinkB md ops n = true) (hc : Region.chainB md ops n = true) (hn : n < ops.size) :
  ∀ (l : List Oper) (k : Nat) (b : Array Bool) (a : Act),(∀ j,j < l.length -> l[j]? = ops[k + j]?) -> k + l.length = z -> HeadInv md ops n b ->
  zzA md ops g z l.length k b = true -> wpU P ops W0 A l a ->
  zgl P md ops W0 n z (fun b' a'=>(Region.seqB md ops g n (b'.setIfInBounds z true) = true /\ ∀ j ∈ Region.ready md ops b',j = z) /\ a' = A) l.length b a
 | [],k,b,a,_,hk,_,hB,h=>by
  obtain rfl : k = z:=by simpa using hk
  obtain rfl:=hz;simp only [List.length_nil,zzA,Bool.and_eq_true,List.all_eq_true,beq_iff_eq] at hB;exact ⟨hB,h⟩
 | o :: l,k,b,a,hl,hk,inv,hB,h=>by
  have h0 : ops[k]? = some o:=by simpa using (hl 0 (by simp)).symm
  simp only [List.length_cons,zzA,Bool.and_eq_true] at hB;obtain ⟨⟨hr,hf⟩,hB'⟩:=hB;have hkz : k < z:=by simp only [List.length_cons] at hk; omega
  have hr' : k ∈ Region.ready md ops b:=by simpa using hr
  have hst : uOp P ops W0 k (wpU P ops W0 A l) a:=by unfold uOp; simp only [h0]; exact h
  obtain ⟨v,hy,hK⟩:=zlN h0 hst;exact zgl.first h0 (Region.noSelect_spec hsel) hs hc hn (by omega) (by omega) (fun b' a' hL=>hL.1.2) l.length b a inv (Region.free_spec h0 hf) hr' hy
   (zgl.lex hz hsel hs hc hn l (k + 1) _ _ (fun j hj=>by have:=hl (j + 1) (by simp; omega); simpa [Nat.add_assoc,Nat.add_comm 1 j] using this) (by simp only [List.length_cons] at hk; omega) (inv.set hr' (by omega)) hB' hK)
theorem ziu {C : World -> Prop} {A : Act} (d : Tmp) : ∀ (l : List Oper) (b : Act),(∀ o ∈ l,o.dst ≠ some d) -> wpQuiet P ops C (fun a'=>a' = A) l b -> A.tmps.getD d undef = b.tmps.getD d undef
 | [],b,_,h=>by rw [show b = A from h]
 | o :: l,b,hd,h=>by
  have hne:=hd o (List.mem_cons_self ..)
  have step : ∀ v,(b.put o.dst v).tmps.getD d undef = b.tmps.getD d undef:=fun v=>by
   cases ho : o.dst with
   | none=>rfl
   | some d'=>
    have : d' ≠ d:=fun e=>hne (by rw [ho,e]);simp [Act.put,this]
  unfold wpQuiet at h
  split at h
  ·obtain ⟨v,_,h⟩:=h
   rw [ziu d l _ (fun o' ho'=>hd o' (List.mem_cons_of_mem _ ho')) h,step]
  ·rw [ziu d l _ (fun o' ho'=>hd o' (List.mem_cons_of_mem _ ho')) h,step]
def zhY (m : Nat) : List Oper -> Bool
 | []=>true
 | o :: l=>(match o.dst with | some d=>decide (d < m) && l.all (fun o'=>o'.dst != some d) | none=>false) && zhY m l
theorem zwq {A : Act} : ∀ (l : List Oper) (a : Act),zhY a.tmps.size l = true -> (∀ E,zhM E -> Nonempty (zhu W0 E) -> wpQuiet P ops (CE W0 E) (fun a'=>a' = A) l a) -> wpU P ops W0 A l a
 | [],a,_,h=>h (fun _=>True) (fun _ _ _ _=>trivial) ⟨⟨W0,Below.refl _ _,trivial⟩⟩
 | o :: l,a,hd,h=>by
  simp only [zhY,Bool.and_eq_true] at hd;obtain ⟨hd1,hd2⟩:=hd
  cases ho : o.dst with
  | none=>rw [ho] at hd1; cases hd1
  | some d=>
  rw [ho] at hd1;simp only [Bool.and_eq_true,decide_eq_true_eq,List.all_eq_true,bne_iff_ne] at hd1;unfold wpU;have hsz : ∀ v,(a.put (some d) v).tmps.size = a.tmps.size:=fun v=>by simp [Act.put]
  cases hw : Region.wanted o (yielded ops a.tmps) with
  | true=>
   rw [if_pos rfl]
   have key : ∀ E,zhM E -> Nonempty (zhu W0 E) -> (∀ w,CE W0 E w -> o.quietAt P a (CE W0 E) w (A.tmps.getD d undef)) /\ wpQuiet P ops (CE W0 E) (fun a'=>a' = A) l (a.put o.dst (A.tmps.getD d undef)):=fun E hE hne=>by
    have h1:=h E hE hne;unfold wpQuiet at h1;rw [if_pos hw] at h1;obtain ⟨v,h2,h3⟩:=h1
    have hv : A.tmps.getD d undef = v:=by
     rw [ho] at h3;rw [ziu d l _ (fun o' ho'=>hd1.2 o' ho') h3];simp [Act.put,hd1.1]
    rw [hv];exact ⟨h2,h3⟩
   refine ⟨A.tmps.getD d undef,fun E hE w hw=>(key E hE ⟨hw.choose⟩).1 w hw,?_⟩;rw [ho];exact zwq l _ (by rw [hsz]; exact hd2) fun E hE hne=>by have:=(key E hE hne).2; rwa [ho] at this
  | false=>
   rw [if_neg Bool.false_ne_true,ho]
   exact zwq l _ (by rw [hsz]; exact hd2) fun E hE hne=>by
    have h1:=h E hE hne;unfold wpQuiet at h1;rw [if_neg (by rw [hw]; exact Bool.false_ne_true),ho] at h1;exact h1
def zxX (W0 : World) (h : Nat) (ty : TypeId) (zs : Array Value) (w : World) : Prop:=W0.heap.size <= h /\ Blk w h ty zs
theorem zxX.grows (W0 : World) (h : Nat) (ty : TypeId) (zs : Array Value) : zhM (zxX W0 h ty zs):=fun _ _ ⟨h1,h2⟩ hb=>⟨h1,h2.below hb h2.lt⟩
theorem zou {n z : Nat} {l : Array Bool} (inv : HeadInv md ops n l) (hz : z < n) {oz : Oper} (ho : ops[z]? = some oz) (ha : oz.after = #[]) : HeadInv md ops n (l.setIfInBounds z true):=by
 refine ⟨by simp [inv.size],fun j oj hj hl e he hb=>?_,fun t ht ht'=>by rw [getD_set_ne true (by omega)]; exact inv.tail t ht ht'⟩;rcases Decidable.em (z = j) with rfl | hne
 ·obtain rfl : oj = oz:=Option.some.inj (hj.symm.trans ho)
  rw [ha] at he;simp at he
 ·rw [getD_set_ne false hne] at hl
  exact getD_set_true (inv.closed j oj hj hl e he hb)
theorem zgl.behind {n g z : Nat} {oz : Oper} {A : Act} {Q' : Exit -> Act -> World -> Prop} {h : Nat} {ty : TypeId} {zs : Array Value} (ho : ops[z]? = some oz) (ha : oz.after = #[]) (hzn : z < n)
  (hsel : Region.noSelect ops = true) (hs : Region.sinkB md ops n = true) (hc : Region.chainB md ops n = true) (hn : n < ops.size)
  (hno : ∀ i oi,i < n -> ops[i]? = some oi -> ∀ e ∈ oi.after,Region.binds md e = true -> e.on ≠ z) (hap : ∀ i oi,i < n -> i ≠ z -> ops[i]? = some oi -> oi.apart ops oz = true) (p : Value)
  (hT : ∀ b w,zxX W0 h ty zs w -> Below W0.heap.size W0 w -> Region.seqB md ops g n b = true -> wpAny P md ops Q' g b (A.put oz.dst p) w) :
  ∀ (f : Nat) (l : Array Bool) (a : Act) (w : World),HeadInv md ops n l -> zxX W0 h ty zs w -> Below W0.heap.size W0 w ->
  zgl P md ops W0 n z (fun b' a'=>(Region.seqB md ops g n (b'.setIfInBounds z true) = true /\ ∀ j ∈ Region.ready md ops b',j = z) /\ a' = A) f l a ->
  wpAny P md ops Q' (f + g) (l.setIfInBounds z true) (a.put oz.dst p) w
 | 0,l,a,w,_,hm,hb,H=>by
  obtain ⟨⟨h1,_⟩,rfl⟩:=H;rw [Nat.zero_add];exact hT _ _ hm hb h1
 | f + 1,l,a,w,inv,hm,hb,H=>by
  obtain ⟨⟨i0,hi0,hiz⟩,H⟩:=H;have hi0':=ready_mono hi0 hiz;rw [show f + 1 + g = (f + g) + 1 by omega];refine ⟨fun h0=>(by rw [h0] at hi0'; cases hi0'),fun j hj=>?_⟩
  obtain ⟨hun,oj,hoj,hall⟩:=mem_ready.1 hj
  have hjz : j ≠ z:=fun e=>by
   subst e;have : j < l.size:=by rw [inv.size]; omega
   simp [this] at hun
  have inv':=zou inv hzn ho ha
  have hjn : j < n:=by
   rcases Nat.lt_or_ge j n with h | h
   ·exact h
   ·exact absurd hj (tail_waits hs hc hn inv' _ i0 rfl (H i0 hi0 hiz).1 (mem_ready.1 hi0').1 j h)
  have hjl : j ∈ Region.ready md ops l:=mem_ready.2 ⟨by rw [getD_set_ne true (Ne.symm hjz)] at hun; exact hun,oj,hoj,fun e he hbd=>by
   have h2:=hall e he hbd;rw [getD_set_ne false (Ne.symm (hno j oj hjn hoj e he hbd))] at h2
   exact h2⟩
  have h1:=(H j hjl hjz).2;obtain ⟨a1,a2,a3⟩:=Oper.apart_spec (hap j oj hjn hjz hoj);obtain ⟨v,hy,hK⟩:=zlN hoj h1
  have hy' : zgd P ops W0 oj v (a.put oz.dst p):=by
   unfold zgd at hy ⊢;rw [wanted_put oj a oz.dst p a3];rcases hy with ⟨hw,hv⟩ | hy
   ·exact .inl ⟨hw,hv.of_eq (execOp_put oj (fun cs b=>Region.noSelect_spec hsel j oj cs b hoj) a oz.dst p a3)⟩
   ·exact .inr hy
  have h2:=hy'.of hoj (K:=fun a'=>∃ a0,a' = a0.put oz.dst p /\ zgl P md ops W0 n z (fun b' a'=>(Region.seqB md ops g n (b'.setIfInBounds z true) = true /\ ∀ j ∈ Region.ready md ops b',j = z) /\ a' = A) f (l.setIfInBounds j true) a0)
   ⟨_,Act.put_comm a p v (fun d hd hd2=>a2 d hd2 hd),hK⟩
  refine wpOp_of_qOp (C:=CE W0 (zxX W0 h ty zs)) ⟨⟨w,hb,hm⟩,rfl⟩ ?_ (zmK (zxX.grows _ _ _ _) h2);rintro _ _ ⟨u,rfl⟩ ⟨a0,rfl,h3⟩;rw [Array.setIfInBounds_comm _ _ (Ne.symm hjz)];exact zgl.behind ho ha hzn hsel hs hc hn hno hap p hT f _ a0 u.wld (inv.set hjl hjn) u.ex u.up h3
theorem zgl.ahead {n g z : Nat} {oz : Oper} {A : Act} {Q' : Exit -> Act -> World -> Prop} {ty : TypeId} {zs : Array Value} (ho : ops[z]? = some oz) (ha : oz.after = #[]) (hzn : z < n)
  (hsel : Region.noSelect ops = true) (hs : Region.sinkB md ops n = true) (hc : Region.chainB md ops n = true) (hn : n < ops.size)
  (hno : ∀ i oi,i < n -> ops[i]? = some oi -> ∀ e ∈ oi.after,Region.binds md e = true -> e.on ≠ z) (hap : ∀ i oi,i < n -> i ≠ z -> ops[i]? = some oi -> oi.apart ops oz = true)
  (hg : oz.guard = none) (hrun : ∀ (ρ : Operand -> Value) (w : World),(execOp ρ oz).run P w = .ok (.value (.pointer (some ⟨w.heap.size,0,none⟩))) (w.alloc (.cells zs ty)))
  (hT : ∀ h b w,zxX W0 h ty zs w -> Below W0.heap.size W0 w -> Region.seqB md ops g n b = true -> wpAny P md ops Q' g b (A.put oz.dst (.pointer (some ⟨h,0,none⟩))) w) :
  ∀ (f : Nat) (l : Array Bool) (a : Act) (w : World),HeadInv md ops n l -> l.getD z true = false -> Below W0.heap.size W0 w ->
  zgl P md ops W0 n z (fun b' a'=>(Region.seqB md ops g n (b'.setIfInBounds z true) = true /\ ∀ j ∈ Region.ready md ops b',j = z) /\ a' = A) f l a ->
  wpAny P md ops Q' (f + 1 + g) l a w:=by
 have hzr : ∀ l : Array Bool,l.getD z true = false -> z ∈ Region.ready md ops l:=fun l h=>mem_ready.2 ⟨h,oz,ho,fun e he=>by rw [ha] at he; simp at he⟩;have hwz : ∀ y,Region.wanted oz y = true:=fun y=>by unfold Region.wanted; rw [hg]
 have step : ∀ (f : Nat) (l : Array Bool) (a : Act) (w : World),HeadInv md ops n l -> Below W0.heap.size W0 w ->
   zgl P md ops W0 n z (fun b' a'=>(Region.seqB md ops g n (b'.setIfInBounds z true) = true /\ ∀ j ∈ Region.ready md ops b',j = z) /\ a' = A) f l a ->
   wpOp P ops Q' z (fun a' w'=>wpAny P md ops Q' (f + g) (l.setIfInBounds z true) a' w') a w:=fun f l a w inv hb H=>by
  unfold wpOp;simp only [ho,hwz,if_true];refine .inl ?_;unfold Oper.wp;rw [hrun];simp only [Oper.upon];exact zgl.behind ho ha hzn hsel hs hc hn hno hap _ (hT w.heap.size) f l a _ inv ⟨hb.size,Blk.new w ty zs⟩ (hb.alloc hb.size _) H
 intro f
 induction f with
 | zero=>
  intro l a w inv hz hb H;rw [show 0 + 1 + g = (0 + g) + 1 by omega];refine ⟨fun h0=>(by have:=hzr l hz; rw [h0] at this; cases this),fun j hj=>?_⟩
  obtain rfl:=H.1.2 j hj;exact step 0 l a w inv hb H
 | succ f ih=>
  intro l a w inv hz hb H;rw [show f + 1 + 1 + g = (f + 1 + g) + 1 by omega];refine ⟨fun h0=>(by have:=hzr l hz; rw [h0] at this; cases this),fun j hj=>?_⟩
  rcases Decidable.em (j = z) with rfl | hjz
  ·exact step (f + 1) l a w inv hb H
  ·have h1:=H.2 j hj hjz
   refine wpOp_of_qOp (C:=CE W0 (fun _=>True)) ⟨⟨w,hb,trivial⟩,rfl⟩ ?_ (zmK (fun _ _ _ _=>trivial) h1.2);rintro a' _ ⟨u,rfl⟩ h3;exact ih (l.setIfInBounds j true) a' u.wld (inv.set hj h1.1) (by rw [getD_set_ne true hjz]; exact hz) u.up h3
def zxJ (md : Region.Mode) (ops : Array Oper) (z : Nat) : Bool:=
  Region.noSelect ops && decide (z + 1 < ops.size) && Region.sinkB md ops (z + 1) && Region.chainB md ops (z + 1) && zzA md ops (ops.size - (z + 1)) z z 0 (Array.replicate ops.size false) &&
    (match ops[z]? with
     | some oz=>oz.after.isEmpty && oz.guard.isNone && (List.range z).all fun i=>match ops[i]? with
        | some oi=>oi.after.all (fun e=>e.on != z) && oi.apart ops oz
        | none=>true
     | none=>false)
theorem zdv {id : Nat} {Q : Exit -> Act -> World -> Prop} {a : Act} {w : World} {l : List Oper} (z : Nat) (oz : Oper) (ty : TypeId) (zs : Array Value) (hm : P.follows .mixedOrders = true) (hB : zxJ .any l.toArray z = true)
  (ho : l[z]? = some oz) (hrun : ∀ (ρ : Operand -> Value) (w : World),(execOp ρ oz).run P w = .ok (.value (.pointer (some ⟨w.heap.size,0,none⟩))) (w.alloc (.cells zs ty)))
  (hd : zhY a.tmps.size (l.take z) = true) (A : Act) (h : ∀ E,zhM E -> Nonempty (zhu w E) -> wpQuiet P l.toArray (fun w'=>∃ u : zhu w E,w' = u.wld) (fun a'=>a' = A) (l.take z) a)
  (hT : ∀ (g : Nat) (u : Ups w),w.heap.size <= g -> Blk u.wld g ty zs -> wpList P l.toArray Q (l.drop (z + 1)) (A.put oz.dst (.pointer (some ⟨g,0,none⟩))) u.wld) : (Code.region id l.toArray true).wp P Q a w:=by
 simp only [zxJ,Bool.and_eq_true,decide_eq_true_eq] at hB;obtain ⟨⟨⟨⟨⟨hsel,hn⟩,hs⟩,hc⟩,hlex⟩,hlast⟩:=hB;have ho' : l.toArray[z]? = some oz:=by simpa using ho
 rw [ho'] at hlast;simp only [Bool.and_eq_true,List.all_eq_true,List.mem_range] at hlast;obtain ⟨⟨hae,hgn⟩,hrest⟩:=hlast;have ha : oz.after = #[]:=by simpa using hae
 have hg : oz.guard = none:=by simpa using hgn
 have hn' : z + 1 < l.length:=by simpa using hn
 have htl : (l.take z).length = z:=by simp; omega
 have hdl : (l.drop (z + 1)).length = l.toArray.size - (z + 1):=by simp
 have hr2 : ∀ i oi,i < z -> l.toArray[i]? = some oi -> (∀ e ∈ oi.after,e.on ≠ z) /\ oi.apart l.toArray oz = true:=fun i oi hi hoi=>by
  have h1:=hrest i hi;rw [hoi] at h1;simp only [Bool.and_eq_true] at h1;exact ⟨fun e he=>by have:=Array.all_eq_true'.1 h1.1 e he; simpa using this,h1.2⟩
 have inv0 : HeadInv .any l.toArray (z + 1) (Array.replicate l.toArray.size false):=
  ⟨by simp,fun j oj _ hl=>(by rw [getD_replicate_false] at hl; cases hl),fun t _ ht=>getD_in (by simpa using ht) (getD_replicate_false _ _)⟩
 have H:=zgl.lex (md:=.any) (W0:=w) (g:=l.toArray.size - (z + 1)) (n:=z + 1) rfl hsel hs hc hn (l.take z) 0 _ a (fun j hj=>by
  have hj' : j < z:=by rw [htl] at hj; exact hj
  simp [hj']) (by simpa using htl) inv0 (by rw [htl]; exact hlex) (zwq _ _ hd h)
 refine wp_region_any hm ?_
 have H2:=zgl.ahead (Q':=Q) (g:=l.toArray.size - (z + 1)) (ty:=ty) (zs:=zs) ho' ha (Nat.lt_succ_self z) hsel hs hc hn (fun i oi hi hoi e he hb=>by
   rcases Decidable.em (i = z) with rfl | hne
   ·obtain rfl : oi = oz:=Option.some.inj (hoi.symm.trans ho')
    rw [ha] at he;simp at he
   ·exact (hr2 i oi (by omega) hoi).1 e he) (fun i oi hi hne hoi=>(hr2 i oi (by omega) hoi).2) hg hrun
  (fun g b w' hm' hb hseq=>by
   have:=wpAny_of_seq (md:=.any) (Q':=Q) (l.drop (z + 1)) (z + 1) b _ w' (fun j=>by simp [List.getElem?_drop]) (by rw [hdl]; exact hseq) (hT g ⟨w',hb⟩ hm'.1 hm'.2)
   rwa [hdl] at this) _ _ _ _ inv0 (getD_in (by simpa using (by omega : z < l.length)) (getD_replicate_false _ _)) (Below.refl _ _).drew H
 rw [htl,show z + 1 + (l.toArray.size - (z + 1)) = l.toArray.size by omega] at H2;exact H2
end
theorem zez {P : Program} {id : Nat} {ops : Array Oper} {b : Bool} {Q : Exit -> Act -> World -> Prop} {a : Act} {w : World} (A : Act) (R : World -> Prop)
  (h1 : ∀ Q' : Exit -> Act -> World -> Prop,(∀ w',R w' -> Q' .normal A w') -> (Code.region id ops b).wp P Q' a w) (h2 : ∀ w',R w' -> Q .normal A w') : (Code.region id ops b).wp P Q a w:=h1 Q h2
end
section
open Go.RowKit Go.Maps
def zgk (seen : List zJ) (t : zJ) : Bool:=
 !seen.any (fun u=>decide (u.id = t.id)) && (zcn t.id && (decide (1 <= t.country) && (decide (t.country <= 3) && (zci t.name && ((decide (t.region.size = 0) || (decide (t.country = 1) && zaF t.region 8)) &&
  (decide (t.text.size <= 40) && (!seen.any (fun u=>decide ((u.country,u.text) = (t.country,t.text))) && zkE t)))))))
theorem ztc (k : zdb) (l : List zsk) : zcg k (l.map fun p=>(p.1.country,p.1.text)) = (l.map (·.1)).any fun u=>decide ((u.country,u.text) = k):=by
 unfold zcg;rw [List.any_map,List.any_map]; rfl
theorem znP (t : zJ) : t.text.size <= t.name.size + t.region.size + 1:=by
 unfold zJ.text
 split
 ·omega
 ·rw [ByteArray.size_append,ByteArray.size_append]
  have : zdc.size = 1:=rfl;omega
variable {w0 w : World} {N n : Nat} {L : zhr} {M4 : List ((Int × Int) × Value)} {rs : List zj}
def zS (seen : List zJ) (id : Int) : Option zJ:=seen.find? fun u=>decide (u.id = id)
theorem zos (id : Int) : ∀ l : List zsk,(∃ p ∈ l,zbR id (l.map fun p=>(p.1.id,p)) = some p /\ zS (l.map (·.1)) id = some p.1) \/ (zbR id (l.map fun p=>(p.1.id,p)) = none /\ zS (l.map (·.1)) id = none)
 | []=>.inr ⟨rfl,rfl⟩
 | x :: t=>by
  by_cases h : x.1.id = id
  ·refine .inl ⟨x,List.mem_cons_self ..,?_,?_⟩
   ·rw [List.map_cons,zbR,if_pos h]
   ·rw [List.map_cons,zS,List.find?_cons,decide_eq_true h]
  ·rcases zos id t with ⟨p,hp,h1,h2⟩ | ⟨h1,h2⟩
   ·refine .inl ⟨p,List.mem_cons_of_mem _ hp,?_,?_⟩
    ·rw [List.map_cons,zbR,if_neg h,h1]
    ·rw [List.map_cons,zS,List.find?_cons,decide_eq_false h]; exact h2
   ·refine .inr ⟨?_,?_⟩
    ·rw [List.map_cons,zbR,if_neg h,h1]
    ·rw [List.map_cons,zS,List.find?_cons,decide_eq_false h]; exact h2
theorem zrx (id : Int) : ∀ l : List zJ,l.any (fun u=>decide (u.id = id)) = (zS l id).isSome
 | []=>rfl
 | x :: t=>by
  rw [List.any_cons,zS,List.find?_cons];by_cases h : x.id = id
  ·rw [decide_eq_true h]; rfl
  ·rw [decide_eq_false h]; exact zrx id t
theorem CS.town_look (h : CS w0 N n w L M4 rs) (id : Int) (hid : zam id) : ∃ (t : zJ) (A : Option Addr) (m c : Nat),zan w0 (.slice A m c) t.codes /\ (zS (L.towns.map (·.1)) id = some t \/ zS (L.towns.map (·.1)) id = none /\ t = zJ.zero) /\
  ∀ W n',CS w0 N n' W L M4 rs -> (Instr.lookup 187 (.map (some N)) (.int .i64 id) true).run Tryz.prog W = .ok (.tuple #[.agg (zcB t (.slice A m c)),.bool (zS (L.towns.map (·.1)) id).isSome]) W:=by
 have hl:=fun (W : World) n' (h : CS w0 N n' W L M4 rs)=>h.m0.look_ok zdf Tryz.underlying187 (zzN W) id (zaJ id hid);rcases zos id L.towns with ⟨p,hp,h1,h2⟩ | ⟨h1,h2⟩
 ·have htx:=h.tx p hp
  obtain ⟨A,m,c,e⟩:=htx.form;refine ⟨p.1,A,m,c,by rw [<- e]; exact htx,.inl h2,fun W n' hW=>?_⟩;have:=hl W n' hW;rw [h1] at this;rw [h2,<- e];exact this
 ·refine ⟨zJ.zero,none,0,0,⟨none,0,rfl,lQ _,Nat.zero_le _,fun h=>absurd h (by simp [zJ.zero])⟩,.inr ⟨h2,rfl⟩,fun W n' hW=>?_⟩
  have:=hl W n' hW;rw [h1] at this;rw [h2];exact this
theorem CS.set_ {wb : World} {nb g i : Nat} {v : Value} (h : CS w0 N n w L M4 rs) (hb : CS w0 N nb wb L M4 rs) (hg : wb.heap.size <= g) : CS w0 N n (w.setCell ⟨g,i,none⟩ v) L M4 rs:=by
 have hN:=Nat.lt_of_lt_of_le hb.blk.lt hg
 exact {
  base:=h.base
  below:=h.below.setCell (p:=⟨g,i,none⟩) (by have:=h.base; simp; omega) v
  blk:=h.blk.far (p:=⟨g,i,none⟩) (by simp; omega) v
  m0:=h.m0.set_ (p:=⟨g,i,none⟩) (by simp; omega) v
  m1:=h.m1.set_ (p:=⟨g,i,none⟩) (by simp; omega) v
  m2:=h.m2.set_ (p:=⟨g,i,none⟩) (by simp; omega) v
  m3:=h.m3.set_ (p:=⟨g,i,none⟩) (by simp; omega) v
  m4:=h.m4.set_ (p:=⟨g,i,none⟩) (by simp; omega) v
  m5:=h.m5.set_ (p:=⟨g,i,none⟩) (by simp; omega) v
  m6:=h.m6.set_ (p:=⟨g,i,none⟩) (by simp; omega) v
  m7:=h.m7.set_ (p:=⟨g,i,none⟩) (by simp; omega) v
  tx:=h.tx
  rows:=⟨fun key=>(h.rows.row key).far (fun _ _ _ _ _ _=>trivial) fun k hk=>Below.heap_setCell _ _ _ _ (by have:=(hb.rows.row key).block_lt hk; simp; omega),h.rows.apart⟩ }
theorem ztJ (h : CS w0 N n w L M4 rs) (t : zJ) (cv : Value) (hid : zam t.id) (hc : 0 <= t.country /\ t.country <= 255) (hx : zan w0 cv t.codes) (hsz : t.name.size <= 1000 /\ t.region.size <= 1000 /\ ∀ x ∈ t.codes,x.size <= 1000000) (hn : n < 1000000) (hL : L.ttexts = L.towns.map fun p=>(p.1.country,p.1.text)) :
  Calls Tryz.prog 73 #[.pointer (some ⟨N + 8,0,none⟩),.agg (zcB t cv)] w fun e w'=>e = .returned (.bool (zgk (L.towns.map (·.1)) t)) /\ Below w0.heap.size w0 w' /\ (zgk (L.towns.map (·.1)) t = true -> CS w0 N (n + 2) w' { L with towns:=(t,cv) :: L.towns,ttexts:=(t.country,t.text) :: L.ttexts } M4 rs):=by
 obtain ⟨A,nc,cc,rfl⟩:=hx.form;have hb1 : Below w.heap.size w (w.alloc (.cells (zcB t (.slice A nc cc)) 79)):=(Below.refl _ _).alloc (lQ _) _;have kT:=Hd (Blk.new w 79 (zcB t (.slice A nc cc)));have h1:=Hd (h.up hb1);clear h hb1
 have hd : Hid (zgk (L.towns.map (·.1)) t = (!(L.towns.map (·.1)).any (fun u=>decide (u.id = t.id)) && (zcn t.id && (decide (1 <= t.country) && (decide (t.country <= 3) && (zci t.name && ((decide (t.region.size = 0) || (decide (t.country = 1) && zaF t.region 8)) &&
  (decide (t.text.size <= 40) && (!(L.towns.map (·.1)).any (fun u=>decide ((u.country,u.text) = (t.country,t.text))) && zkE t))))))))):=Hd rfl
 obtain ⟨⟨vi,vc,vn,vr,vcs⟩,vA,vm,vk,-,-,hlk⟩:=h1.out.town_look t.id hid;have hlk0:=Hd hlk;have hall:=zrx t.id (L.towns.map (·.1));rw [hall] at hd;clear hlk hall;generalize hr : zgk (L.towns.map (·.1)) t = r at *;obtain ⟨tid,country,name,region,codes⟩:=t;simp only at hd hlk0 hc hx hsz hid;unfold zcB at *;simp only at kT h1;go_enter Tryz.func73,Tryz.ntmps73;go_wp2;generalize w.alloc _ = W at *;generalize hT : w.heap.size = T at *;have g0:=h1.out.blk.cell 0;have t0:=kT.out.cell 0;have lB:=h1.out.blk.lt;have lT:=kT.out.lt;have hk1:=hlk0.out _ _ (h1.out.up ((Below.refl _ _).drew));have hk2:=hlk0.out _ _ (h1.out.up (((Below.refl W.heap.size W).alloc (lQ _) (.cells #[.int .i64 0,.int .u8 0,.string ⟨#[]⟩,.string ⟨#[]⟩,.slice none 0 0] 79)).drew));unfold zcB at hk1 hk2;simp at g0 t0;generalize (zS (L.towns.map (·.1)) tid).isSome = se at *;refine zez ?A1 (fun w'=>Below W.heap.size W w') ?h1 ?h2
 case h1=>
  intro Q' hQ
  go_region
  all_goals exact hQ _ ((Below.refl _ _).alloc (lQ _) _).drew
 intro W1 hb1;have h2:=Hd (h1.out.up hb1);have kT1:=Hd (kT.out.below hb1 kT.out.lt);clear hb1 h1 kT g0 t0 hk1 hk2 hlk0 lB lT
 cases se with
 | true=>
  go_wp2;go_ret;exact ⟨zf (by rw [hd.out]; rfl),h2.out.below,fun h=>by rw [hd.out] at h; cases h⟩
 | false=>
 have y0:=kT1.out.cell 0;have y1:=kT1.out.cell 1;have y2:=kT1.out.cell 2;have y3:=kT1.out.cell 3;have lT1:=kT1.out.lt;simp at y0 y1 y2 y3;have hisid:=Hd ziO;have hnm:=Hd (ziY name);have hcls:=Hd (zdy region);have q8:=Hd (zjj region 8 (by omega));go_wp2_with fail;refine (hisid.out _ _).mono ?_;rintro e w2 ⟨rfl,rfl⟩
 cases b1 : zcn tid with
 | false=>
  rw [b1] at hd;go_wp2;go_ret;exact ⟨zf (by rw [hd.out]; rfl),h2.out.below,fun h=>by rw [hd.out] at h; cases h⟩
 | true=>
 rw [b1] at hd;clear b1 hisid;by_cases c1 : 1 <= country
 rotate_left
 ·have d1 : decide (country < 1) = true:=decide_eq_true (by omega)
  rw [decide_eq_false c1] at hd;clear c1;go_wp2;go_ret;exact ⟨zf (by rw [hd.out]; rfl),h2.out.below,fun h=>by rw [hd.out] at h; cases h⟩
 have d1 : decide (country < 1) = false:=decide_eq_false (by omega);rw [decide_eq_true c1] at hd;by_cases c3 : country <= 3
 rotate_left
 ·have d3 : decide (3 < country) = true:=decide_eq_true (by omega)
  rw [decide_eq_false c3] at hd;clear c1 c3;go_wp2;go_ret;exact ⟨zf (by rw [hd.out]; rfl),h2.out.below,fun h=>by rw [hd.out] at h; cases h⟩
 have d3 : decide (3 < country) = false:=decide_eq_false (by omega);rw [decide_eq_true c3] at hd;clear c1 c3;go_wp2_with fail;refine (hnm.out _ (by omega)).mono ?_;rintro e w3 ⟨rfl,hb3⟩;have h3:=Hd (h2.out.up hb3);have kT3:=Hd (kT1.out.below hb3 kT1.out.lt);clear hb3 h2 kT1 hnm y0 y1 y2 y3 lT1
 cases b2 : zci name with
 | false=>
  rw [b2] at hd;go_wp2;go_ret;exact ⟨zf (by rw [hd.out]; rfl),h3.out.below,fun h=>by rw [hd.out] at h; cases h⟩
 | true=>
 rw [b2] at hd;clear b2;simp only [Bool.true_and,Bool.not_false] at hd;have y1:=kT3.out.cell 1;have y3:=kT3.out.cell 3;have lT3:=kT3.out.lt;simp at y1 y3;have hmid : ∃ ok1 : Bool,Hid (ok1 = (decide (region.size = 0) || (decide (country = 1) && zaF region 8))):=⟨_,Hd rfl⟩;obtain ⟨ok1,hok1⟩:=hmid;rw [<- hok1.out] at hd;have hcl2:=hcls.out w3 (by omega);have q8':=q8.out;simp only [Nat.reducePow,Int.cast_ofNat_Int] at q8';go_upto_region 6 with fail
 go_cut [4,53] (fun s4 s53 wx=>s4 = .bool false /\ s53 = .bool (!ok1) /\ Below w3.heap.size w3 wx)
 case first=>
  by_cases hr0 : region.size = 0
  ·have e0:=zcc hr0
   have ho : Hid (ok1 = true):=Hd (by rw [hok1.out,decide_eq_true hr0]; rfl);clear hr0;go_wp2_with fail;go_meet
   case rel=>exact ⟨rfl,by rw [ho.out]; rfl,Below.refl _ _⟩
  ·have e0:=zcS hr0
   rw [decide_eq_false hr0] at hok1;clear hr0;by_cases hc1 : country = 1
   ·rw [decide_eq_true hc1] at hok1
    have e1 : (country != 1) = false:=by simp [hc1]
    clear hc1;have hcl3:=Hd hcl2;clear hcl2;go_wp2_with fail;refine hcl3.out.mono ?_;rintro e w4 ⟨rfl,hb4⟩
    cases b3 : zaF region 8 with
    | true=>
     have ho : Hid (ok1 = true):=Hd (by rw [hok1.out,b3]; rfl);rw [b3] at q8';go_wp2_with fail;go_meet
     case rel=>exact ⟨rfl,by rw [ho.out]; rfl,hb4⟩
    | false=>
     have ho : Hid (ok1 = false):=Hd (by rw [hok1.out,b3]; rfl);rw [b3] at q8';go_wp2_with fail;go_meet
     case rel=>exact ⟨rfl,by rw [ho.out]; rfl,hb4⟩
   ·rw [decide_eq_false hc1] at hok1
    have e1 : (country != 1) = true:=by simpa using hc1
    have ho : Hid (ok1 = false):=Hd (by rw [hok1.out]; rfl);clear hc1;go_wp2_with fail;go_meet
    case rel=>exact ⟨rfl,by rw [ho.out]; rfl,Below.refl _ _⟩
 case rest=>
  obtain ⟨rfl,rfl,hb4⟩:=hcut;have h4:=Hd (h3.out.up hb4);have kT4:=Hd (kT3.out.below hb4 kT3.out.lt);clear hcl2 hb4 h3 kT3 y1 y3 lT3 q8' hok1
  cases ok1 with
  | false=>
   go_wp2;go_ret;exact ⟨zf (by rw [hd.out]; rfl),h4.out.below,fun h=>by rw [hd.out] at h; cases h⟩
  | true=>
   simp only [Bool.true_and,Bool.not_true] at hd ⊢;go_upto_region 8 with fail;have htt:=Hd (zrl ⟨tid,country,name,region,codes⟩ (.slice A nc cc) · hsz.1 hsz.2.1 ⟨_,_,_,rfl⟩);have htsz:=znP ⟨tid,country,name,region,codes⟩;unfold zcB at htt;simp only at htt htsz;generalize htxt : zJ.text ⟨tid,country,name,region,codes⟩ = text at *;have hw : IntKind.i64.wrap country = country:=by simp [IntKind.wrap,IntKind.bits,IntKind.signed]; omega
   have k0:=fun (E : World -> Prop) (u : zhu wc E)=>(kT4.out.upsE u).cell 0;have k1:=fun (E : World -> Prop) (u : zhu wc E)=>(kT4.out.upsE u).cell 1;have k2:=fun (E : World -> Prop) (u : zhu wc E)=>(kT4.out.upsE u).cell 2;have k3:=fun (E : World -> Prop) (u : zhu wc E)=>(kT4.out.upsE u).cell 3;have k4:=fun (E : World -> Prop) (u : zhu wc E)=>(kT4.out.upsE u).cell 4;simp at k0 k1 k2 k3 k4;refine zdv 6 _ 197 #[.int .i64 0,.string ⟨#[]⟩] (by kernel_rfl) (by kernel_rfl) rfl ?run (by rfl) ?A8 ?hd ?tl
   case run=>intro ρ w; simp [go_sem,execOp]
   case hd=>
    intro E hE hne;simp only [tS,tZ]
    repeat (go_big_quiet_step (first | (go_at_call 115; exact zst hE (htt.out _))))
    refine wpQuiet_nil ?_;rfl
   simp only [dS,dZ,Act.put,sX,sS,sZ];intro G u hG kG;have h5:=Hd (h4.out.up u.up);have kT5:=Hd (kT4.out.ups u);have hGT : T < G:=Nat.lt_of_lt_of_le kT4.out.lt hG;have hN8 : N + 8 < G:=Nat.lt_of_lt_of_le h4.out.blk.lt hG;have x0:=kG.cell 0;have x1:=kG.cell 1;have f0:=kG.frozen 0;have f1:=kG.frozen 1;have lG:=kG.lt;simp at x0 x1;have h6:=Hd ((h5.out.set_ (i:=0) (v:=.int .i64 country) h4.out hG).set_ (i:=1) (v:=.string text) h4.out hG);have kT6:=Hd ((kT5.out.far (p:=⟨G,0,none⟩) (by simp; omega) (.int .i64 country)).far (p:=⟨G,1,none⟩) (by simp; omega) (.string text));have kG6:=Hd ((kG.set_ 0 (.int .i64 country)).set_ 1 (.string text));clear h5 kT5 kG h4 kT4 k0 k1 k2 k3 k4;go_wp2;generalize (u.wld.setCell ⟨G,0,none⟩ (.int .i64 country)).setCell ⟨G,1,none⟩ (.string text) = W9 at *;obtain ⟨kl,hkl⟩:=zkY (country,text) (by unfold zam; simp only; omega) (by unfold maxLen; simp only; omega);have hcodes:=Hd fun (u : Ups W9)=>zpM ⟨tid,country,name,region,codes⟩ (.slice A nc cc) u.wld (hx.stays (zo.of (h6.out.up u.up).below)) hsz.2.2;have g1:=fun (u : Ups W9)=>(h6.out.up u.up).blk.cell 1;have g2:=fun (u : Ups W9)=>(kG6.out.ups u).cell 0;have g3:=fun (u : Ups W9)=>(kG6.out.ups u).cell 1;have g4:=fun (u : Ups W9)=>(h6.out.up u.up).m1.look zkc Tryz.underlying188 (zwu _) (country,text) hkl;have r0:=fun (u : Ups W9)=>(kT6.out.ups u).cell 0;have r1:=fun (u : Ups W9)=>(kT6.out.ups u).cell 1;have r2:=fun (u : Ups W9)=>(kT6.out.ups u).cell 2;have r3:=fun (u : Ups W9)=>(kT6.out.ups u).cell 3;have r4:=fun (u : Ups W9)=>(kT6.out.ups u).cell 4;unfold zcB at hcodes;simp only [zgR,hL,ztc,zbh] at g4 hcodes;simp at g1 g2 g3 r0 r1 r2 r3 r4;generalize (L.towns.map (·.1)).any (fun u=>decide ((u.country,u.text) = (country,text))) = sn at *;generalize zkE ⟨tid,country,name,region,codes⟩ = cb at *;clear htt x0 x1 f0 f1;have hx':=Hd hx;clear hx;by_cases h40 : text.size <= 40
   rotate_left
   ·have d4 : decide ((40 : Int) < (text.size : Int)) = true:=decide_eq_true (by omega)
    rw [decide_eq_false h40] at hd;clear h40;refine zC (by kernel_rfl) (by kernel_rfl) ?_
    repeat (go_big_quiet_step (first | (go_at_call 116; exact zbe (hcodes.out _))))
    refine wpQuiet_nil ?_;rintro _ ⟨u2,rfl⟩;have hend:=(h6.out.up u2.up).below;clear g1 g2 g3 g4 r0 r1 r2 r3 r4;go_wp2;go_ret;exact ⟨zf (by rw [hd.out]; first | done | simp),hend,fun h=>by rw [hd.out] at h; first | (cases h; done) | simp at h⟩
   have d4 : decide ((40 : Int) < (text.size : Int)) = false:=decide_eq_false (by omega);rw [decide_eq_true h40] at hd
   cases sn with
   | true=>
    refine zC (by kernel_rfl) (by kernel_rfl) ?_
    repeat (go_big_quiet_step (first | (go_at_call 116; exact zbe (hcodes.out _))))
    refine wpQuiet_nil ?_;rintro _ ⟨u2,rfl⟩;have hend:=(h6.out.up u2.up).below;clear g1 g2 g3 g4 r0 r1 r2 r3 r4;go_wp2;go_ret;exact ⟨zf (by rw [hd.out]; first | done | simp),hend,fun h=>by rw [hd.out] at h; first | (cases h; done) | simp at h⟩
   | false=>
   cases cb with
   | false=>
    refine zC (by kernel_rfl) (by kernel_rfl) ?_
    repeat (go_big_quiet_step (first | (go_at_call 116; exact zbe (hcodes.out _))))
    refine wpQuiet_nil ?_;rintro _ ⟨u2,rfl⟩;have hend:=(h6.out.up u2.up).below;clear g1 g2 g3 g4 r0 r1 r2 r3 r4;go_wp2;go_ret;exact ⟨zf (by rw [hd.out]; first | done | simp),hend,fun h=>by rw [hd.out] at h; first | (cases h; done) | simp at h⟩
   | true=>
   refine zC (by kernel_rfl) (by kernel_rfl) ?_
   repeat (go_big_quiet_step (first | (go_at_call 116; exact zbe (hcodes.out _))))
   refine wpQuiet_nil ?_;rintro _ ⟨u2,rfl⟩;have h7:=Hd (h6.out.up u2.up);have kT7:=Hd (kT6.out.ups u2);have kG7:=Hd (kG6.out.ups u2);clear g1 g2 g3 g4 r0 r1 r2 r3 r4 h6 kT6 kG6 hcodes;have htc : Hid (r = true):=Hd (by rw [hd.out]; first | done | simp);clear hd;generalize u2.wld = W10 at *;go_wp2;have g0:=fun (u : Ups W10)=>(h7.out.up u.up).blk.cell 0;have r0:=fun (u : Ups W10)=>(kT7.out.ups u).cell 0;have r1:=fun (u : Ups W10)=>(kT7.out.ups u).cell 1;have r2:=fun (u : Ups W10)=>(kT7.out.ups u).cell 2;have r3:=fun (u : Ups W10)=>(kT7.out.ups u).cell 3;have r4:=fun (u : Ups W10)=>(kT7.out.ups u).cell 4;simp at g0 r0 r1 r2 r3 r4;refine zL 7 (by kernel_rfl) (by kernel_rfl) ?_;simp only [tS,tZ,dS,dZ]
   repeat (go_big_quiet_step (fail))
   refine wpQuiet_nil ?_;rintro _ ⟨u3,rfl⟩;have h8:=h7.out.up u3.up;have kG8:=kG7.out.ups u3;obtain ⟨W11,hput,hmv,hgr⟩:=h8.m0.put zdf Tryz.underlying187 (by unfold maxLen; omega) zbm tid (⟨tid,country,name,region,codes⟩,.slice A nc cc) (zaJ tid hid);simp only [zY,zjg,zcB] at hput;have h9:=Hd (h8.put0 (p:=(⟨tid,country,name,region,codes⟩,.slice A nc cc)) hx'.out hmv hgr);have kG9:=Hd ((hgr.block _ kG8.lt (by intro e; injection e with e; omega)).trans kG8);clear g0 r0 r1 r2 r3 r4 h8 kG8 h7 kT7 kG7 hmv hgr;generalize u3.wld = W12 at *;go_wp2;have g1:=fun (u : Ups W11)=>(h9.out.up u.up).blk.cell 1;have g2:=fun (u : Ups W11)=>(Blk.ups kG9.out u).cell 0;have g3:=fun (u : Ups W11)=>(Blk.ups kG9.out u).cell 1;simp at g1 g2 g3;refine zL 5 (by kernel_rfl) (by kernel_rfl) ?_;simp only [tS,tZ,dS,dZ]
   repeat (go_big_quiet_step (fail))
   refine wpQuiet_nil ?_;rintro _ ⟨u4,rfl⟩;have ha:=h9.out.up u4.up;obtain ⟨W13,hput2,hmv2,hgr2⟩:=ha.m1.put zkc Tryz.underlying188 (by unfold maxLen; omega) zjq (country,text) true hkl;simp only [zbh] at hput2;have hb:=Hd (ha.put1 hmv2 hgr2);clear g1 g2 g3 ha h9 kG9 hmv2 hgr2 hput;generalize u4.wld = W14 at *;go_wp2;go_ret;exact ⟨zf (by rw [htc.out]),hb.out.below,fun _=>by rw [<- hL]; exact hb.out⟩
end
end Go.Proofs.YtggimnndflkjkaaGreatDoor
