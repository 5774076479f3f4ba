import Derived.Test.YteclineblddpbaaGreatDoorRC01
import Derived.Test.YteclineblddpbaaGreatDoorRC12
import Derived.Test.YteclineblddpbaaGreatDoorRC15
set_option linter.all false
set_option maxRecDepth 100000
set_option maxHeartbeats 0
namespace Go.Proofs.YteclineblddpbaaGreatDoorR
section
open Go Go.RowKit
structure UpsC (S : World -> Prop) where
 wld : World
 mem : S wld
abbrev CS1 (S : World -> Prop) : World -> Prop:=fun w'=>∃ u : UpsC S,w' = u.wld
theorem calls_upsC {P : Program} {f : FuncId} {args : Array Value} {S : World -> Prop} {v : Value} {u : UpsC S} (hS : Grows S) (h : Calls P f args u.wld fun e w'=>e = .returned v /\ Below u.wld.heap.size u.wld w') :
  Calls P f args u.wld fun e w''=>e = .returned v /\ ∃ u' : UpsC S,w'' = u'.wld:=
 h.mono fun _ w'' ⟨he,hb⟩=>⟨he,⟨w'',hS _ _ u.mem hb⟩,rfl⟩
theorem calls_upsC_eq {P : Program} {f : FuncId} {args : Array Value} {S : World -> Prop} {v : Value} {u : UpsC S} (h : Calls P f args u.wld fun e w'=>e = .returned v /\ w' = u.wld) :
  Calls P f args u.wld fun e w''=>e = .returned v /\ ∃ u' : UpsC S,w'' = u'.wld:=
 h.mono fun _ _ ⟨he,hb⟩=>⟨he,u,hb⟩
section
variable {P : Program} {ops : Array Oper} {Q : Exit -> Act -> World -> Prop} {C : World -> Prop}
def SameC (P : Program) (C : World -> Prop) (o : Oper) (a : Act) (v : Value) : Prop:=∀ S,Grows S -> (∀ w,S w -> C w) -> ∀ w,CS1 S w -> o.quietAt P a (CS1 S) w v
theorem SameC.of_eq {o : Oper} {v : Value} {a a' : Act} (h : SameC P C o a v) (he : execOp a'.eval o = execOp a.eval o) : SameC P C o a' v:=fun S hS hC w hw=>by
 have:=h S hS hC w hw
 unfold Oper.quietAt at *
 rw [he]; exact this
def YC (P : Program) (ops : Array Oper) (C : World -> Prop) (o : Oper) (v : Value) (a : Act) : Prop:=
 (Region.wanted o (yielded ops a.tmps) = true /\ SameC P C o a v) \/ (Region.wanted o (yielded ops a.tmps) = false /\ v = undef)
theorem YC.same {o : Oper} {v : Value} {a a' : Act} (h : YC P ops C o v a) (he : execOp a'.eval o = execOp a.eval o) (hw : Region.wanted o (yielded ops a'.tmps) = Region.wanted o (yielded ops a.tmps)) : YC P ops C o v a':=by
 unfold YC at *
 rw [hw]
 rcases h with ⟨h1,h2⟩ | h
 ·exact .inl ⟨h1,h2.of_eq he⟩
 ·exact .inr h
def runQ (P : Program) (ops : Array Oper) (C : World -> Prop) : List Nat -> Act -> Act -> Prop
 | [],a,A=>a = A
 | i :: r,a,A=>∃ o v,ops[i]? = some o /\ YC P ops C o v a /\ runQ P ops C r (a.put o.dst v) A
variable (hsel : Region.noSelect ops = true)
include hsel
theorem runQ_pull {i : Nat} {oi : Oper} (hi : ops[i]? = some oi) {A : Act} {r2 : List Nat} : ∀ (r1 : List Nat) (a : Act),(∀ j ∈ r1,∀ oj,ops[j]? = some oj -> oi.apart ops oj = true) -> runQ P ops C (r1 ++ i :: r2) a A ->
  ∃ v,YC P ops C oi v a /\ runQ P ops C (r1 ++ r2) (a.put oi.dst v) A
 | [],a,_,h=>by
  obtain ⟨o,v,h1,h2,h3⟩:=h
  obtain rfl : o = oi:=Option.some.inj (h1.symm.trans hi)
  exact ⟨v,h2,h3⟩
 | j :: r1,a,hap,h=>by
  obtain ⟨oj,vj,h1,h2,h3⟩:=h
  obtain ⟨v,h4,h5⟩:=runQ_pull hi r1 (a.put oj.dst vj) (fun k hk=>hap k (List.mem_cons_of_mem _ hk)) h3
  obtain ⟨a1,a2,a3⟩:=Oper.apart_spec (hap j (List.mem_cons_self ..) oj h1)
  refine ⟨v,h4.same (execOp_put oi (fun cs b=>Region.noSelect_spec hsel i oi cs b hi) a oj.dst vj a3).symm (wanted_put oi a oj.dst vj a3).symm,oj,vj,h1,?_,?_⟩
  ·exact h2.same (execOp_put oj (fun cs b=>Region.noSelect_spec hsel j oj cs b h1) a oi.dst v a1) (wanted_put oj a oi.dst v a1)
  ·rw [Act.put_comm a v vj a2]; exact h5
theorem runQ_exec {i : Nat} {oi : Oper} (hi : ops[i]? = some oi) {A : Act} : ∀ (r : List Nat) (a : Act),(∀ j ∈ r,∀ oj,ops[j]? = some oj -> oi.apart ops oj = true) -> runQ P ops C r a A -> execOp A.eval oi = execOp a.eval oi
 | [],a,_,h=>by rw [show a = A from h]
 | j :: r,a,hap,h=>by
  obtain ⟨oj,vj,h1,_,h3⟩:=h
  obtain ⟨_,_,a3⟩:=Oper.apart_spec (hap j (List.mem_cons_self ..) oj h1)
  rw [runQ_exec hi r _ (fun k hk=>hap k (List.mem_cons_of_mem _ hk)) h3]
  exact execOp_put oi (fun cs b=>Region.noSelect_spec hsel i oi cs b hi) a oj.dst vj a3
theorem runQ_put {oi : Oper} {v : Value} {A : Act} : ∀ (r : List Nat) (a : Act),(∀ j ∈ r,∀ oj,ops[j]? = some oj -> oi.apart ops oj = true) -> runQ P ops C r a A -> runQ P ops C r (a.put oi.dst v) (A.put oi.dst v)
 | [],a,_,h=>by rw [show a = A from h]; rfl
 | j :: r,a,hap,h=>by
  obtain ⟨oj,vj,h1,h2,h3⟩:=h
  obtain ⟨a1,a2,a3⟩:=Oper.apart_spec (hap j (List.mem_cons_self ..) oj h1)
  refine ⟨oj,vj,h1,h2.same (execOp_put oj (fun cs b=>Region.noSelect_spec hsel j oj cs b h1) a oi.dst v a1) (wanted_put oj a oi.dst v a1),?_⟩
  rw [Act.put_comm a v vj a2]
  exact runQ_put r _ (fun k hk=>hap k (List.mem_cons_of_mem _ hk)) h3
omit hsel
def Made1 (P : Program) (o : Oper) (a : Act) (w : World) (N : Value -> World -> Prop) : Prop:=
 match (execOp a.eval o).run P w with
 | .ok (.value v) w'=>N v w'
 | .ok .skip w'=>N undef w'
 | .ok (.enter f args) w'=>Calls P f args w' fun e w''=>∃ v,e = .returned v /\ N v w''
 | .ok (.row row args) w'=>Rows P row args w' N
 | _=>False
theorem Made1.wp {o : Oper} {a : Act} {w : World} {N : Value -> World -> Prop} {K : Act -> World -> Prop} (h : Made1 P o a w N) (hK : ∀ v w',N v w' -> K (a.put o.dst v) w') : o.wp P a w K Q:=by
 unfold Made1 at h
 unfold Oper.wp
 generalize (execOp a.eval o).run P w = r at *
 cases r with
 | ok x w'=>
  cases x <;> simp only at h <;> simp only [Oper.upon]
  case value v=>exact hK _ _ h
  case skip=>exact hK _ _ h
  case enter f args=>
   exact h.mono fun e w'' ⟨v,he,hN⟩=>by subst he; exact hK _ _ hN
  case row row args=>exact Rows.mono h hK
 | halt x w'=>exact h.elim
theorem Made1.congr {o : Oper} {a a' : Act} {w : World} {N : Value -> World -> Prop} (h : Made1 P o a w N) (he : execOp a'.eval o = execOp a.eval o) : Made1 P o a' w N:=by
 unfold Made1 at *
 rw [he]; exact h
def readyZ (ops : Array Oper) (rz : List Nat) (i : Nat) : Bool:=
 match ops[i]? with
 | some o=>o.after.all fun e=>!Region.binds .any e || !rz.contains e.on
 | none=>false
def mkZ (P : Program) (ops : Array Oper) (Q : Exit -> Act -> World -> Prop) (C : World -> Prop) (n : Nat) : Nat -> List Nat -> Act -> World -> Prop
 | 0,_,a,w=>∀ w1,Below w.heap.size w w1 -> wpOp P ops Q n (fun a' w'=>Q .normal a' w') a w1
 | k + 1,rz,a,w=>∀ i ∈ rz,readyZ ops rz i = true -> ∀ w1,Below w.heap.size w w1 -> ∃ o,ops[i]? = some o /\ Made1 P o a w1 fun v w'=>(∀ w2,Below w'.heap.size w' w2 -> C w2) /\ mkZ P ops Q C n k (rz.erase i) (a.put o.dst v) w'
theorem mkZ.up {n k : Nat} {rz : List Nat} {a : Act} {w w' : World} (h : mkZ P ops Q C n k rz a w) (hb : Below w.heap.size w w') : mkZ P ops Q C n k rz a w':=by
 cases k with
 | zero=>exact fun w1 h1=>h w1 (hb.trans (h1.mono hb.size))
 | succ k=>exact fun i hi hr w1 h1=>h i hi hr w1 (hb.trans (h1.mono hb.size))
theorem exists_ready {n : Nat} {b : Array Bool} (hlow : ∀ (j : Nat) (oj : Oper),ops[j]? = some oj -> ∀ e ∈ oj.after,Region.binds .any e = true -> e.on < j) (hn : n < ops.size) (hsz : b.size = ops.size) : ∀ (d i : Nat),i = d -> i < n -> b.getD i true = false -> ∃ j,j ∈ Region.ready .any ops b:=by
 intro d
 induction d using Nat.strongRecOn with
 | _ d ih=>
  intro i hd hi hu
  subst hd
  have hlt : i < ops.size:=by omega
  have ho : ops[i]? = some ops[i]:=Array.getElem?_eq_getElem hlt
  by_cases h : ∀ e ∈ (ops[i]).after,Region.binds .any e = true -> b.getD e.on false = true
  ·exact ⟨i,mem_ready.2 ⟨hu,_,ho,h⟩⟩
  ·obtain ⟨e,h⟩:=Classical.not_forall.1 h
   have h1 : e ∈ (ops[i]).after /\ Region.binds .any e = true /\ ¬ b.getD e.on false = true:=by
    by_cases h2 : e ∈ (ops[i]).after
    ·by_cases h3 : Region.binds .any e = true
     ·exact ⟨h2,h3,fun h4=>h fun _ _=>h4⟩
     ·exact absurd (fun _ h5=>absurd h5 h3) h
    ·exact absurd (fun h5=>absurd h5 h2) h
   have hl:=hlow i _ ho e h1.1 h1.2.1
   exact ih e.on hl e.on rfl (by omega) (getD_in (by omega) (by simpa using h1.2.2))
structure FlowOK (ops : Array Oper) (n : Nat) (zs : List Nat) : Prop where
 size : n + 1 = ops.size
 sel : Region.noSelect ops = true
 sink : Region.sinkB .any ops n = true
 chain : Region.chainB .any ops n = true
 low : ∀ (j : Nat) (oj : Oper),ops[j]? = some oj -> ∀ e ∈ oj.after,Region.binds .any e = true -> e.on < j
 ap : ∀ (i j : Nat) (oi oj : Oper),i < n -> j < n -> i ≠ j -> ops[i]? = some oi -> ops[j]? = some oj -> Region.waitsFor .any ops j i = false -> Region.waitsFor .any ops i j = false -> oi.apart ops oj = true
 qz : ∀ j,j < n -> j ∉ zs -> ∀ i ∈ zs,Region.waitsFor .any ops j i = false
 zg : ∀ i ∈ zs,i < n /\ ∀ o : Oper,ops[i]? = some o -> o.guard = none
theorem unlisted_wait {b : Array Bool} {i j : Nat} (hr : i ∈ Region.ready .any ops b) (hj : b.getD j true = false) : Region.waitsFor .any ops i j = false:=by
 cases h : Region.waitsFor .any ops i j with
 | false=>rfl
 | true=>
  obtain ⟨oi,hoi,e,he,hb,hon⟩:=Region.waitsFor_spec h
  obtain ⟨_,o,ho,hall⟩:=mem_ready.1 hr
  obtain rfl : oi = o:=Option.some.inj (hoi.symm.trans ho)
  have:=hall e he hb
  rw [hon,getD_both hj] at this
  cases this
theorem flow_any {n : Nat} {zs : List Nat} (F : FlowOK ops n zs) : ∀ (m : Nat) (r rz : List Nat) (b : Array Bool) (a A : Act) (w : World),r.length + rz.length = m -> HeadInv .any ops n b -> r.Pairwise (· < ·) -> (∀ j ∈ r,j < n /\ j ∉ zs) ->
  rz.Nodup -> (∀ j ∈ rz,j ∈ zs) -> (∀ j,j < n -> (b.getD j true = false ↔ j ∈ r \/ j ∈ rz)) -> runQ P ops C r a A -> (∀ w2,Below w.heap.size w w2 -> C w2) -> mkZ P ops Q C n rz.length rz A w -> wpAny P .any ops Q (m + 1) b a w
 | 0,r,rz,b,a,A,w,hm,inv,_,_,_,_,hun,hq,_,hz=>by
  have hn : n < ops.size:=by have:=F.size; omega
  obtain rfl : r = []:=List.eq_nil_of_length_eq_zero (by omega)
  obtain rfl : rz = []:=List.eq_nil_of_length_eq_zero (by omega)
  obtain rfl : a = A:=hq
  have hl : ∀ j,j < n -> b.getD j false = true:=fun j hj=>by
   have h1 : ¬ b.getD j true = false:=fun h=>by rcases (hun j hj).1 h with h | h <;> cases h
   cases h2 : b.getD j false with
   | true=>rfl
   | false=>exact absurd (getD_in (by rw [inv.size]; omega) h2) h1
  have hnr : n ∈ Region.ready .any ops b:=mem_ready.2 ⟨inv.tail n (lQ _) hn,ops[n],Array.getElem?_eq_getElem hn,fun e he hb=>hl _ (F.low n _ (Array.getElem?_eq_getElem hn) e he hb)⟩
  refine ⟨fun h0=>(by rw [h0] at hnr; cases hnr),fun i hi=>?_⟩
  have hin : i = n:=by
   obtain ⟨h1,o,ho,_⟩:=mem_ready.1 hi
   have h2:=(Array.getElem?_eq_some_iff.1 ho).1
   have h3:=F.size
   rcases Nat.lt_or_ge i n with h | h
   ·have:=hl i h; rw [getD_both h1] at this; cases this
   ·omega
  subst hin
  refine wpOp_mono (fun a' w' h=>⟨?_,h⟩) (hz w (Below.refl _ _))
  refine List.eq_nil_iff_forall_not_mem.2 fun j hj=>?_
  obtain ⟨h1,o,ho,_⟩:=mem_ready.1 hj
  have h2:=(Array.getElem?_eq_some_iff.1 ho).1
  have h3:=F.size
  rcases Decidable.em (i = j) with rfl | hne
  ·have hsz : i < b.size:=by rw [inv.size]; omega
   simp [hsz] at h1
  ·rw [getD_set_ne true hne] at h1
   have:=hl j (by omega)
   rw [getD_both h1] at this
   cases this
 | m + 1,r,rz,b,a,A,w,hm,inv,hpw,hr,hnd,hrz,hun,hq,hC,hz=>by
  have hn : n < ops.size:=by have:=F.size; omega
  have hex : ∃ i0,i0 < n /\ b.getD i0 true = false:=by
   cases r with
   | cons i _=>exact ⟨i,(hr i (List.mem_cons_self ..)).1,(hun i (hr i (List.mem_cons_self ..)).1).2 (.inl (List.mem_cons_self ..))⟩
   | nil=>cases rz with
    | cons i _=>
     have:=(F.zg i (hrz i (List.mem_cons_self ..))).1
     exact ⟨i,this,(hun i this).2 (.inr (List.mem_cons_self ..))⟩
    | nil=>simp at hm
  obtain ⟨i0,hi0,hu0⟩:=hex
  obtain ⟨j0,hj0⟩:=exists_ready F.low hn inv.size i0 i0 rfl hi0 hu0
  refine ⟨fun h0=>(by rw [h0] at hj0; cases hj0),fun i hi=>?_⟩
  have hin : i < n:=by
   rcases Nat.lt_or_ge i n with h | h
   ·exact h
   ·exact absurd hi (tail_waits F.sink F.chain hn inv _ i0 rfl hi0 hu0 i h)
  obtain ⟨hiu,oi,hoi,hall⟩:=mem_ready.1 hi
  have hunset : ∀ (r' rz' : List Nat),(∀ j,j ≠ i -> ((j ∈ r' \/ j ∈ rz') ↔ (j ∈ r \/ j ∈ rz))) -> i ∉ r' -> i ∉ rz' -> ∀ j,j < n -> ((b.setIfInBounds i true).getD j true = false ↔ j ∈ r' \/ j ∈ rz'):=fun r' rz' h1 h2 h3 j hj=>by
   rcases Decidable.em (i = j) with rfl | hne
   ·have hsz : i < b.size:=by rw [inv.size]; omega
    simp [hsz,h2,h3]
   ·rw [getD_set_ne true hne,hun j hj,h1 j (Ne.symm hne)]
  rcases (hun i hin).1 hiu with hir | hir
  ·obtain ⟨r1,r2,rfl⟩:=List.append_of_mem hir
   have hlt1 : ∀ j ∈ r1,j < i:=fun j hj=>(List.pairwise_append.1 hpw).2.2 j hj i (List.mem_cons_self ..)
   have hgt2 : ∀ j ∈ r2,i < j:=fun j hj=>(List.pairwise_cons.1 (List.pairwise_append.1 hpw).2.1).1 j hj
   have hap1 : ∀ j ∈ r1,∀ oj,ops[j]? = some oj -> oi.apart ops oj = true:=fun j hj oj hoj=>by
    have hjn:=(hr j (List.mem_append_left _ hj)).1
    refine F.ap i j oi oj hin hjn (by have:=hlt1 j hj; omega) hoi hoj ?_ (unlisted_wait hi ((hun j hjn).2 (.inl (List.mem_append_left _ hj))))
    cases h : Region.waitsFor .any ops j i with
    | false=>rfl
    | true=>
     obtain ⟨o',ho',e,he,hbd,hon⟩:=Region.waitsFor_spec h
     have:=F.low j o' ho' e he hbd
     have:=hlt1 j hj
     omega
   obtain ⟨v,hy,hq'⟩:=runQ_pull F.sel hoi r1 a hap1 hq
   have hsub : List.Sublist (r1 ++ r2) (r1 ++ i :: r2):=List.Sublist.append (List.Sublist.refl _) (List.sublist_cons_self ..)
   have next : ∀ w',Below w.heap.size w w' -> wpAny P .any ops Q (m + 1) (b.setIfInBounds i true) (a.put oi.dst v) w':=fun w' hb=>by
    refine flow_any F m (r1 ++ r2) rz _ _ A w' (by simp at hm ⊢; omega) (inv.set hi hin) (hpw.sublist hsub) (fun j hj=>hr j (hsub.subset hj)) hnd hrz (hunset _ _ ?_ ?_ ?_) hq' (fun w2 h2=>hC w2 (hb.trans (h2.mono hb.size))) (hz.up hb)
    ·intro j hj
     simp [hj]
    ·intro h
     rcases List.mem_append.1 h with h | h
     ·have:=hlt1 i h; omega
     ·have:=hgt2 i h; omega
    ·intro h
     exact (hr i hir).2 (hrz i h)
   unfold wpOp
   simp only [hoi]
   rcases hy with ⟨hw,hv⟩ | ⟨hw,rfl⟩
   ·rw [if_pos hw]
    refine .inl (Oper.wp_of_quiet (C:=CS1 fun w'=>Below w.heap.size w w') ⟨⟨w,Below.refl _ _⟩,rfl⟩ (K:=fun a'=>a' = a.put oi.dst v) ?_ ⟨v,hv _ (fun _ _ h1 h2=>h1.trans (h2.mono h1.size)) hC,rfl⟩)
    rintro a' w' ⟨u,rfl⟩ rfl
    exact next _ u.mem
   ·rw [if_neg (by rw [hw]; exact Bool.false_ne_true)]
    exact next w (Below.refl _ _)
  ·have hapz : ∀ j ∈ r,∀ oj,ops[j]? = some oj -> oi.apart ops oj = true:=fun j hj oj hoj=>by
    have hjn:=hr j hj
    exact F.ap i j oi oj hin hjn.1 (fun e=>hjn.2 (e ▸ hrz i hir)) hoi hoj (F.qz j hjn.1 hjn.2 i (hrz i hir)) (unlisted_wait hi ((hun j hjn.1).2 (.inl hj)))
   have hlen:=List.length_erase_of_mem hir
   have hpos : 0 < rz.length:=List.length_pos_of_mem hir
   obtain ⟨k,hk⟩ : ∃ k,rz.length = k + 1:=⟨rz.length - 1,by omega⟩
   rw [hk] at hz
   have hrd : readyZ ops rz i = true:=by
    unfold readyZ
    simp only [hoi,Array.all_eq_true',Bool.or_eq_true,Bool.not_eq_true']
    intro e he
    cases hb : Region.binds .any e with
    | false=>exact .inl rfl
    | true=>
     refine .inr ?_
     have h1:=hall e he hb
     cases hc : rz.contains e.on with
     | false=>rfl
     | true=>
      have hmem : e.on ∈ rz:=by simpa using hc
      have hlt:=(F.zg _ (hrz _ hmem)).1
      have h2:=(hun _ hlt).2 (.inr hmem)
      rw [getD_both h2] at h1
      cases h1
   obtain ⟨o,ho,hmade⟩:=hz i hir hrd w (Below.refl _ _)
   obtain rfl : o = oi:=Option.some.inj (ho.symm.trans hoi)
   have hmade':=hmade.congr (runQ_exec F.sel hoi r a hapz hq).symm
   have hw : Region.wanted o (yielded ops a.tmps) = true:=by unfold Region.wanted; rw [(F.zg i (hrz i hir)).2 o ho]
   unfold wpOp
   simp only [hoi]
   rw [if_pos hw]
   refine .inl (hmade'.wp ?_)
   rintro v w' ⟨hC',hz'⟩
   have hke : (rz.erase i).length = k:=by omega
   refine flow_any F m r (rz.erase i) _ _ (A.put o.dst v) w' (by omega) (inv.set hi hin) hpw hr (hnd.erase i) (fun j hj=>hrz j (List.mem_of_mem_erase hj)) (hunset _ _ ?_ ?_ ?_) (runQ_put F.sel r a hapz hq) hC' (by rw [hke]; exact hz')
   ·intro j hj
    rw [hnd.mem_erase_iff]
    simp [hj]
   ·exact fun h=>(hr i h).2 (hrz i hir)
   ·rw [hnd.mem_erase_iff]; simp
end
def idxB (v : Bool) : Nat -> List Bool -> List Nat
 | _,[]=>[]
 | k,b :: t=>if b = v then k :: idxB v (k + 1) t else idxB v (k + 1) t
def pickB (v : Bool) : List Bool -> List Oper -> List Oper
 | b :: m,o :: t=>if b = v then o :: pickB v m t else pickB v m t
 | _,_=>[]
theorem mem_idx {v : Bool} {j : Nat} : ∀ (m : List Bool) (k : Nat),j ∈ idxB v k m ↔ k <= j /\ m[j - k]? = some v
 | [],k=>by simp [idxB]
 | b :: t,k=>by
  rw [idxB]
  have ih:=mem_idx (v:=v) (j:=j) t (k + 1)
  by_cases hj : j = k
  ·subst hj
   split
   ·rename_i h; simp [h]
   ·rename_i h
    rw [ih]
    constructor
    ·rintro ⟨h1,_⟩; omega
    ·rintro ⟨_,h2⟩; simp at h2; exact absurd h2 h
  ·split
   ·rw [List.mem_cons,ih]
    constructor
    ·rintro (h | ⟨h1,h2⟩)
     ·exact absurd h hj
     ·refine ⟨by omega,?_⟩
      rw [show j - k = (j - (k + 1)) + 1 by omega,List.getElem?_cons_succ]; exact h2
    ·rintro ⟨h1,h2⟩
     refine .inr ⟨by omega,?_⟩
     rw [show j - k = (j - (k + 1)) + 1 by omega,List.getElem?_cons_succ] at h2; exact h2
   ·rw [ih]
    constructor
    ·rintro ⟨h1,h2⟩
     refine ⟨by omega,?_⟩
     rw [show j - k = (j - (k + 1)) + 1 by omega,List.getElem?_cons_succ]; exact h2
    ·rintro ⟨h1,h2⟩
     refine ⟨by omega,?_⟩
     rw [show j - k = (j - (k + 1)) + 1 by omega,List.getElem?_cons_succ] at h2; exact h2
theorem idx_pair (v : Bool) : ∀ (m : List Bool) (k : Nat),(idxB v k m).Pairwise (· < ·)
 | [],_=>List.Pairwise.nil
 | b :: t,k=>by
  rw [idxB]
  split
  ·exact List.pairwise_cons.2 ⟨fun j hj=>by have:=((mem_idx t (k + 1)).1 hj).1; omega,idx_pair v t (k + 1)⟩
  ·exact idx_pair v t (k + 1)
theorem idx_len : ∀ (m : List Bool) (k : Nat),(idxB true k m).length + (idxB false k m).length = m.length
 | [],_=>rfl
 | b :: t,k=>by
  have:=idx_len t (k + 1)
  rw [idxB,idxB]
  cases b <;> simp <;> omega
theorem runQ_of {P : Program} {ops : Array Oper} {C : World -> Prop} {A : Act} (w : World) (hC : ∀ w1,Below w.heap.size w w1 -> C w1) : ∀ (m : List Bool) (l : List Oper) (k : Nat) (a : Act),(∀ j,l[j]? = ops[k + j]?) -> m.length <= l.length -> dstsOK a.tmps.size (pickB true m l) = true ->
  (∀ S,Grows S -> (∀ w,S w -> C w) -> Nonempty (UpsC S) -> wpQuiet P ops (CS1 S) (fun a'=>a' = A) (pickB true m l) a) -> runQ P ops C (idxB true k m) a A
 | [],l,k,a,_,_,_,h=>h (fun w'=>Below w.heap.size w w') (fun _ _ h1 h2=>h1.trans (h2.mono h1.size)) hC ⟨⟨w,Below.refl _ _⟩⟩
 | b :: m,[],k,a,_,hl,_,_=>by simp at hl
 | false :: m,o :: l,k,a,hops,hl,hd,h=>by
  rw [idxB,if_neg (by simp)]
  have e : pickB true (false :: m) (o :: l) = pickB true m l:=by rw [pickB,if_neg (by simp)]
  rw [e] at hd h
  exact runQ_of w hC m l (k + 1) a (fun j=>by have:=hops (j + 1); rw [List.getElem?_cons_succ] at this; rw [this]; congr 1; omega) (by simpa using hl) hd h
 | true :: m,o :: l,k,a,hops,hl,hd,h=>by
  rw [idxB,if_pos rfl]
  have e : pickB true (true :: m) (o :: l) = o :: pickB true m l:=by rw [pickB,if_pos rfl]
  rw [e] at hd h
  have h0 : ops[k]? = some o:=by have:=hops 0; simpa using this.symm
  have hops' : ∀ j,l[j]? = ops[k + 1 + j]?:=fun j=>by have:=hops (j + 1); rw [List.getElem?_cons_succ] at this; rw [this]; congr 1; omega
  simp only [dstsOK,Bool.and_eq_true] at hd
  obtain ⟨hd1,hd2⟩:=hd
  cases ho : o.dst with
  | none=>rw [ho] at hd1; cases hd1
  | some d=>
  rw [ho] at hd1
  simp only [Bool.and_eq_true,decide_eq_true_eq,List.all_eq_true,bne_iff_ne] at hd1
  have hsz : ∀ v,(a.put (some d) v).tmps.size = a.tmps.size:=fun v=>by simp [Act.put]
  cases hw : Region.wanted o (yielded ops a.tmps) with
  | true=>
   have key : ∀ S,Grows S -> (∀ w,S w -> C w) -> Nonempty (UpsC S) -> (∀ w,CS1 S w -> o.quietAt P a (CS1 S) w (A.tmps.getD d undef)) /\ wpQuiet P ops (CS1 S) (fun a'=>a' = A) (pickB true m l) (a.put o.dst (A.tmps.getD d undef)):=fun S hS hSC hne=>by
    have h1:=h S hS hSC hne
    unfold wpQuiet at h1
    rw [if_pos hw] at h1
    obtain ⟨v,h2,h3⟩:=h1
    have hv : A.tmps.getD d undef = v:=by
     rw [ho] at h3
     rw [slot_kept d _ _ (fun o' ho'=>hd1.2 o' ho') h3]
     simp [Act.put,hd1.1]
    rw [hv]
    exact ⟨h2,h3⟩
   refine ⟨o,A.tmps.getD d undef,h0,.inl ⟨hw,fun S hS hSC w' hw'=>(key S hS hSC ⟨hw'.choose⟩).1 w' hw'⟩,?_⟩
   rw [ho]
   exact runQ_of w hC m l (k + 1) _ hops' (by simpa using hl) (by rw [hsz]; exact hd2) fun S hS hSC hne=>by have:=(key S hS hSC hne).2; rwa [ho] at this
  | false=>
   refine ⟨o,undef,h0,.inr ⟨hw,rfl⟩,?_⟩
   rw [ho]
   exact runQ_of w hC m l (k + 1) _ hops' (by simpa using hl) (by rw [hsz]; exact hd2) fun S hS hSC hne=>by
    have h1:=h S hS hSC hne
    unfold wpQuiet at h1
    rw [if_neg (by rw [hw]; exact Bool.false_ne_true),ho] at h1
    exact h1
def flowB (ops : Array Oper) (m : List Bool) (zs : List Nat) : Bool:=
 decide (m.length + 1 = ops.size) && (Region.noSelect ops && (Region.sinkB .any ops m.length && (Region.chainB .any ops m.length && (
  ((List.range ops.size).all fun j=>match ops[j]? with | some oj=>oj.after.all (fun e=>!Region.binds .any e || decide (e.on < j)) | none=>true) && (
  ((List.range m.length).all fun i=>(List.range m.length).all fun j=>decide (i = j) || (Region.waitsFor .any ops j i || (Region.waitsFor .any ops i j || (match ops[i]?,ops[j]? with | some oi,some oj=>oi.apart ops oj | _,_=>true)))) && (
  ((idxB true 0 m).all fun j=>zs.all fun i=>!Region.waitsFor .any ops j i) && (
  (zs.all fun i=>match ops[i]? with | some o=>o.guard.isNone | none=>true) && decide (idxB false 0 m = zs))))))))
theorem flowOK_of {ops : Array Oper} {m : List Bool} {zs : List Nat} (h : flowB ops m zs = true) : FlowOK ops m.length zs:=by
 simp only [flowB,Bool.and_eq_true,decide_eq_true_eq,List.all_eq_true,List.mem_range,Bool.or_eq_true,Bool.not_eq_true'] at h
 obtain ⟨h1,h2,h3,h4,h5,h6,h7,h8,rfl⟩:=h
 have hlt : ∀ (j : Nat) (oj : Oper),ops[j]? = some oj -> j < ops.size:=fun j oj hj=>(Array.getElem?_eq_some_iff.1 hj).1
 refine ⟨h1,h2,h3,h4,fun j oj hj e he hbd=>?_,fun i j oi oj hi hj hne hoi hoj hji hij=>?_,fun j hj hjz i hi=>?_,fun i hi=>⟨?_,fun o ho=>?_⟩⟩
 ·have:=h5 j (hlt j oj hj)
  rw [hj] at this
  simp only [Array.all_eq_true',decide_eq_true_eq,Bool.or_eq_true,Bool.not_eq_true'] at this
  rcases this e he with h0 | h0
  ·rw [hbd] at h0; cases h0
  ·exact h0
 ·rcases h6 i hi j hj with h | h | h | h
  ·exact absurd h hne
  ·rw [h] at hji; cases hji
  ·rw [h] at hij; cases hij
  ·rw [hoi,hoj] at h; exact h
 ·refine h7 j ?_ i hi
  rw [mem_idx]
  refine ⟨Nat.zero_le _,?_⟩
  rw [mem_idx] at hjz
  rw [Nat.sub_zero] at hjz ⊢
  have hv : m[j]? = some m[j]:=List.getElem?_eq_getElem hj
  cases hb : m[j] with
  | true=>rw [hv,hb]
  | false=>exact absurd ⟨Nat.zero_le _,by rw [hv,hb]⟩ hjz
 ·have:=((mem_idx m 0).1 hi).2
  rw [Nat.sub_zero] at this
  exact (List.getElem?_eq_some_iff.1 this).1
 ·have:=h8 i hi
  rw [ho] at this
  simpa using this
theorem wp_region_flowZ {P : Program} {C : World -> Prop} {id : Nat} {Q : Exit -> Act -> World -> Prop} {a : Act} {w : World} {l : List Oper} (m : List Bool) (zs : List Nat) (hm : P.follows .mixedOrders = true) (hB : flowB l.toArray m zs = true)
  (hd : dstsOK a.tmps.size (pickB true m l) = true) (hC : ∀ w1,Below w.heap.size w w1 -> C w1) (A : Act)
  (hq : ∀ S,Grows S -> (∀ w,S w -> C w) -> Nonempty (UpsC S) -> wpQuiet P l.toArray (fun w'=>∃ u : UpsC S,w' = u.wld) (fun a'=>a' = A) (pickB true m l) a)
  (hT : mkZ P l.toArray Q C m.length zs.length zs A w) : (Code.region id l.toArray true).wp P Q a w:=by
 have F:=flowOK_of hB
 have hzs : idxB false 0 m = zs:=by
  simp only [flowB,Bool.and_eq_true,decide_eq_true_eq] at hB
  exact hB.2.2.2.2.2.2.2.2
 have hsz : m.length + 1 = l.length:=by have:=F.size; simpa using this
 have hd0 : Below w.heap.size w { w with drawn:=w.drawn + 1 }:=(Below.refl _ _).drew
 refine wp_region_any hm ?_
 have hr:=runQ_of (P:=P) (A:=A) w hC m l 0 a (fun j=>by simp) (by omega) hd hq
 have inv0 : HeadInv .any l.toArray m.length (Array.replicate l.toArray.size false):=
  ⟨by simp,fun j oj _ hl=>(by rw [getD_replicate_false] at hl; cases hl),fun t _ ht=>getD_in (by simpa using ht) (getD_replicate_false _ _)⟩
 have hlen:=idx_len m 0
 rw [hzs] at hlen
 have H:=flow_any (Q:=Q) (C:=C) F ((idxB true 0 m).length + zs.length) (idxB true 0 m) zs (Array.replicate l.toArray.size false) a A { w with drawn:=w.drawn + 1 } rfl inv0 (idx_pair true m 0)
  (fun j hj=>by
   have h1:=((mem_idx m 0).1 hj).2
   rw [Nat.sub_zero] at h1
   refine ⟨(List.getElem?_eq_some_iff.1 h1).1,fun h2=>?_⟩
   rw [<- hzs,mem_idx,Nat.sub_zero,h1] at h2
   simp at h2)
  (by rw [<- hzs]; exact (idx_pair false m 0).imp Nat.ne_of_lt) (fun j hj=>hj)
  (fun j hj=>by
   have h1 : (Array.replicate l.toArray.size false).getD j true = false:=getD_in (by simp; omega) (getD_replicate_false _ _)
   rw [h1,<- hzs,mem_idx,mem_idx,Nat.sub_zero]
   have hv : m[j]? = some m[j]:=List.getElem?_eq_getElem hj
   rw [hv]
   cases m[j] <;> simp)
  hr (fun w2 h2=>hC w2 (hd0.trans (h2.mono hd0.size))) (hT.up hd0)
 rw [hlen,hsz] at H
 exact H
theorem wpIn_region_flowZ {P : Program} {C : World -> Prop} {id : Nat} {Q : Exit -> Act -> World -> Prop} {a : Act} {w : World} {l : List Oper} {lp np : Nat} (m : List Bool) (zs : List Nat) (hm : P.follows .mixedOrders = true) (hB : flowB l.toArray m zs = true)
  (hd : dstsOK a.tmps.size (pickB true m l) = true) (hC : ∀ w1,Below w.heap.size w w1 -> C w1) (A : Act)
  (hq : ∀ S,Grows S -> (∀ w,S w -> C w) -> Nonempty (UpsC S) -> wpQuiet P l.toArray (fun w'=>∃ u : UpsC S,w' = u.wld) (fun a'=>a' = A) (pickB true m l) a)
  (hdf : noDefB l.toArray = true) (hQ : ¬ LetsOut Q) (hT : mkZ P l.toArray Q C m.length zs.length zs A w) : (Code.region id l.toArray true).wpIn (Fence.wide.inRound lp) np P Q a w:=by
 have F:=flowOK_of hB
 have hzs : idxB false 0 m = zs:=by
  simp only [flowB,Bool.and_eq_true,decide_eq_true_eq] at hB
  exact hB.2.2.2.2.2.2.2.2
 have hsz : m.length + 1 = l.length:=by have:=F.size; simpa using this
 have hd0 : Below w.heap.size w { w with drawn:=w.drawn + 1 }:=(Below.refl _ _).drew
 refine wpIn_region_of_any hm hdf hQ ?_
 have hr:=runQ_of (P:=P) (A:=A) w hC m l 0 a (fun j=>by simp) (by omega) hd hq
 have inv0 : HeadInv .any l.toArray m.length (Array.replicate l.toArray.size false):=
  ⟨by simp,fun j oj _ hl=>(by rw [getD_replicate_false] at hl; cases hl),fun t _ ht=>getD_in (by simpa using ht) (getD_replicate_false _ _)⟩
 have hlen:=idx_len m 0
 rw [hzs] at hlen
 have H:=flow_any (Q:=Q) (C:=C) F ((idxB true 0 m).length + zs.length) (idxB true 0 m) zs (Array.replicate l.toArray.size false) a A { w with drawn:=w.drawn + 1 } rfl inv0 (idx_pair true m 0)
  (fun j hj=>by
   have h1:=((mem_idx m 0).1 hj).2
   rw [Nat.sub_zero] at h1
   refine ⟨(List.getElem?_eq_some_iff.1 h1).1,fun h2=>?_⟩
   rw [<- hzs,mem_idx,Nat.sub_zero,h1] at h2
   simp at h2)
  (by rw [<- hzs]; exact (idx_pair false m 0).imp Nat.ne_of_lt) (fun j hj=>hj)
  (fun j hj=>by
   have h1 : (Array.replicate l.toArray.size false).getD j true = false:=getD_in (by simp; omega) (getD_replicate_false _ _)
   rw [h1,<- hzs,mem_idx,mem_idx,Nat.sub_zero]
   have hv : m[j]? = some m[j]:=List.getElem?_eq_getElem hj
   rw [hv]
   cases m[j] <;> simp)
  hr (fun w2 h2=>hC w2 (hd0.trans (h2.mono hd0.size))) (hT.up hd0)
 rw [hlen,hsz] at H
 exact H
def mkL (P : Program) (ops : Array Oper) (Q : Exit -> Act -> World -> Prop) (C : World -> Prop) (last : Oper) : List Oper -> Act -> World -> Prop
 | [],a,w=>∀ w1,Below w.heap.size w w1 -> wpList P ops Q [last] a w1
 | o :: r,a,w=>∀ w1,Below w.heap.size w w1 -> Made1 P o a w1 fun v w'=>(∀ w2,Below w'.heap.size w' w2 -> C w2) /\ mkL P ops Q C last r (a.put o.dst v) w'
def seqZ (ops : Array Oper) : List Nat -> Bool
 | []=>true
 | i :: r=>r.all (fun j=>j == i || !readyZ ops (i :: r) j) && seqZ ops r
theorem Made1.mono {P : Program} {o : Oper} {a : Act} {w : World} {N N' : Value -> World -> Prop} (h : Made1 P o a w N) (hN : ∀ v w',N v w' -> N' v w') : Made1 P o a w N':=by
 unfold Made1 at *
 generalize (execOp a.eval o).run P w = r at *
 cases r with
 | ok x w'=>
  cases x <;> simp only at h ⊢
  case value v=>exact hN _ _ h
  case skip=>exact hN _ _ h
  case enter f args=>exact h.mono fun e w'' ⟨v,he,hn⟩=>⟨v,he,hN _ _ hn⟩
  case row row args=>exact Rows.mono h hN
 | halt x w'=>exact h
theorem mkZ_of {P : Program} {ops : Array Oper} {C : World -> Prop} {Q : Exit -> Act -> World -> Prop} {n : Nat} {last : Oper} (hlast : ops[n]? = some last) : ∀ (zs : List Nat) (os : List Oper) (a : Act) (w : World),os.length = zs.length -> (∀ j,j < zs.length -> (os[j]? : Option Oper) = ops[zs.getD j 0]?) -> seqZ ops zs = true ->
  mkL P ops Q C last os a w -> mkZ P ops Q C n zs.length zs a w
 | [],os,a,w,hl,_,_,h=>by
  obtain rfl : os = []:=List.eq_nil_of_length_eq_zero (by simpa using hl)
  intro w1 hb
  have:=h w1 hb
  unfold wpOp
  simp only [hlast]
  unfold wpList at this
  exact this
 | i :: r,[],a,w,hl,_,_,_=>by simp at hl
 | i :: r,o :: os,a,w,hl,hops,hB,h=>by
  intro j hj hrd w1 hb
  simp only [seqZ,Bool.and_eq_true,List.all_eq_true,Bool.or_eq_true,beq_iff_eq,Bool.not_eq_true'] at hB
  have hji : j = i:=by
   rcases List.mem_cons.1 hj with h | h
   ·exact h
   ·rcases hB.1 j h with h2 | h2
    ·exact h2
    ·rw [h2] at hrd; cases hrd
  subst hji
  have h0 : ops[j]? = some o:=by have:=hops 0 (by simp); simpa using this.symm
  refine ⟨o,h0,(h w1 hb).mono fun v w' ⟨h1,h2⟩=>⟨h1,?_⟩⟩
  rw [List.erase_cons_head]
  exact mkZ_of hlast r os _ w' (by simpa using hl) (fun k hk=>by have:=hops (k + 1) (by simpa using hk); simpa using this) hB.2 h2
theorem mkZ_two {P : Program} {ops : Array Oper} {C : World -> Prop} {Q : Exit -> Act -> World -> Prop} {n i j : Nat} {r : List Nat} {last oi oj : Oper} {os : List Oper} {a : Act} {w : World} (hlast : ops[n]? = some last) (hi : ops[i]? = some oi) (hj : ops[j]? = some oj) (hij : i ≠ j)
  (hr : r.all (fun k=>!readyZ ops (i :: j :: r) k) = true) (hl : os.length = r.length) (hops : ∀ k,k < r.length -> (os[k]? : Option Oper) = ops[r.getD k 0]?) (hB1 : seqZ ops (j :: r) = true) (hB2 : seqZ ops (i :: r) = true)
  (h1 : mkL P ops Q C last (oi :: oj :: os) a w) (h2 : mkL P ops Q C last (oj :: oi :: os) a w) : mkZ P ops Q C n (i :: j :: r).length (i :: j :: r) a w:=by
 intro k hk hrd w1 hb
 simp only [List.all_eq_true,Bool.not_eq_true'] at hr
 rcases List.mem_cons.1 hk with rfl | hk
 ·refine ⟨oi,hi,(h1 w1 hb).mono fun v w' ⟨g1,g2⟩=>⟨g1,?_⟩⟩
  rw [List.erase_cons_head]
  exact mkZ_of hlast (j :: r) (oj :: os) _ w' (by simp [hl]) (fun k hk=>by
   cases k with
   | zero=>simpa using hj.symm
   | succ k=>have:=hops k (by simpa using hk); simpa using this) hB1 g2
 ·rcases List.mem_cons.1 hk with rfl | hk
  ·refine ⟨oj,hj,(h2 w1 hb).mono fun v w' ⟨g1,g2⟩=>⟨g1,?_⟩⟩
   rw [List.erase_cons_tail (by simpa using hij),List.erase_cons_head]
   exact mkZ_of hlast (i :: r) (oi :: os) _ w' (by simp [hl]) (fun k hk=>by
    cases k with
    | zero=>simpa using hi.symm
    | succ k=>have:=hops k (by simpa using hk); simpa using this) hB2 g2
  ·rw [hr k hk] at hrd; cases hrd
theorem wp_region_flow {P : Program} {C : World -> Prop} {id : Nat} {Q : Exit -> Act -> World -> Prop} {a : Act} {w : World} {l : List Oper} (m : List Bool) (zs : List Nat) (last : Oper) (hm : P.follows .mixedOrders = true) (hB : flowB l.toArray m zs = true) (hS : seqZ l.toArray zs = true)
  (hl : l[m.length]? = some last) (hos : (zs.map fun i=>l[i]?) = (pickB false m l).map some)
  (hd : dstsOK a.tmps.size (pickB true m l) = true) (hC : ∀ w1,Below w.heap.size w w1 -> C w1) (A : Act)
  (hq : ∀ S,Grows S -> (∀ w,S w -> C w) -> Nonempty (UpsC S) -> wpQuiet P l.toArray (fun w'=>∃ u : UpsC S,w' = u.wld) (fun a'=>a' = A) (pickB true m l) a)
  (hT : mkL P l.toArray Q C last (pickB false m l) A w) : (Code.region id l.toArray true).wp P Q a w:=by
 refine wp_region_flowZ m zs hm hB hd hC A hq (mkZ_of (by simpa using hl) zs _ A w ?_ ?_ hS hT)
 ·have:=congrArg List.length hos
  simpa using this.symm
 ·intro j hj
  have h1 : (zs.map fun i=>l[i]?)[j]? = ((pickB false m l).map some)[j]?:=by rw [hos]
  rw [List.getElem?_map,List.getElem?_map,List.getElem?_eq_getElem hj] at h1
  rw [getD_at _ _ _ hj]
  simp only [Option.map_some] at h1
  cases h2 : (pickB false m l)[j]? with
  | none=>rw [h2] at h1; cases h1
  | some o=>
   rw [h2] at h1
   simp only [Option.map_some,Option.some.injEq] at h1
   simp [h1]
theorem wpIn_region_flow {P : Program} {C : World -> Prop} {id : Nat} {Q : Exit -> Act -> World -> Prop} {a : Act} {w : World} {l : List Oper} {lp np : Nat} (m : List Bool) (zs : List Nat) (last : Oper) (hm : P.follows .mixedOrders = true) (hB : flowB l.toArray m zs = true) (hS : seqZ l.toArray zs = true)
  (hl : l[m.length]? = some last) (hos : (zs.map fun i=>l[i]?) = (pickB false m l).map some)
  (hd : dstsOK a.tmps.size (pickB true m l) = true) (hC : ∀ w1,Below w.heap.size w w1 -> C w1) (A : Act)
  (hq : ∀ S,Grows S -> (∀ w,S w -> C w) -> Nonempty (UpsC S) -> wpQuiet P l.toArray (fun w'=>∃ u : UpsC S,w' = u.wld) (fun a'=>a' = A) (pickB true m l) a)
  (hdf : noDefB l.toArray = true) (hQ : ¬ LetsOut Q) (hT : mkL P l.toArray Q C last (pickB false m l) A w) : (Code.region id l.toArray true).wpIn (Fence.wide.inRound lp) np P Q a w:=by
 refine wpIn_region_flowZ m zs hm hB hd hC A hq hdf hQ (mkZ_of (by simpa using hl) zs _ A w ?_ ?_ hS hT)
 ·have:=congrArg List.length hos
  simpa using this.symm
 ·intro j hj
  have h1 : (zs.map fun i=>l[i]?)[j]? = ((pickB false m l).map some)[j]?:=by rw [hos]
  rw [List.getElem?_map,List.getElem?_map,List.getElem?_eq_getElem hj] at h1
  rw [getD_at _ _ _ hj]
  simp only [Option.map_some] at h1
  cases h2 : (pickB false m l)[j]? with
  | none=>rw [h2] at h1; cases h1
  | some o=>
   rw [h2] at h1
   simp only [Option.map_some,Option.some.injEq] at h1
   simp [h1]
theorem made_of {P : Program} {ops : Array Oper} {o : Oper} {a : Act} {w : World} {K : Act -> World -> Prop} (hg : o.guard = none) (h : ∀ Q' : Exit -> Act -> World -> Prop,(∀ a' w',a'.defers = a.defers -> K a' w' -> Q' .normal a' w') -> wpList P ops Q' [o] a w) :
  Made1 P o a w fun v w'=>K (a.put o.dst v) w':=by
 have h1:=h (fun e a' w'=>e = .normal /\ (a'.defers = a.defers /\ K a' w')) (fun a' w' h1 h2=>⟨rfl,h1,h2⟩)
 unfold wpList at h1
 have hw : Region.wanted o (yielded ops a.tmps) = true:=by unfold Region.wanted; rw [hg]
 rw [if_pos hw] at h1
 have hno : ¬ LetsOut (fun (e : Exit) (a' : Act) (w' : World)=>e = .normal /\ (a'.defers = a.defers /\ K a' w')):=fun hl=>by
  obtain ⟨_,_,h2,_⟩:=hl
  cases h2
 rcases h1 with h1 | ⟨_,h1⟩
 ·unfold Oper.wp at h1
  unfold Made1
  generalize (execOp a.eval o).run P w = r at *
  cases r with
  | ok x w'=>
   cases x <;> simp only [Oper.upon] at h1 ⊢
   case value v=>exact h1.2.2
   case skip=>exact h1.2.2
   case defer d=>
    have:=h1.2.1
    cases ho : o.dst <;> rw [ho] at this <;> simp [Act.put] at this
   case enter f args=>
    refine h1.mono fun e w'' he=>?_
    cases e with
    | returned v=>exact ⟨v,rfl,he.2.2⟩
    | panicked c=>exact absurd he.1 (by simp)
    | outgrown=>exact absurd he hno
   case row row args=>exact Rows.mono h1 fun v w'' he=>he.2.2
  | halt x w'=>cases x <;> simp only [Oper.upon] at h1 <;> exact absurd h1.1 (by simp)
 ·exact absurd h1 hno
theorem mkL_cons {P : Program} {ops : Array Oper} {C : World -> Prop} {Q : Exit -> Act -> World -> Prop} {last o : Oper} {r : List Oper} {a : Act} {w : World} (hg : o.guard = none)
  (h : ∀ w1,Below w.heap.size w w1 -> ∀ Q' : Exit -> Act -> World -> Prop,(∀ a' w',a'.defers = a.defers -> (∀ w2,Below w'.heap.size w' w2 -> C w2) -> mkL P ops Q C last r a' w' -> Q' .normal a' w') -> wpList P ops Q' [o] a w1) :
  mkL P ops Q C last (o :: r) a w:=fun w1 hb=>
 made_of (K:=fun a' w'=>(∀ w2,Below w'.heap.size w' w2 -> C w2) /\ mkL P ops Q C last r a' w') hg fun Q' hQ=>h w1 hb Q' fun a' w' h1 h2 h3=>hQ a' w' h1 ⟨h2,h3⟩
end
section
open Go Go.RowKit
theorem readyZ_sub {ops : Array Oper} {rz rs : List Nat} {j : Nat} (h : readyZ ops rz j = true) (hs : ∀ x ∈ rs,x ∈ rz) : readyZ ops rs j = true:=by
 unfold readyZ at *
 split at h
 ·rename_i o _
  rw [Array.all_eq_true] at h ⊢
  intro x hx
  have:=h x hx
  simp only [Bool.or_eq_true,Bool.not_eq_true',List.contains_eq_mem,decide_eq_false_iff_not] at this ⊢
  exact this.imp id fun g y=>g (hs _ y)
 ·cases h
theorem mkZ_pure {P : Program} {ops : Array Oper} {C : World -> Prop} {Q : Exit -> Act -> World -> Prop} {n : Nat} (hsel : Region.noSelect ops = true) {i : Nat} {o : Oper} (ho : ops[i]? = some o) : ∀ (k : Nat) (rz : List Nat) (a : Act) (w : World) (v : Value),rz.length = k + 1 -> rz.Nodup -> i ∈ rz -> readyZ ops rz i = true ->
  (∀ w',(execOp a.eval o).run P w' = .ok (.value v) w') -> (∀ j ∈ rz,j ≠ i -> readyZ ops [i] j = true -> ∀ oj,ops[j]? = some oj -> o.apart ops oj = true) -> (∀ w2,Below w.heap.size w w2 -> C w2) ->
  mkZ P ops Q C n k (rz.erase i) (a.put o.dst v) w -> mkZ P ops Q C n (k + 1) rz a w:=by
 intro k
 induction k with
 | zero=>
  intro rz a w v hl hnd hi hri hv hap hC h j hj hr w1 hb
  have hji : j = i:=by
   match rz,hl with
   | [x],_=>
    rw [mS.1 hj,mS.1 hi]
  subst hji
  refine ⟨o,ho,?_⟩
  unfold Made1
  rw [hv w1]
  exact ⟨fun w2 h2=>hC w2 (hb.trans (h2.mono hb.size)),h.up hb⟩
 | succ k ih=>
  intro rz a w v hl hnd hi hri hv hap hC h j hj hr w1 hb
  by_cases hji : j = i
  ·subst hji
   refine ⟨o,ho,?_⟩
   unfold Made1
   rw [hv w1]
   exact ⟨fun w2 h2=>hC w2 (hb.trans (h2.mono hb.size)),h.up hb⟩
  ·have hje : j ∈ rz.erase i:=(hnd.mem_erase_iff).2 ⟨hji,hj⟩
   obtain ⟨oj,hoj,hm⟩:=h j hje (readyZ_sub hr fun x hx=>List.mem_of_mem_erase hx) w1 hb
   have ha:=hap j hj hji (readyZ_sub hr fun x hx=>by rw [mS.1 hx]; exact hi) oj hoj
   obtain ⟨a1,a2,a3⟩:=Oper.apart_spec ha
   refine ⟨oj,hoj,(hm.congr (execOp_put oj (fun cs b=>Region.noSelect_spec hsel j oj cs b hoj) a o.dst v a1).symm).mono fun v' w' ⟨g1,g2⟩=>⟨g1,?_⟩⟩
   refine ih (rz.erase j) (a.put oj.dst v') w' v (by rw [List.length_erase_of_mem hj,hl]; rfl) (hnd.erase j) ((hnd.mem_erase_iff).2 ⟨fun e=>hji e.symm,hi⟩) (readyZ_sub hri fun x hx=>List.mem_of_mem_erase hx) (fun w2=>?_) (fun x hx hxi hr oj' hoj'=>hap x (List.mem_of_mem_erase hx) hxi hr oj' hoj') g1 ?_
   ·rw [execOp_put o (fun cs b=>Region.noSelect_spec hsel i o cs b ho) a oj.dst v' a3]
    exact hv w2
   ·rw [List.erase_comm,<- Act.put_comm a v v' a2]
    exact g2
def pureB (ops : Array Oper) (rz : List Nat) (i : Nat) : Bool:=
 Region.noSelect ops && (decide rz.Nodup && (decide (i ∈ rz) && (readyZ ops rz i && rz.all fun j=>decide (j = i) || (!readyZ ops [i] j || match ops[i]?,ops[j]? with | some o,some oj=>o.apart ops oj | _,_=>true))))
theorem mkZ_now {P : Program} {ops : Array Oper} {C : World -> Prop} {Q : Exit -> Act -> World -> Prop} {n k i : Nat} {o : Oper} (rz : List Nat) {a : Act} {w : World} (v : Value) (hB : pureB ops rz i = true) (hl : rz.length = k + 1) (ho : ops[i]? = some o)
  (hv : ∀ w',(execOp a.eval o).run P w' = .ok (.value v) w') (hC : ∀ w2,Below w.heap.size w w2 -> C w2) (h : mkZ P ops Q C n k (rz.erase i) (a.put o.dst v) w) : mkZ P ops Q C n (k + 1) rz a w:=by
 unfold pureB at hB
 simp only [Bool.and_eq_true,decide_eq_true_eq,List.all_eq_true,Bool.or_eq_true,Bool.not_eq_true'] at hB
 obtain ⟨h1,h2,h3,h4,h5⟩:=hB
 refine mkZ_pure h1 ho k rz a w v hl h2 h3 h4 hv (fun j hj hji hr oj hoj=>?_) hC h
 rcases h5 j hj with h6 | h6 | h6
 ·exact absurd h6 hji
 ·rw [hr] at h6; cases h6
 ·rw [ho,hoj] at h6; exact h6
end
end Go.Proofs.YteclineblddpbaaGreatDoorR
