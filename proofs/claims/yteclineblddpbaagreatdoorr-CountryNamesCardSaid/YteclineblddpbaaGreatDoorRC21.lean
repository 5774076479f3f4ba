import Derived.Test.YteclineblddpbaaGreatDoorRC01
import Derived.Test.YteclineblddpbaaGreatDoorRC16
import Derived.Test.YteclineblddpbaaGreatDoorRC17
import Derived.Test.YteclineblddpbaaGreatDoorRC18
import Derived.Test.YteclineblddpbaaGreatDoorRC20
import Derived.TacticsIn
import Derived.Laws.ResultCell
import Derived.Maps.OwnIn
set_option linter.all false
set_option maxRecDepth 100000
set_option maxHeartbeats 0
namespace Go.Proofs.YteclineblddpbaaGreatDoorR
section
open Go Go.RowKit
section
variable {P : Program} {ops : Array Oper} {Q : Exit -> Act -> World -> Prop} {C : World -> Prop} {T : Act -> World -> Prop}
def mkT (P : Program) (ops : Array Oper) (C : World -> Prop) (T : Act -> World -> Prop) : Nat -> List Nat -> Act -> World -> Prop
 | 0,_,a,w=>∀ w1,Below w.heap.size w w1 -> T a w1
 | k + 1,rz,a,w=>∀ i ∈ rz,readyZ ops rz i = true -> ∀ w1,Below w.heap.size w w1 -> ∃ o,ops[i]? = some o /\ Made1 P o a w1 fun v w'=>(∀ w2,Below w'.heap.size w' w2 -> C w2) /\ mkT P ops C T k (rz.erase i) (a.put o.dst v) w'
theorem mkT.up {k : Nat} {rz : List Nat} {a : Act} {w w' : World} (h : mkT P ops C T k rz a w) (hb : Below w.heap.size w w') : mkT P ops C T k rz a w':=by
 cases k with
 | zero=>exact fun w1 h1=>h w1 (hb.trans (h1.mono hb.size))
 | succ k=>exact fun i hi hr w1 h1=>h i hi hr w1 (hb.trans (h1.mono hb.size))
structure FlowT (ops : Array Oper) (n : Nat) (zs : List Nat) : Prop where
 size : n < ops.size
 sel : Region.noSelect ops = true
 sink : Region.sinkB .any ops n = true
 chain : Region.chainB .any ops n = true
 low : ∀ (j : Nat) (oj : Oper),ops[j]? = some oj -> ∀ e ∈ oj.after,Region.binds .any e = true -> e.on < j
 ap : ∀ (i j : Nat) (oi oj : Oper),i < n -> j < n -> i ≠ j -> ops[i]? = some oi -> ops[j]? = some oj -> Region.waitsFor .any ops j i = false -> Region.waitsFor .any ops i j = false -> oi.apart ops oj = true
 qz : ∀ j,j < n -> j ∉ zs -> ∀ i ∈ zs,Region.waitsFor .any ops j i = false
 zg : ∀ i ∈ zs,i < n /\ ∀ o : Oper,ops[i]? = some o -> o.guard = none
theorem flowT_any {n : Nat} {zs : List Nat} (F : FlowT ops n zs) {G : Nat -> Array Bool -> Act -> World -> Prop} (hG0 : ∀ b a w,HeadInv .any ops n b -> (∀ j,j < n -> b.getD j false = true) -> (∀ w1,Below w.heap.size w w1 -> T a w1) -> G 0 b a w)
  (hGs : ∀ m b a w,Region.ready .any ops b ≠ [] -> (∀ i ∈ Region.ready .any ops b,wpOp P ops Q i (G m (b.setIfInBounds i true)) a w) -> G (m + 1) b a w) : ∀ (m : Nat) (r rz : List Nat) (b : Array Bool) (a A : Act) (w : World),r.length + rz.length = m -> HeadInv .any ops n b -> r.Pairwise (· < ·) -> (∀ j ∈ r,j < n /\ j ∉ zs) ->
  rz.Nodup -> (∀ j ∈ rz,j ∈ zs) -> (∀ j,j < n -> (b.getD j true = false ↔ j ∈ r \/ j ∈ rz)) -> runQ P ops C r a A -> (∀ w2,Below w.heap.size w w2 -> C w2) -> mkT P ops C T rz.length rz A w -> G m b a w
 | 0,r,rz,b,a,A,w,hm,inv,_,_,_,_,hun,hq,_,hz=>by
  obtain rfl : r = []:=List.eq_nil_of_length_eq_zero (by omega)
  obtain rfl : rz = []:=List.eq_nil_of_length_eq_zero (by omega)
  obtain rfl : a = A:=hq
  exact hG0 b a w inv (fun j hj=>by
   have h1 : ¬ b.getD j true = false:=fun h=>by rcases (hun j hj).1 h with h | h <;> cases h
   cases h2 : b.getD j false with
   | true=>rfl
   | false=>exact absurd (getD_in (by rw [inv.size]; have:=F.size; omega) h2) h1) hz
 | m + 1,r,rz,b,a,A,w,hm,inv,hpw,hr,hnd,hrz,hun,hq,hC,hz=>by
  have hn : n < ops.size:=F.size
  have hex : ∃ i0,i0 < n /\ b.getD i0 true = false:=by
   cases r with
   | cons i _=>exact ⟨i,(hr i (List.mem_cons_self ..)).1,(hun i (hr i (List.mem_cons_self ..)).1).2 (.inl (List.mem_cons_self ..))⟩
   | nil=>cases rz with
    | cons i _=>
     have:=(F.zg i (hrz i (List.mem_cons_self ..))).1
     exact ⟨i,this,(hun i this).2 (.inr (List.mem_cons_self ..))⟩
    | nil=>simp at hm
  obtain ⟨i0,hi0,hu0⟩:=hex
  obtain ⟨j0,hj0⟩:=exists_ready F.low hn inv.size i0 i0 rfl hi0 hu0
  refine hGs m b a w (fun h0=>(by rw [h0] at hj0; cases hj0)) fun i hi=>?_
  have hin : i < n:=by
   rcases Nat.lt_or_ge i n with h | h
   ·exact h
   ·exact absurd hi (tail_waits F.sink F.chain hn inv _ i0 rfl hi0 hu0 i h)
  obtain ⟨hiu,oi,hoi,hall⟩:=mem_ready.1 hi
  have hunset : ∀ (r' rz' : List Nat),(∀ j,j ≠ i -> ((j ∈ r' \/ j ∈ rz') ↔ (j ∈ r \/ j ∈ rz))) -> i ∉ r' -> i ∉ rz' -> ∀ j,j < n -> ((b.setIfInBounds i true).getD j true = false ↔ j ∈ r' \/ j ∈ rz'):=fun r' rz' h1 h2 h3 j hj=>by
   rcases Decidable.em (i = j) with rfl | hne
   ·have hsz : i < b.size:=by rw [inv.size]; omega
    simp [hsz,h2,h3]
   ·rw [getD_set_ne true hne,hun j hj,h1 j (Ne.symm hne)]
  rcases (hun i hin).1 hiu with hir | hir
  ·obtain ⟨r1,r2,rfl⟩:=List.append_of_mem hir
   have hlt1 : ∀ j ∈ r1,j < i:=fun j hj=>(List.pairwise_append.1 hpw).2.2 j hj i (List.mem_cons_self ..)
   have hgt2 : ∀ j ∈ r2,i < j:=fun j hj=>(List.pairwise_cons.1 (List.pairwise_append.1 hpw).2.1).1 j hj
   have hap1 : ∀ j ∈ r1,∀ oj,ops[j]? = some oj -> oi.apart ops oj = true:=fun j hj oj hoj=>by
    have hjn:=(hr j (List.mem_append_left _ hj)).1
    refine F.ap i j oi oj hin hjn (by have:=hlt1 j hj; omega) hoi hoj ?_ (unlisted_wait hi ((hun j hjn).2 (.inl (List.mem_append_left _ hj))))
    cases h : Region.waitsFor .any ops j i with
    | false=>rfl
    | true=>
     obtain ⟨o',ho',e,he,hbd,hon⟩:=Region.waitsFor_spec h
     have:=F.low j o' ho' e he hbd
     have:=hlt1 j hj
     omega
   obtain ⟨v,hy,hq'⟩:=runQ_pull F.sel hoi r1 a hap1 hq
   have hsub : List.Sublist (r1 ++ r2) (r1 ++ i :: r2):=List.Sublist.append (List.Sublist.refl _) (List.sublist_cons_self ..)
   have next : ∀ w',Below w.heap.size w w' -> G m (b.setIfInBounds i true) (a.put oi.dst v) w':=fun w' hb=>by
    refine flowT_any F hG0 hGs m (r1 ++ r2) rz _ _ A w' (by simp at hm ⊢; omega) (inv.set hi hin) (hpw.sublist hsub) (fun j hj=>hr j (hsub.subset hj)) hnd hrz (hunset _ _ ?_ ?_ ?_) hq' (fun w2 h2=>hC w2 (hb.trans (h2.mono hb.size))) (mkT.up hz hb)
    ·intro j hj
     simp [hj]
    ·intro h
     rcases List.mem_append.1 h with h | h
     ·have:=hlt1 i h; omega
     ·have:=hgt2 i h; omega
    ·intro h
     exact (hr i hir).2 (hrz i h)
   unfold wpOp
   simp only [hoi]
   rcases hy with ⟨hw,hv⟩ | ⟨hw,rfl⟩
   ·rw [if_pos hw]
    refine .inl (Oper.wp_of_quiet (C:=CS1 fun w'=>Below w.heap.size w w') ⟨⟨w,Below.refl _ _⟩,rfl⟩ (K:=fun a'=>a' = a.put oi.dst v) ?_ ⟨v,hv _ (fun _ _ h1 h2=>h1.trans (h2.mono h1.size)) hC,rfl⟩)
    rintro a' w' ⟨u,rfl⟩ rfl
    exact next _ u.mem
   ·rw [if_neg (by rw [hw]; exact Bool.false_ne_true)]
    exact next w (Below.refl _ _)
  ·have hapz : ∀ j ∈ r,∀ oj,ops[j]? = some oj -> oi.apart ops oj = true:=fun j hj oj hoj=>by
    have hjn:=hr j hj
    exact F.ap i j oi oj hin hjn.1 (fun e=>hjn.2 (e ▸ hrz i hir)) hoi hoj (F.qz j hjn.1 hjn.2 i (hrz i hir)) (unlisted_wait hi ((hun j hjn.1).2 (.inl hj)))
   have hlen:=List.length_erase_of_mem hir
   have hpos : 0 < rz.length:=List.length_pos_of_mem hir
   obtain ⟨k,hk⟩ : ∃ k,rz.length = k + 1:=⟨rz.length - 1,by omega⟩
   rw [hk] at hz
   have hrd : readyZ ops rz i = true:=by
    unfold readyZ
    simp only [hoi,Array.all_eq_true',Bool.or_eq_true,Bool.not_eq_true']
    intro e he
    cases hb : Region.binds .any e with
    | false=>exact .inl rfl
    | true=>
     refine .inr ?_
     have h1:=hall e he hb
     cases hc : rz.contains e.on with
     | false=>rfl
     | true=>
      have hmem : e.on ∈ rz:=by simpa using hc
      have hlt:=(F.zg _ (hrz _ hmem)).1
      have h2:=(hun _ hlt).2 (.inr hmem)
      rw [getD_both h2] at h1
      cases h1
   obtain ⟨o,ho,hmade⟩:=hz i hir hrd w (Below.refl _ _)
   obtain rfl : o = oi:=Option.some.inj (ho.symm.trans hoi)
   have hmade':=hmade.congr (runQ_exec F.sel hoi r a hapz hq).symm
   have hw : Region.wanted o (yielded ops a.tmps) = true:=by unfold Region.wanted; rw [(F.zg i (hrz i hir)).2 o ho]
   unfold wpOp
   simp only [hoi]
   rw [if_pos hw]
   refine .inl (hmade'.wp ?_)
   rintro v w' ⟨hC',hz'⟩
   have hke : (rz.erase i).length = k:=by omega
   refine flowT_any F hG0 hGs m r (rz.erase i) _ _ (A.put o.dst v) w' (by omega) (inv.set hi hin) hpw hr (hnd.erase i) (fun j hj=>hrz j (List.mem_of_mem_erase hj)) (hunset _ _ ?_ ?_ ?_) (runQ_put F.sel r a hapz hq) hC' (by rw [hke]; exact hz')
   ·intro j hj
    rw [hnd.mem_erase_iff]
    simp [hj]
   ·exact fun h=>(hr i h).2 (hrz i hir)
   ·rw [hnd.mem_erase_iff]; simp
end
def flowTB (ops : Array Oper) (m : List Bool) (zs : List Nat) : Bool:=
 decide (m.length < ops.size) && (Region.noSelect ops && (Region.sinkB .any ops m.length && (Region.chainB .any ops m.length && (
  ((List.range ops.size).all fun j=>match ops[j]? with | some oj=>oj.after.all (fun e=>!Region.binds .any e || decide (e.on < j)) | none=>true) && (
  ((List.range m.length).all fun i=>(List.range m.length).all fun j=>decide (i = j) || (Region.waitsFor .any ops j i || (Region.waitsFor .any ops i j || (match ops[i]?,ops[j]? with | some oi,some oj=>oi.apart ops oj | _,_=>true)))) && (
  ((idxB true 0 m).all fun j=>zs.all fun i=>!Region.waitsFor .any ops j i) && (
  (zs.all fun i=>match ops[i]? with | some o=>o.guard.isNone | none=>true) && decide (idxB false 0 m = zs))))))))
theorem flowT_of {ops : Array Oper} {m : List Bool} {zs : List Nat} (h : flowTB ops m zs = true) : FlowT ops m.length zs:=by
 simp only [flowTB,Bool.and_eq_true,decide_eq_true_eq,List.all_eq_true,List.mem_range,Bool.or_eq_true,Bool.not_eq_true'] at h
 obtain ⟨h1,h2,h3,h4,h5,h6,h7,h8,rfl⟩:=h
 have hlt : ∀ (j : Nat) (oj : Oper),ops[j]? = some oj -> j < ops.size:=fun j oj hj=>(Array.getElem?_eq_some_iff.1 hj).1
 refine ⟨h1,h2,h3,h4,fun j oj hj e he hbd=>?_,fun i j oi oj hi hj hne hoi hoj hji hij=>?_,fun j hj hjz i hi=>?_,fun i hi=>⟨?_,fun o ho=>?_⟩⟩
 ·have:=h5 j (hlt j oj hj)
  rw [hj] at this
  simp only [Array.all_eq_true',decide_eq_true_eq,Bool.or_eq_true,Bool.not_eq_true'] at this
  rcases this e he with h0 | h0
  ·rw [hbd] at h0; cases h0
  ·exact h0
 ·rcases h6 i hi j hj with h | h | h | h
  ·exact absurd h hne
  ·rw [h] at hji; cases hji
  ·rw [h] at hij; cases hij
  ·rw [hoi,hoj] at h; exact h
 ·refine h7 j ?_ i hi
  rw [mem_idx]
  refine ⟨Nat.zero_le _,?_⟩
  rw [mem_idx] at hjz
  rw [Nat.sub_zero] at hjz ⊢
  have hv : m[j]? = some m[j]:=List.getElem?_eq_getElem hj
  cases hb : m[j] with
  | true=>rw [hv,hb]
  | false=>exact absurd ⟨Nat.zero_le _,by rw [hv,hb]⟩ hjz
 ·have:=((mem_idx m 0).1 hi).2
  rw [Nat.sub_zero] at this
  exact (List.getElem?_eq_some_iff.1 this).1
 ·have:=h8 i hi
  rw [ho] at this
  simpa using this
theorem wpAnyIn_of_seq {F : Fence} {n : Nat} {P : Program} {ops : Array Oper} {Q : Exit -> Act -> World -> Prop} : ∀ (l : List Oper) (k : Nat) (b : Array Bool) (a : Act) (w : World),(∀ j,l[j]? = ops[k + j]?) ->
  Region.seqB .any ops l.length k b = true -> wpListIn F n P ops Q l a w -> wpAnyIn F n P .any ops Q l.length b a w
 | [],_,_,_,_,_,hB,h=>⟨by simpa [Region.seqB] using hB,h⟩
 | o :: l,k,b,a,w,hl,hB,h=>by
  have h0 : ops[k]? = some o:=by simpa using (hl 0).symm
  simp only [List.length_cons,Region.seqB,Bool.and_eq_true,decide_eq_true_eq] at hB
  refine ⟨fun h1=>(by rw [hB.1] at h1; cases h1),fun i hi=>?_⟩
  rw [hB.1] at hi
  have hik : i = k:=by simpa using hi
  subst hik
  have hw : wpOpIn F n P ops Q i (wpListIn F n P ops Q l) a w:=by unfold wpOpIn; simp only [h0]; exact h
  exact wpOpIn_mono (fun a' w' h'=>wpAnyIn_of_seq l (i + 1) _ a' w' (fun j=>by have:=hl (j + 1); simpa [Nat.add_assoc,Nat.add_comm 1 j] using this) hB.2 h') hw
def headAll (n s : Nat) : Array Bool:=((List.range s).map fun j=>decide (j < n)).toArray
theorem headAll_of {ops : Array Oper} {n : Nat} {b : Array Bool} (inv : HeadInv .any ops n b) (h : ∀ j,j < n -> b.getD j false = true) : b = headAll n ops.size:=by
 apply Array.ext
 ·simp [headAll,inv.size]
 ·intro i h1 h2
  have hs : i < ops.size:=by rw [inv.size] at h1; exact h1
  simp only [headAll,gX,List.getElem_map,List.getElem_range]
  by_cases hi : i < n
  ·have:=h i hi
   simp only [Array.getD,h1,dite_true] at this
   simpa [hi] using this
  ·have:=inv.tail i (by omega) hs
   simp only [Array.getD,h1,dite_true] at this
   simpa [hi] using this
theorem wpIn_region_flowTZ {P : Program} {C : World -> Prop} {id : Nat} {Q : Exit -> Act -> World -> Prop} {a : Act} {w : World} {l : List Oper} {lp np : Nat} (m : List Bool) (zs : List Nat) (hm : P.follows .mixedOrders = true) (hB : flowTB l.toArray m zs = true) (hseq : Region.seqB .any l.toArray (l.drop m.length).length m.length (headAll m.length l.length) = true)
  (hd : dstsOK a.tmps.size (pickB true m l) = true) (hC : ∀ w1,Below w.heap.size w w1 -> C w1) (A : Act)
  (hq : ∀ S,Grows S -> (∀ w,S w -> C w) -> Nonempty (UpsC S) -> wpQuiet P l.toArray (fun w'=>∃ u : UpsC S,w' = u.wld) (fun a'=>a' = A) (pickB true m l) a)
  (hdf : noDefB l.toArray = true) (hQ : ¬ LetsOut Q) (hT : mkT P l.toArray C (fun a' w'=>wpListIn (Fence.wide.inRound lp) np P l.toArray Q (l.drop m.length) a' w') zs.length zs A w) : (Code.region id l.toArray true).wpIn (Fence.wide.inRound lp) np P Q a w:=by
 have F:=flowT_of hB
 have hzs : idxB false 0 m = zs:=by
  simp only [flowTB,Bool.and_eq_true,decide_eq_true_eq] at hB
  exact hB.2.2.2.2.2.2.2.2
 have hsz : m.length < l.length:=by have:=F.size; simpa using this
 have hd0 : Below w.heap.size w { w with drawn:=w.drawn + 1 }:=(Below.refl _ _).drew
 refine wpIn_region_any hm ?_
 have hr:=runQ_of (P:=P) (A:=A) w hC m l 0 a (fun j=>by simp) (by omega) hd hq
 have inv0 : HeadInv .any l.toArray m.length (Array.replicate l.toArray.size false):=
  ⟨by simp,fun j oj _ hl=>(by rw [getD_replicate_false] at hl; cases hl),fun t _ ht=>getD_in (by simpa using ht) (getD_replicate_false _ _)⟩
 have hlen:=idx_len m 0
 rw [hzs] at hlen
 have H:=flowT_any (P:=P) (Q:=Q) (C:=C) F (G:=fun k b a' w'=>wpAnyIn (Fence.wide.inRound lp) np P .any l.toArray Q (k + (l.drop m.length).length) b a' w')
  (fun b a' w' inv hall hT'=>by
   have hb:=headAll_of inv hall
   simp only [Nat.zero_add]
   refine wpAnyIn_of_seq (l.drop m.length) m.length b a' w' (fun j=>by simp [List.getElem?_drop]) ?_ (hT' w' (Below.refl _ _))
   rw [hb]
   simpa using hseq)
  (fun k b a' w' hne h=>by
   simp only [show k + 1 + (l.drop m.length).length = (k + (l.drop m.length).length) + 1 by omega]
   exact ⟨fun h0=>absurd h0 hne,fun i hi=>wpOp_in hdf hQ (fun _ _ h=>h) (h i hi)⟩)
  ((idxB true 0 m).length + zs.length) (idxB true 0 m) zs (Array.replicate l.toArray.size false) a A { w with drawn:=w.drawn + 1 } rfl inv0 (idx_pair true m 0)
  (fun j hj=>by
   have h1:=((mem_idx m 0).1 hj).2
   rw [Nat.sub_zero] at h1
   refine ⟨(List.getElem?_eq_some_iff.1 h1).1,fun h2=>?_⟩
   rw [<- hzs,mem_idx,Nat.sub_zero,h1] at h2
   simp at h2)
  (by rw [<- hzs]; exact (idx_pair false m 0).imp Nat.ne_of_lt) (fun j hj=>hj)
  (fun j hj=>by
   have h1 : (Array.replicate l.toArray.size false).getD j true = false:=getD_in (by simp; omega) (getD_replicate_false _ _)
   rw [h1,<- hzs,mem_idx,mem_idx,Nat.sub_zero]
   have hv : m[j]? = some m[j]:=List.getElem?_eq_getElem hj
   rw [hv]
   cases m[j] <;> simp)
  hr (fun w2 h2=>hC w2 (hd0.trans (h2.mono hd0.size))) (mkT.up hT hd0)
 rw [hlen,show m.length + (l.drop m.length).length = l.toArray.size by simp; omega] at H
 exact H
def mkTL (P : Program) (ops : Array Oper) (C : World -> Prop) (T : Act -> World -> Prop) : List Oper -> Act -> World -> Prop
 | [],a,w=>∀ w1,Below w.heap.size w w1 -> T a w1
 | o :: r,a,w=>∀ w1,Below w.heap.size w w1 -> Made1 P o a w1 fun v w'=>(∀ w2,Below w'.heap.size w' w2 -> C w2) /\ mkTL P ops C T r (a.put o.dst v) w'
theorem mkT_of {P : Program} {ops : Array Oper} {C : World -> Prop} {T : Act -> World -> Prop} : ∀ (zs : List Nat) (os : List Oper) (a : Act) (w : World),os.length = zs.length -> (∀ j,j < zs.length -> (os[j]? : Option Oper) = ops[zs.getD j 0]?) -> seqZ ops zs = true ->
  mkTL P ops C T os a w -> mkT P ops C T zs.length zs a w
 | [],os,a,w,hl,_,_,h=>by
  obtain rfl : os = []:=List.eq_nil_of_length_eq_zero (by simpa using hl)
  exact h
 | i :: r,[],a,w,hl,_,_,_=>by simp at hl
 | i :: r,o :: os,a,w,hl,hops,hB,h=>by
  intro j hj hrd w1 hb
  simp only [seqZ,Bool.and_eq_true,List.all_eq_true,Bool.or_eq_true,beq_iff_eq,Bool.not_eq_true'] at hB
  have hji : j = i:=by
   rcases List.mem_cons.1 hj with h | h
   ·exact h
   ·rcases hB.1 j h with h2 | h2
    ·exact h2
    ·rw [h2] at hrd; cases hrd
  subst hji
  have h0 : ops[j]? = some o:=by have:=hops 0 (by simp); simpa using this.symm
  refine ⟨o,h0,(h w1 hb).mono fun v w' ⟨h1,h2⟩=>⟨h1,?_⟩⟩
  rw [List.erase_cons_head]
  exact mkT_of r os _ w' (by simpa using hl) (fun k hk=>by have:=hops (k + 1) (by simpa using hk); simpa using this) hB.2 h2
theorem wpIn_region_flowT {P : Program} {C : World -> Prop} {id : Nat} {Q : Exit -> Act -> World -> Prop} {a : Act} {w : World} {l : List Oper} {lp np : Nat} (m : List Bool) (zs : List Nat) (hm : P.follows .mixedOrders = true) (hB : flowTB l.toArray m zs = true) (hS : seqZ l.toArray zs = true) (hseq : Region.seqB .any l.toArray (l.drop m.length).length m.length (headAll m.length l.length) = true)
  (hos : (zs.map fun i=>l[i]?) = (pickB false m l).map some) (hd : dstsOK a.tmps.size (pickB true m l) = true) (hdf : noDefB l.toArray = true) (hC : ∀ w1,Below w.heap.size w w1 -> C w1) (A : Act)
  (hq : ∀ S,Grows S -> (∀ w,S w -> C w) -> Nonempty (UpsC S) -> wpQuiet P l.toArray (fun w'=>∃ u : UpsC S,w' = u.wld) (fun a'=>a' = A) (pickB true m l) a)
  (hQ : ¬ LetsOut Q) (hT : mkTL P l.toArray C (fun a' w'=>wpListIn (Fence.wide.inRound lp) np P l.toArray Q (l.drop m.length) a' w') (pickB false m l) A w) : (Code.region id l.toArray true).wpIn (Fence.wide.inRound lp) np P Q a w:=by
 refine wpIn_region_flowTZ m zs hm hB hseq hd hC A hq hdf hQ (mkT_of zs _ A w ?_ ?_ hS hT)
 ·have:=congrArg List.length hos
  simpa using this.symm
 ·intro j hj
  have h1 : (zs.map fun i=>l[i]?)[j]? = ((pickB false m l).map some)[j]?:=by rw [hos]
  rw [List.getElem?_map,List.getElem?_map,List.getElem?_eq_getElem hj] at h1
  rw [getD_at _ _ _ hj]
  simp only [Option.map_some] at h1
  cases h2 : (pickB false m l)[j]? with
  | none=>rw [h2] at h1; cases h1
  | some o=>
   rw [h2] at h1
   simp only [Option.map_some,Option.some.injEq] at h1
   simp [h1]
theorem mkTL_cons {P : Program} {ops : Array Oper} {C : World -> Prop} {T : Act -> World -> Prop} {o : Oper} {r : List Oper} {a : Act} {w : World} (hg : o.guard = none)
  (h : ∀ w1,Below w.heap.size w w1 -> ∀ Q' : Exit -> Act -> World -> Prop,(∀ a' w',a'.defers = a.defers -> (∀ w2,Below w'.heap.size w' w2 -> C w2) -> mkTL P ops C T r a' w' -> Q' .normal a' w') -> wpList P ops Q' [o] a w1) :
  mkTL P ops C T (o :: r) a w:=fun w1 hb=>
 made_of (K:=fun a' w'=>(∀ w2,Below w'.heap.size w' w2 -> C w2) /\ mkTL P ops C T r a' w') hg fun Q' hQ=>h w1 hb Q' fun a' w' h1 h2 h3=>hQ a' w' h1 ⟨h2,h3⟩
theorem wpListIn_of {P : Program} {ops : Array Oper} {Q : Exit -> Act -> World -> Prop} {lp np : Nat} (hQ : ¬ LetsOut Q) : ∀ (l : List Oper) (a : Act) (w : World),(∀ o ∈ l,∀ c : Go.Call,o.op ≠ .defer c) -> wpList P ops Q l a w -> wpListIn (Fence.wide.inRound lp) np P ops Q l a w
 | [],_,_,_,h=>h
 | o :: l,a,w,hd,h=>by
  unfold wpList at h
  unfold wpListIn
  have ho:=hd o (List.mem_cons_self ..)
  have ih:=fun a w h=>wpListIn_of (P:=P) (ops:=ops) (lp:=lp) (np:=np) hQ l a w (fun o' h'=>hd o' (List.mem_cons_of_mem _ h')) h
  split
  ·rename_i hw
   rw [if_pos hw] at h
   rcases h with h | h
   ·refine ⟨fun f _=>trivial,?_⟩
    rw [Oper.semAt_eq _ _ _ ho]
    exact upon_in (Oper.wp_mono ih h)
   ·exact absurd h.2 hQ
  ·rename_i hw
   rw [if_neg hw] at h
   exact ⟨fun f _=>trivial,ih _ _ h⟩
theorem mkT_two {P : Program} {ops : Array Oper} {C : World -> Prop} {T : Act -> World -> Prop} {i j : Nat} {r : List Nat} {oi oj : Oper} {os : List Oper} {a : Act} {w : World} (hi : ops[i]? = some oi) (hj : ops[j]? = some oj) (hij : i ≠ j)
  (hr : r.all (fun k=>!readyZ ops (i :: j :: r) k) = true) (hl : os.length = r.length) (hops : (r.map fun k=>ops[k]?) = os.map some) (hB1 : seqZ ops (j :: r) = true) (hB2 : seqZ ops (i :: r) = true)
  (h1 : mkTL P ops C T (oi :: oj :: os) a w) (h2 : mkTL P ops C T (oj :: oi :: os) a w) : mkT P ops C T (i :: j :: r).length (i :: j :: r) a w:=by
 have hops : ∀ k,k < r.length -> (os[k]? : Option Oper) = ops[r.getD k 0]?:=fun k hk=>by
  have e : (r.map fun k=>ops[k]?)[k]? = (os.map some)[k]?:=by rw [hops]
  rw [List.getElem?_map,List.getElem?_map,List.getElem?_eq_getElem hk] at e
  rw [getD_at _ _ _ hk]
  simp only [Option.map_some] at e
  cases h2 : os[k]? with
  | none=>rw [h2] at e; cases e
  | some o=>
   rw [h2] at e
   simp only [Option.map_some,Option.some.injEq] at e
   exact e.symm
 intro k hk hrd w1 hb
 simp only [List.all_eq_true,Bool.not_eq_true'] at hr
 rcases List.mem_cons.1 hk with rfl | hk
 ·refine ⟨oi,hi,(h1 w1 hb).mono fun v w' ⟨g1,g2⟩=>⟨g1,?_⟩⟩
  rw [List.erase_cons_head]
  exact mkT_of (j :: r) (oj :: os) _ w' (by simp [hl]) (fun k hk=>by
   cases k with
   | zero=>simpa using hj.symm
   | succ k=>have:=hops k (by simpa using hk); simpa using this) hB1 g2
 ·rcases List.mem_cons.1 hk with rfl | hk
  ·refine ⟨oj,hj,(h2 w1 hb).mono fun v w' ⟨g1,g2⟩=>⟨g1,?_⟩⟩
   rw [List.erase_cons_tail (by simpa using hij),List.erase_cons_head]
   exact mkT_of (i :: r) (oi :: os) _ w' (by simp [hl]) (fun k hk=>by
    cases k with
    | zero=>simpa using hi.symm
    | succ k=>have:=hops k (by simpa using hk); simpa using this) hB2 g2
  ·rw [hr k hk] at hrd; cases hrd
end
section
open Go Go.RowKit
theorem words39 (A : Option Addr) (n c : Nat) (w : World) : Calls Tryz.prog 39 #[.slice A n c] w fun e w'=>e = .returned (.func (.func 82) #[] #[.pointer (some ⟨w.heap.size,0,none⟩)]) /\ w' = w.alloc (.cells #[.slice A n c] 22):=by
 go_enter Tryz.func39,Tryz.ntmps39
 go_wp2
 go_ret
 exact ⟨rfl,rfl⟩
theorem results_two {P : Program} {fn : Func} {p u : Tmp} {t1 t2 : TypeId} (h : fn.results = #[.cell p t1,.cell u t2]) (tmps : Array Value) (w : World) {g1 g2 : Nat} {v1 v2 : Value} (hp : tmps.getD p undef = .pointer (some ⟨g1,0,none⟩)) (hu : tmps.getD u undef = .pointer (some ⟨g2,0,none⟩))
  (c1 : w.cell? ⟨g1,0,none⟩ = some v1) (c2 : w.cell? ⟨g2,0,none⟩ = some v2) (a1 : ∀ w,(isAgg t1).run P w = .ok false w) (a2 : ∀ w,(isAgg t2).run P w = .ok false w) : (results fn tmps).run P w = .ok (.tuple #[v1,v2]) w:=by
 simp only [Array.getD_eq_getD_getElem?] at hp hu
 simp only [results,h]
 simp [Sem.run_bind,Result.andThen,hp,hu,asAddr,loadVar,a1,a2,c1,c2,go_sem]
theorem tokIn_far : ∀ (P Q : Nat -> Prop) (w w' : World) (a : PTok),tokIn P w a -> tokIn Q w' a:=fun _ _ _ _ _ h=>h
def IK (B0 B1 : Nat) (w0 : World) (R2 R3 T : Nat) (pre : List PTok) (O : Nat -> Prop) (W : World) : Prop:=
 Below B0 w0 W /\ (Blk W R2 23 #[.slice none 0 0] /\ Blk W R3 24 #[.int .i64 0]) /\ ∃ v,Blk W T 23 #[v] /\ OwnToks B1 W v pre /\ O = boxO T v
theorem IK.calm {B0 B1 : Nat} {w0 : World} {R2 R3 T : Nat} {pre : List PTok} (h0 : B0 <= w0.heap.size) (h01 : B0 <= B1) : Calm (fun _=>False) B1 (IK B0 B1 w0 R2 R3 T pre):=
 ⟨fun O A B ⟨h1,⟨h2,h3⟩,v,h4,h5,h6⟩ _ hk=>⟨hk.below h1 h0 (fun _ _ h=>h) h01,⟨hk.blk (fun h=>h) h2,hk.blk (fun h=>h) h3⟩,v,hk.blk (fun h=>h) h4,hk.ownL tokIn_far h5 (fun _ _ h=>h),h6⟩⟩
def TokR (xs : List PTok) (w : World) (e : Ending) (w' : World) : Prop:=∃ v,e = .returned (.tuple #[v,.int .i64 0]) /\ OwnToks w.heap.size w' v xs /\ Below w.heap.size w w'
attribute [local go_sem] Oper.semAt_some
theorem tokens_any (lv : Value) (ls : List ByteArray) (w : World) (hlv : TextsO (fun _=>False) w lv ls) (hl6 : ls.length <= 6) (hls : ∀ x ∈ ls,x.size <= 60 /\ x ≠ ⟨#[]⟩ /\ foldOf x = x) (h40 : (toksOf ls).length <= 40) (hml : MaxL w) (h00 : 0 < w.heap.size) :
  Calls Tryz.prog 12 #[lv] w (TokR (toksOf ls) w):=by
 have hlv':=Hd hlv
 obtain ⟨A,c,rfl,hn,hcm,hA⟩:=hlv
 unfold maxLen at hcm
 replace hA:=Hd hA
 replace hls:=Hd hls
 replace hml:=Hd hml
 obtain ⟨W1,hW1⟩ : ∃ W1,W1 = (w.alloc (.cells #[.slice none 0 0] 23)).alloc (.cells #[.int .i64 0] 24):=⟨_,rfl⟩
 have hb1 : Hid (Below w.heap.size w W1):=Hd (by rw [hW1]; exact ((Below.refl _ w).alloc (lQ _) _).alloc (by simp) _)
 have k2 : Hid (Blk W1 w.heap.size 23 #[.slice none 0 0]):=Hd (by rw [hW1]; exact (Blk.new _ _ _).alloc _)
 have k3 : Hid (Blk W1 (w.heap.size + 1) 24 #[.int .i64 0]):=Hd (by rw [hW1]; have:=Blk.new (w.alloc (.cells #[.slice none 0 0] 23)) 24 #[.int .i64 0]; simpa using this)
 have q0 : ¬ (6 : Int) < (ls.length : Int):=by omega
 refine callsIn_wide.1 (callsIn_of_wp_marks (n:=0) Tryz.func12 rfl trivial (wpIn_wide.2 ?_))
 simp only [Tryz.ntmps12,List.size_toArray,List.length_cons,List.length_nil,Nat.reduceAdd,Nat.reduceSub,Array.replicate_succ,Array.replicate_zero,List.push_toArray,List.append_toArray,List.nil_append,List.cons_append]
 go_upto_region 1 with fail
 rw [<- hW1]
 clear hW1
 obtain ⟨R2,hR2⟩ : ∃ R2,R2 = w.heap.size:=⟨_,rfl⟩
 obtain ⟨R3,hR3⟩ : ∃ R3,R3 = w.heap.size + 1:=⟨_,rfl⟩
 rw [<- hR2] at k2
 rw [<- hR3] at k3
 rw [<- hR3,<- hR2]
 have hRR : Hid (w.heap.size <= R2 /\ R2 < R3):=Hd (by omega)
 clear hR2 hR3
 go_wp2_with fail
 go_loopw [15] (fun iv wr=>∃ k : Nat,k <= ls.length /\ iv = .int .i64 k /\ Hid (wr = W1)) (fun iv _=>ls.length - (intOf iv).toNat)
 case atStart=>exact ⟨0,by omega,rfl,Hd rfl⟩
 case round=>
  obtain ⟨k,hk,rfl,hwr⟩:=hrel
  obtain rfl:=hwr.out.symm
  have n0 : (0 : Int) <= (k : Int):=by omega
  by_cases hlt : k < ls.length
  ·have n1 : (k : Int) < (ls.length : Int):=by omega
   obtain ⟨b0,off0,rfl,hb0,_,hi0⟩:=hA.out (by omega)
   have x0 : W1.cell? ⟨b0,off0 + k,none⟩ = some (.string (ls.getD k ByteArray.empty)):=(hb1.out.cell (p:=⟨b0,off0 + k,none⟩) hb0).trans (hi0 k hlt)
   have hx:=hls.out (ls.getD k ByteArray.empty) (by rw [getD_at _ _ _ hlt]; exact List.getElem_mem hlt)
   clear hi0
   generalize ls.getD k ByteArray.empty = x at *
   obtain ⟨hx1,hx2⟩:=hx
   replace hx2:=Hd hx2
   have q1 : ¬ (60 : Int) < (x.size : Int):=by omega
   go_wp2_with fail
   go_roundw
   case rel=>exact ⟨k + 1,by omega,by go_num,by first | exact Hd rfl | trivial⟩
   case measure=>simp [intOf]; omega
  ·obtain rfl : k = ls.length:=by omega
   go_wp2_with fail
   go_loopw [25] (fun iv wr=>∃ k : Nat,k <= ls.length /\ iv = .int .i64 k /\ Hid (Below w.heap.size w wr) /\ Hid (Blk wr R2 23 #[.slice none 0 0]) /\ Hid (Blk wr R3 24 #[.int .i64 0])) (fun iv _=>ls.length - (intOf iv).toNat)
   case atStart=>exact ⟨0,by omega,rfl,hb1,k2,k3⟩
   case round=>
    obtain ⟨k,hk,rfl,hbr,k2r,k3r⟩:=hrel
    rename World=>wr
    have m0 : (0 : Int) <= (k : Int):=by omega
    by_cases hlt : k < ls.length
    ·have m1 : (k : Int) < (ls.length : Int):=by omega
     obtain ⟨b0,off0,rfl,hb0,_,hi0⟩:=hA.out (by omega)
     have x0 : wr.cell? ⟨b0,off0 + k,none⟩ = some (.string (ls.getD k ByteArray.empty)):=(hbr.out.cell (p:=⟨b0,off0 + k,none⟩) hb0).trans (hi0 k hlt)
     have hx:=hls.out (ls.getD k ByteArray.empty) (by rw [getD_at _ _ _ hlt]; exact List.getElem_mem hlt)
     clear hi0
     generalize ls.getD k ByteArray.empty = x at *
     obtain ⟨hx1,hx2,hx4⟩:=hx
     have e0 : x.toList.isEmpty = false:=by
      cases h : x.toList.isEmpty
      ·rfl
      ·exact absurd (tl_nil h) hx2
     have hrt:=Hd (right_any x wr (by omega))
     rw [show decide (foldOf x = x) = true from decide_eq_true hx4] at hrt
     clear hx2 hx4
     go_wp2_with fail
     refine hrt.out.mono ?_
     rintro e w2 ⟨rfl,hb2⟩
     have hb2':=Hd (hbr.out.trans (hb2.mono hbr.out.size))
     have k22:=Hd (k2r.out.below hb2 k2r.out.lt)
     have k32:=Hd (k3r.out.below hb2 k3r.out.lt)
     clear hrt hb2 x0
     go_wp2_with fail
     go_roundw
     case rel=>exact ⟨k + 1,by omega,by go_num,hb2',k22,k32⟩
     case measure=>simp [intOf]; omega
    ·obtain rfl : k = ls.length:=by omega
     obtain ⟨W3,hW3⟩ : ∃ W3,W3 = wr.alloc (.cells #[.slice none 0 0] 23):=⟨_,rfl⟩
     have hb3 : Hid (Below w.heap.size w W3):=Hd (by rw [hW3]; exact hbr.out.alloc hbr.out.size _)
     have k23 : Hid (Blk W3 R2 23 #[.slice none 0 0]):=Hd (by rw [hW3]; exact k2r.out.alloc _)
     have k33 : Hid (Blk W3 R3 24 #[.int .i64 0]):=Hd (by rw [hW3]; exact k3r.out.alloc _)
     have kT3 : Hid (Blk W3 wr.heap.size 23 #[.slice none 0 0]):=Hd (by rw [hW3]; exact Blk.new _ _ _)
     have hlay : Hid (R2 < wr.heap.size /\ R3 < wr.heap.size /\ w.heap.size <= wr.heap.size):=Hd ⟨k2r.out.lt,k3r.out.lt,hbr.out.size⟩
     go_upto_region 16 with fail
     rw [<- hW3]
     clear hW3 hbr k2r k3r
     generalize wr.heap.size = TB at *
     have hwd:=Hd (words39 A ls.length c W3)
     obtain ⟨W4,hW4⟩ : ∃ W4,W4 = W3.alloc (.cells #[.slice A ls.length c] 22):=⟨_,rfl⟩
     rw [<- hW4] at hwd
     have hb34 : Below W3.heap.size W3 W4:=by rw [hW4]; exact (Below.refl _ _).alloc (lQ _) _
     have hb4 : Hid (Below w.heap.size w W4):=Hd (hb3.out.trans (hb34.mono hb3.out.size))
     have k24:=Hd (k23.out.below hb34 k23.out.lt)
     have k34:=Hd (k33.out.below hb34 k33.out.lt)
     have kT4:=Hd (kT3.out.below hb34 kT3.out.lt)
     have kL4 : Hid (Blk W4 W3.heap.size 22 #[.slice A ls.length c]):=Hd (by rw [hW4]; exact Blk.new _ _ _)
     have hTL : Hid (TB < W3.heap.size):=Hd kT3.out.lt
     replace hW4:=Hd hW4
     clear hb34 k23 k33 kT3
     generalize W3.heap.size = BL at *
     go_wp2_with fail
     refine hwd.out.mono ?_
     rintro e W5 ⟨rfl,hw5⟩
     obtain rfl:=hw5.symm
     clear hwd
     have hT4l:=Hd kT4.out.lt
     have hO4 : Hid (∀ b,boxO TB (.slice none 0 0) b -> b < W4.heap.size):=Hd fun b h=>by
      rcases h with rfl | h
      ·exact hT4l.out
      ·cases h
     have hOT : Hid (∀ b,boxO TB (.slice none 0 0) b -> b = TB):=Hd fun b h=>h.elim id fun h=>by cases h
     have hinv : Hid (InvK (.slice A ls.length c) ls BL (boxO TB (.slice none 0 0)) W4):=Hd (by
      have hly:=hlay.out
      have htl:=hTL.out
      refine ⟨⟨fun h=>?_,kL4.out⟩,hlv'.out.keep (CKp.of_below hb4.out _) (fun b h=>?_),fun h=>?_,hml.out.below ⟨hb4.out.os,hb4.out.tape,hb4.out.output,hb4.out.size,hb4.out.block⟩⟩
      ·have:=hOT.out _ h
       omega
      ·have:=hOT.out _ h
       exact .inr (by omega)
      ·have:=hOT.out _ h
       omega)
     have hw4:=Hd hb4.out.size
     obtain ⟨i39,hi39,hz0,hz1,hz2⟩:=info_parts info39
     go_wp2_with fail
     refine (wpIn_wide (n:=0)).1 (range_M (gf:=82) (lb:=#[.pointer (some ⟨BL,0,none⟩)]) rfl (enters_of Tryz.func82 (by kernel_rfl) rfl) (words1 (.slice A ls.length c) ls BL (by omega) (fun x hx=>by have:=(hls.out x hx).1; omega)) trivial
      (fun _ _ _ _=>trivial) (fun b h=>h.elim) (InvK.still _ _ _) VTok.still (fun O x vs W h=>by rw [show vs = _ from h]; rfl)
      (IK w.heap.size W4.heap.size w R2 R3 TB) (fun _ _ _ _=>False) (fun pre=>IK.calm (lQ _) hw4.out) (fun c pre=>⟨fun _ _ _ h _ _=>h⟩)
      (boxO TB (.slice none 0 0)) hO4.out hinv.out ⟨hb4.out,⟨k24.out,k34.out⟩,_,kT4.out,OwnL.nil_,rfl⟩
      (fun x vs O a' W=>∃ (PB : Nat) (u : Nat -> Value),vs = #[.agg (tokCells x).toArray] /\ a' = ⟨#[.slice A ls.length c,u 1,.pointer (some ⟨R2,0,none⟩),.pointer (some ⟨R3,0,none⟩),u 4,u 5,u 6,u 7,.pointer (some ⟨TB,0,none⟩),.pointer (some ⟨PB,0,none⟩),u 10,u 11,u 12,u 13,u 14,u 15,u 16,u 17,u 18,u 19,u 20,u 21,u 22,u 23,u 24,u 25,u 26,u 27,u 28,u 29,u 30,u 31,u 32,u 33,u 34,u 35,u 36,u 37,u 38,u 39,u 40,u 41,u 42,u 43,u 44,u 45,u 46,u 47],[]⟩ /\ ¬ O PB /\ Blk W PB 39 (tokCells x).toArray)
      (fun _ _ _=>⟨fun O A B h _ hk=>by
       obtain ⟨PB,u,h1,h2,h3,h4⟩:=h
       exact ⟨PB,u,h1,h2,h3,hk.blk (fun h=>h) h4⟩⟩) ?assign ?body ?done ?stop)
     case assign=>
      rintro l' pre x vs O6 W6 K hi hv rfl hO6 hK
      obtain ⟨xt,xl,xp,xc⟩:=x
      unfold tokCells
      have hB7 : Below W6.heap.size W6 (W6.alloc (.cells #[.string xt,.int .i64 xl,.int .i64 xp,.int .u16 xc] 39)):=(Below.refl _ _).alloc (lQ _) _
      have kP:=Blk.new W6 39 #[.string xt,.int .i64 xl,.int .i64 xp,.int .u16 xc]
      gi_wp2_with (fail)
      refine hK _ O6 _ (fun b h=>.inl h) (fun b h=>Nat.lt_of_lt_of_le (hO6 b h) hB7.size) (KeepC.alloc _ _) (hv.keep (KeepC.alloc _ _) (fun b h=>.inl h)) rfl ((IK.calm (lQ _) hw4.out).keep O6 W6 _ hi hO6 ((KeepM.of_below hB7).keepB _)) (fun k' o _ h _=>(Below.heap_alloc W6 _ k' (heap_lt h)).trans h) ?_
      exact ⟨W6.heap.size,(fun n=>([undef,_,undef,undef,_,_,_,_,undef,undef,_,_,_,_,_,_,_,_,_,_,_,_,_,_,_,_,_,_,_,_,_,_,_,_,_,_,_,_,_,_,_,_,_,_,_,_,_,_] : List Value).getD n undef),trivial,rfl,fun h=>by have:=hO6 _ h; omega,kP⟩
     case body=>
      rintro l' pre x vs O6 a' W6 ⟨PB,u,rfl,rfl,hPO,kP⟩ hl' ⟨rr,hr⟩ hpre ⟨h1,⟨h2,h3⟩,v,h4,h5,rfl⟩ hv hvx hO6
      obtain ⟨xt,xl,xp,xc⟩:=x
      obtain ⟨Av,cv,rfl⟩:=h5.form_
      have hlen : pre.length < 40:=by
       have:=hpre.length_le
       rw [List.length_append] at this
       simp at this
       omega
      have n40 : ((pre.length : Int) == 40) = false:=by rw [beq_eq_false_iff_ne]; omega
      have hO5':=Hd h5
      have hWA : Hid (Below W6.heap.size W6 (W6.alloc (.cells #[.string xt,.int .i64 xl,.int .i64 xp,.int .u16 xc] 39))):=Hd ((Below.refl _ _).alloc (lQ _) _)
      have hoA:=Hd (h5.keep tokIn_inner (Keeps.of_below hWA.out _))
      have hTT : Hid (∀ b,(Value.slice Av pre.length cv).ownBlock = some b -> W4.heap.size <= b):=Hd fun b e=>(h5.1.lt b e).1
      have hW46 : Hid (W4.heap.size <= W6.heap.size):=Hd (Nat.le_trans hl' (Nat.le_of_lt (heap_lt hr)))
      have hW46':=hW46.out
      have hTl:=hT4l.out
      have kT:=Hd h4
      have p0:=kP.cell 0
      have p1:=kP.cell 1
      have p2:=kP.cell 2
      have p3:=kP.cell 3
      have z0:=h4.cell 0
      simp [tokCells] at p0 p1 p2 p3 z0
      have sd1 : pre.length + 1 <= maxLen:=by unfold maxLen; omega
      have sd4 : (pre.length + 1) * 40 <= 140737488355328:=by omega
      replace h1:=Hd h1
      replace h2:=Hd h2
      replace h3:=Hd h3
      replace hv:=Hd hv
      replace hlen:=Hd hlen
      clear h4 h5 hr kP
      gi_wp2_with (gi_at_builtin; refine wpListIn_append_own_at _ rfl (.tmp 43) (.tmp 45) 23 rfl W4.heap.size 39 i39 (.agg #[.string ⟨#[]⟩,.int .i64 0,.int .i64 0,.int .u16 0]) 4 40 Tryz.underlying23 hi39 hz0 hz1 hz2 rfl (by decide) (.slice Av pre.length cv) pre.length (pre.flatMap tokCells) rfl (by exact hoA.out.1) ⟨W6.heap.size,0,none⟩ 1 1 [.string xt,.int .i64 xl,.int .i64 xp,.int .u16 xc] rfl rfl (by exact World.news_of_block (cs:=#[.string xt,.int .i64 xl,.int .i64 xp,.int .u16 xc]) (heap_alloc_new _ _)) (by exact one4 rfl rfl rfl rfl) sd1 sd4 (by simp; omega) ?_; intro v9 w9 hown9 hgr9 hnil9 hat9; obtain ⟨g9,cap9,rfl,-,-⟩:=hown9.form (by omega); have kT9:=Hd ((kT.out.below hWA.out kT.out.lt).grown hgr9 (fun e=>by have:=hTT.out _ e.symm; omega)); have t0:=kT9.out.cell 0; have t1:=kT9.out.frozen 0; have t2:=kT9.out.lt; simp at t0)
      obtain ⟨k1,k2',k3',k4',k5'⟩:=box_append (a:=(⟨xt,xl,xp,xc⟩ : PTok)) tokIn_inner hWA.out hO5'.out kT.out hTl hW46' trivial hown9 rfl hgr9 (hat9.imp (fun e=>by rw [<- e]; rfl) (fun e=>by simp [Value.ownBlock] at e; simp; omega)) (Below.refl _ _)
      have hTo2 : ∀ b,boxO TB (.slice Av pre.length cv) b -> b = TB \/ W4.heap.size <= b:=fun b h=>h.imp id fun h=>hTT.out b h
      have hly:=hlay.out
      have hr2:=hRR.out
      have hw4':=hw4.out
      refine ⟨_,k4',k5',k1.keepC,hv.out.keep k1.keepC k4',k1.books (boxO_books kT.out hO5'.out.1) _,k1.below h1.out (lQ _) (fun b hb h=>?_),⟨k1.blk h2.out (fun h=>?_),k1.blk h3.out (fun h=>?_)⟩,_,k2',k3',rfl⟩
      ·rcases hTo2 b h with h | h <;> omega
      ·rcases hTo2 _ h with h | h <;> omega
      ·rcases hTo2 _ h with h | h <;> omega
     case done=>
      rintro D' O' W6 hD hO1 hO2 hkc hinv' ⟨h1,⟨h2,h3⟩,v,h4,h5,h6⟩ hdf
      obtain ⟨Av,cv,rfl⟩:=h5.form_
      clear h6
      have z0:=h4.cell 0
      have z1:=h2.cell 0
      have z2:=h3.cell 0
      have f1:=h2.frozen 0
      have f2:=h3.frozen 0
      have l1:=h2.lt
      have l2:=h3.lt
      simp at z0 z1 z2
      have hly:=hlay.out
      have hr2:=hRR.out
      have hw4':=hw4.out
      have hTl:=hT4l.out
      have hD2 : R2 ≠ D':=by omega
      have hD3 : R3 ≠ D':=by omega
      obtain ⟨w7,hw7⟩ : ∃ w7,w7 = (W6.setCell ⟨R2,0,none⟩ (.slice Av (toksOf ls).length cv)).setCell ⟨R3,0,none⟩ (.int .i64 0):=⟨_,rfl⟩
      have hdf7 : w7.heap[D']? = some (.deferred (some [])):=by
       rw [hw7,Below.heap_setCell _ _ _ D' (Ne.symm hD3),Below.heap_setCell _ _ _ D' (Ne.symm hD2)]
       exact hdf
      have hk : KeepB (fun _=>False) 0 w7 (w7.putObj D' (.deferred none)):=KeepB.put _ hdf7 rfl (Nat.zero_le _)
      have kR2 : Blk w7 R2 23 #[.slice Av (toksOf ls).length cv]:=by rw [hw7]; have:=(h2.set_ 0 (.slice Av (toksOf ls).length cv)).far (p:=⟨R3,0,none⟩) (by show R2 ≠ R3; omega) (.int .i64 0); simpa using this
      have kR3 : Blk w7 R3 24 #[.int .i64 0]:=by rw [hw7]; have:=(h3.far (p:=⟨R2,0,none⟩) (by show R3 ≠ R2; omega) (.slice Av (toksOf ls).length cv)).set_ 0 (.int .i64 0); simpa using this
      have ho7 : OwnToks W4.heap.size w7 (.slice Av (toksOf ls).length cv) (toksOf ls):=by rw [hw7]; exact (h5.keep tokIn_inner (Keeps.set_ _ _ _ (by show ¬ W4.heap.size <= R2; omega))).keep tokIn_inner (Keeps.set_ _ _ _ (by show ¬ W4.heap.size <= R3; omega))
      have hb7 : Below w.heap.size w w7:=by
       rw [hw7]
       exact below_setc (below_setc h1 hr2.1 _) (by omega) _
      have c1:=(hk.blk (fun h=>h) kR2).cell 0
      have c2:=(hk.blk (fun h=>h) kR3).cell 0
      simp at c1 c2
      have hRes : Hid (TokR (toksOf ls) w (.returned (.tuple #[.slice Av (toksOf ls).length cv,.int .i64 0])) (w7.putObj D' (.deferred none))):=Hd ⟨_,rfl,(KeepB.ownL tokIn_far ho7 hk (fun _ _ h=>h)).base tokIn_inner hw4',⟨hb7.os,hb7.tape,hb7.output,by simpa using hb7.size,fun k hk'=>(World.putObj_heap_other (by omega)).trans (hb7.block k hk')⟩⟩
      replace hw7:=Hd hw7
      clear h1 h2 h3 h4 h5 hk kR2 kR3 ho7 hb7
      go_wp2_with fail
      rw [<- hw7.out]
      exact leave_mark hdf7 (results_two rfl _ _ rfl rfl c1 c2 (fun w=>run_isAgg_plain Tryz.underlying23 rfl w) (fun w=>run_isAgg_plain Tryz.underlying24 rfl w)) hRes.out
     case stop=>
      rintro D c pre O' W _ _ _ _ _ _ h
      exact h.elim
end
end Go.Proofs.YteclineblddpbaaGreatDoorR
