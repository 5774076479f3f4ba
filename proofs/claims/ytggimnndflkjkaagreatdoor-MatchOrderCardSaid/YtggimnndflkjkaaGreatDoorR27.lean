import Derived.Test.YtggimnndflkjkaaGreatDoorR01
import Derived.Test.YtggimnndflkjkaaGreatDoorR22
import Derived.Test.YtggimnndflkjkaaGreatDoorR26
import Derived.Deep.DeepCutAuto
set_option linter.all false
set_option maxRecDepth 100000
set_option maxHeartbeats 0
namespace Go.Proofs.YtggimnndflkjkaaGreatDoor
section
open Go Go.RowKit
section
variable {P : Program} {ops : Array Oper} {Q : Exit -> Act -> World -> Prop} {C : World -> Prop}
theorem zhI (hsel : Region.noSelect ops = true) {oi : Oper} {A : Act} : ∀ (r : List Nat) (a : Act),(∀ j ∈ r,∀ oj,ops[j]? = some oj -> oi.apart ops oj = true) -> zvL P ops C r a A -> Region.wanted oi (yielded ops A.tmps) = Region.wanted oi (yielded ops a.tmps)
 | [],a,_,h=>by rw [show a = A from h]
 | j :: r,a,hap,h=>by
  obtain ⟨oj,vj,h1,_,h3⟩:=h;obtain ⟨_,_,a3⟩:=Oper.apart_spec (hap j (List.mem_cons_self ..) oj h1);rw [zhI hsel r _ (fun k hk=>hap k (List.mem_cons_of_mem _ hk)) h3];exact wanted_put oi a oj.dst vj a3
def mkG (P : Program) (ops : Array Oper) (Q : Exit -> Act -> World -> Prop) (C : World -> Prop) (n : Nat) : Nat -> List Nat -> Act -> World -> Prop
 | 0,_,a,w=>∀ w1,Below w.heap.size w w1 -> wpOp P ops Q n (fun a' w'=>Q .normal a' w') a w1
 | k + 1,rz,a,w=>∀ i ∈ rz,zbk ops rz i = true -> ∀ w1,Below w.heap.size w w1 -> ∃ o,ops[i]? = some o /\ Region.wanted o (yielded ops a.tmps) = true /\ zca P o a w1 fun v w'=>(∀ w2,Below w'.heap.size w' w2 -> C w2) /\ mkG P ops Q C n k (rz.erase i) (a.put o.dst v) w'
theorem mkG.up {n k : Nat} {rz : List Nat} {a : Act} {w w' : World} (h : mkG P ops Q C n k rz a w) (hb : Below w.heap.size w w') : mkG P ops Q C n k rz a w':=by
 cases k with
 | zero=>exact fun w1 h1=>h w1 (hb.trans (h1.mono hb.size))
 | succ k=>exact fun i hi hr w1 h1=>h i hi hr w1 (hb.trans (h1.mono hb.size))
structure ztV (ops : Array Oper) (n : Nat) (zs : List Nat) : Prop where
 size : n + 1 = ops.size
 sel : Region.noSelect ops = true
 sink : Region.sinkB .any ops n = true
 chain : Region.chainB .any ops n = true
 low : ∀ (j : Nat) (oj : Oper),ops[j]? = some oj -> ∀ e ∈ oj.after,Region.binds .any e = true -> e.on < j
 ap : ∀ (i j : Nat) (oi oj : Oper),i < n -> j < n -> i ≠ j -> ops[i]? = some oi -> ops[j]? = some oj -> Region.waitsFor .any ops j i = false -> Region.waitsFor .any ops i j = false -> oi.apart ops oj = true
 qz : ∀ j,j < n -> j ∉ zs -> ∀ i ∈ zs,Region.waitsFor .any ops j i = false
 zg : ∀ i ∈ zs,i < n
theorem zkP {n : Nat} {zs : List Nat} (F : ztV ops n zs) : ∀ (m : Nat) (r rz : List Nat) (b : Array Bool) (a A : Act) (w : World),r.length + rz.length = m -> HeadInv .any ops n b -> r.Pairwise (· < ·) -> (∀ j ∈ r,j < n /\ j ∉ zs) ->
  rz.Nodup -> (∀ j ∈ rz,j ∈ zs) -> (∀ j,j < n -> (b.getD j true = false ↔ j ∈ r \/ j ∈ rz)) -> zvL P ops C r a A -> (∀ w2,Below w.heap.size w w2 -> C w2) -> mkG P ops Q C n rz.length rz A w -> wpAny P .any ops Q (m + 1) b a w
 | 0,r,rz,b,a,A,w,hm,inv,_,_,_,_,hun,hq,_,hz=>by
  have hn : n < ops.size:=by have:=F.size; omega
  obtain rfl : r = []:=List.eq_nil_of_length_eq_zero (by omega);obtain rfl : rz = []:=List.eq_nil_of_length_eq_zero (by omega);obtain rfl : a = A:=hq
  have hl : ∀ j,j < n -> b.getD j false = true:=fun j hj=>by
   have h1 : ¬ b.getD j true = false:=fun h=>by rcases (hun j hj).1 h with h | h <;> cases h
   cases h2 : b.getD j false with
   | true=>rfl
   | false=>exact absurd (getD_in (by rw [inv.size]; omega) h2) h1
  have hnr : n ∈ Region.ready .any ops b:=mem_ready.2 ⟨inv.tail n (lQ _) hn,ops[n],Array.getElem?_eq_getElem hn,fun e he hb=>hl _ (F.low n _ (Array.getElem?_eq_getElem hn) e he hb)⟩;refine ⟨fun h0=>(by rw [h0] at hnr; cases hnr),fun i hi=>?_⟩
  have hin : i = n:=by
   obtain ⟨h1,o,ho,_⟩:=mem_ready.1 hi;have h2:=(Array.getElem?_eq_some_iff.1 ho).1;have h3:=F.size;rcases Nat.lt_or_ge i n with h | h
   ·have:=hl i h; rw [getD_both h1] at this; cases this
   ·omega
  subst hin;refine wpOp_mono (fun a' w' h=>⟨?_,h⟩) (hz w (Below.refl _ _));refine List.eq_nil_iff_forall_not_mem.2 fun j hj=>?_;obtain ⟨h1,o,ho,_⟩:=mem_ready.1 hj;have h2:=(Array.getElem?_eq_some_iff.1 ho).1;have h3:=F.size;rcases Decidable.em (i = j) with rfl | hne
  ·have hsz : i < b.size:=by rw [inv.size]; omega
   simp [hsz] at h1
  ·rw [getD_set_ne true hne] at h1
   have:=hl j (by omega);rw [getD_both h1] at this;cases this
 | m + 1,r,rz,b,a,A,w,hm,inv,hpw,hr,hnd,hrz,hun,hq,hC,hz=>by
  have hn : n < ops.size:=by have:=F.size; omega
  have hex : ∃ i0,i0 < n /\ b.getD i0 true = false:=by
   cases r with
   | cons i _=>exact ⟨i,(hr i (List.mem_cons_self ..)).1,(hun i (hr i (List.mem_cons_self ..)).1).2 (.inl (List.mem_cons_self ..))⟩
   | nil=>cases rz with
    | cons i _=>
     have:=F.zg i (hrz i (List.mem_cons_self ..));exact ⟨i,this,(hun i this).2 (.inr (List.mem_cons_self ..))⟩
    | nil=>simp at hm
  obtain ⟨i0,hi0,hu0⟩:=hex;obtain ⟨j0,hj0⟩:=zjr F.low hn inv.size i0 i0 rfl hi0 hu0;refine ⟨fun h0=>(by rw [h0] at hj0; cases hj0),fun i hi=>?_⟩
  have hin : i < n:=by
   rcases Nat.lt_or_ge i n with h | h
   ·exact h
   ·exact absurd hi (tail_waits F.sink F.chain hn inv _ i0 rfl hi0 hu0 i h)
  obtain ⟨hiu,oi,hoi,hall⟩:=mem_ready.1 hi
  have hunset : ∀ (r' rz' : List Nat),(∀ j,j ≠ i -> ((j ∈ r' \/ j ∈ rz') ↔ (j ∈ r \/ j ∈ rz))) -> i ∉ r' -> i ∉ rz' -> ∀ j,j < n -> ((b.setIfInBounds i true).getD j true = false ↔ j ∈ r' \/ j ∈ rz'):=fun r' rz' h1 h2 h3 j hj=>by
   rcases Decidable.em (i = j) with rfl | hne
   ·have hsz : i < b.size:=by rw [inv.size]; omega
    simp [hsz,h2,h3]
   ·rw [getD_set_ne true hne,hun j hj,h1 j (Ne.symm hne)]
  rcases (hun i hin).1 hiu with hir | hir
  ·obtain ⟨r1,r2,rfl⟩:=List.append_of_mem hir
   have hlt1 : ∀ j ∈ r1,j < i:=fun j hj=>(List.pairwise_append.1 hpw).2.2 j hj i (List.mem_cons_self ..);have hgt2 : ∀ j ∈ r2,i < j:=fun j hj=>(List.pairwise_cons.1 (List.pairwise_append.1 hpw).2.1).1 j hj
   have hap1 : ∀ j ∈ r1,∀ oj,ops[j]? = some oj -> oi.apart ops oj = true:=fun j hj oj hoj=>by
    have hjn:=(hr j (List.mem_append_left _ hj)).1;refine F.ap i j oi oj hin hjn (by have:=hlt1 j hj; omega) hoi hoj ?_ (zcC hi ((hun j hjn).2 (.inl (List.mem_append_left _ hj))))
    cases h : Region.waitsFor .any ops j i with
    | false=>rfl
    | true=>
     obtain ⟨o',ho',e,he,hbd,hon⟩:=Region.waitsFor_spec h;have:=F.low j o' ho' e he hbd;have:=hlt1 j hj;omega
   obtain ⟨v,hy,hq'⟩:=zis F.sel hoi r1 a hap1 hq;have hsub : List.Sublist (r1 ++ r2) (r1 ++ i :: r2):=List.Sublist.append (List.Sublist.refl _) (List.sublist_cons_self ..)
   have next : ∀ w',Below w.heap.size w w' -> wpAny P .any ops Q (m + 1) (b.setIfInBounds i true) (a.put oi.dst v) w':=fun w' hb=>by
    refine zkP F m (r1 ++ r2) rz _ _ A w' (by simp at hm ⊢; omega) (inv.set hi hin) (hpw.sublist hsub) (fun j hj=>hr j (hsub.subset hj)) hnd hrz (hunset _ _ ?_ ?_ ?_) hq' (fun w2 h2=>hC w2 (hb.trans (h2.mono hb.size))) (hz.up hb)
    ·intro j hj
     simp [hj]
    ·intro h
     rcases List.mem_append.1 h with h | h
     ·have:=hlt1 i h; omega
     ·have:=hgt2 i h; omega
    ·intro h
     exact (hr i hir).2 (hrz i h)
   unfold wpOp;simp only [hoi];rcases hy with ⟨hw,hv⟩ | ⟨hw,rfl⟩
   ·rw [if_pos hw]
    refine .inl (Oper.wp_of_quiet (C:=CS1 fun w'=>Below w.heap.size w w') ⟨⟨w,Below.refl _ _⟩,rfl⟩ (K:=fun a'=>a' = a.put oi.dst v) ?_ ⟨v,hv _ (fun _ _ h1 h2=>h1.trans (h2.mono h1.size)) hC,rfl⟩);rintro a' w' ⟨u,rfl⟩ rfl;exact next _ u.mem
   ·rw [if_neg (by rw [hw]; exact Bool.false_ne_true)]
    exact next w (Below.refl _ _)
  ·have hapz : ∀ j ∈ r,∀ oj,ops[j]? = some oj -> oi.apart ops oj = true:=fun j hj oj hoj=>by
    have hjn:=hr j hj;exact F.ap i j oi oj hin hjn.1 (fun e=>hjn.2 (e ▸ hrz i hir)) hoi hoj (F.qz j hjn.1 hjn.2 i (hrz i hir)) (zcC hi ((hun j hjn.1).2 (.inl hj)))
   have hlen:=List.length_erase_of_mem hir;have hpos : 0 < rz.length:=List.length_pos_of_mem hir;obtain ⟨k,hk⟩ : ∃ k,rz.length = k + 1:=⟨rz.length - 1,by omega⟩;rw [hk] at hz
   have hrd : zbk ops rz i = true:=by
    unfold zbk;simp only [hoi,Array.all_eq_true',Bool.or_eq_true,Bool.not_eq_true'];intro e he
    cases hb : Region.binds .any e with
    | false=>exact .inl rfl
    | true=>
     refine .inr ?_;have h1:=hall e he hb
     cases hc : rz.contains e.on with
     | false=>rfl
     | true=>
      have hmem : e.on ∈ rz:=by simpa using hc
      have hlt:=F.zg _ (hrz _ hmem);have h2:=(hun _ hlt).2 (.inr hmem);rw [getD_both h2] at h1;cases h1
   obtain ⟨o,ho,hwant,hmade⟩:=hz i hir hrd w (Below.refl _ _);obtain rfl : o = oi:=Option.some.inj (ho.symm.trans hoi);have hmade':=hmade.congr (zir F.sel hoi r a hapz hq).symm;have hw : Region.wanted o (yielded ops a.tmps) = true:=by rw [<- zhI F.sel r a hapz hq]; exact hwant
   unfold wpOp;simp only [hoi];rw [if_pos hw];refine .inl (hmade'.wp ?_);rintro v w' ⟨hC',hz'⟩;have hke : (rz.erase i).length = k:=by omega
   refine zkP F m r (rz.erase i) _ _ (A.put o.dst v) w' (by omega) (inv.set hi hin) hpw hr (hnd.erase i) (fun j hj=>hrz j (List.mem_of_mem_erase hj)) (hunset _ _ ?_ ?_ ?_) (zkl F.sel r a hapz hq) hC' (by rw [hke]; exact hz')
   ·intro j hj
    rw [hnd.mem_erase_iff];simp [hj]
   ·exact fun h=>(hr i h).2 (hrz i hir)
   ·rw [hnd.mem_erase_iff]; simp
end
def zrK (ops : Array Oper) (m : List Bool) (zs : List Nat) : Bool:=
 decide (m.length + 1 = ops.size) && (Region.noSelect ops && (Region.sinkB .any ops m.length && (Region.chainB .any ops m.length && (
  ((List.range ops.size).all fun j=>match ops[j]? with | some oj=>oj.after.all (fun e=>!Region.binds .any e || decide (e.on < j)) | none=>true) && (
  ((List.range m.length).all fun i=>(List.range m.length).all fun j=>decide (i = j) || (Region.waitsFor .any ops j i || (Region.waitsFor .any ops i j || (match ops[i]?,ops[j]? with | some oi,some oj=>oi.apart ops oj | _,_=>true)))) && (
  ((zib true 0 m).all fun j=>zs.all fun i=>!Region.waitsFor .any ops j i) && (
  decide (zib false 0 m = zs))))))))
theorem zsF {ops : Array Oper} {m : List Bool} {zs : List Nat} (h : zrK ops m zs = true) : ztV ops m.length zs:=by
 simp only [zrK,Bool.and_eq_true,decide_eq_true_eq,List.all_eq_true,List.mem_range,Bool.or_eq_true,Bool.not_eq_true'] at h;obtain ⟨h1,h2,h3,h4,h5,h6,h7,rfl⟩:=h;have hlt : ∀ (j : Nat) (oj : Oper),ops[j]? = some oj -> j < ops.size:=fun j oj hj=>(Array.getElem?_eq_some_iff.1 hj).1;refine ⟨h1,h2,h3,h4,fun j oj hj e he hbd=>?_,fun i j oi oj hi hj hne hoi hoj hji hij=>?_,fun j hj hjz i hi=>?_,fun i hi=>?_⟩
 ·have:=h5 j (hlt j oj hj)
  rw [hj] at this;simp only [Array.all_eq_true',decide_eq_true_eq,Bool.or_eq_true,Bool.not_eq_true'] at this;rcases this e he with h0 | h0
  ·rw [hbd] at h0; cases h0
  ·exact h0
 ·rcases h6 i hi j hj with h | h | h | h
  ·exact absurd h hne
  ·rw [h] at hji; cases hji
  ·rw [h] at hij; cases hij
  ·rw [hoi,hoj] at h; exact h
 ·refine h7 j ?_ i hi
  rw [zbo];refine ⟨Nat.zero_le _,?_⟩;rw [zbo] at hjz;rw [Nat.sub_zero] at hjz ⊢;have hv : m[j]? = some m[j]:=List.getElem?_eq_getElem hj
  cases hb : m[j] with
  | true=>rw [hv,hb]
  | false=>exact absurd ⟨Nat.zero_le _,by rw [hv,hb]⟩ hjz
 ·have:=((zbo m 0).1 hi).2
  rw [Nat.sub_zero] at this;exact (List.getElem?_eq_some_iff.1 this).1
theorem zT {P : Program} {C : World -> Prop} {id : Nat} {Q : Exit -> Act -> World -> Prop} {a : Act} {w : World} {l : List Oper} (m : List Bool) (zs : List Nat) (hm : P.follows .mixedOrders = true) (hB : zrK l.toArray m zs = true)
  (hd : zhY a.tmps.size (zbM true m l) = true) (hC : ∀ w1,Below w.heap.size w w1 -> C w1) (A : Act)
  (hq : ∀ S,zhM S -> (∀ w,S w -> C w) -> Nonempty (zaP S) -> wpQuiet P l.toArray (fun w'=>∃ u : zaP S,w' = u.wld) (fun a'=>a' = A) (zbM true m l) a)
  (hT : mkG P l.toArray Q C m.length zs.length zs A w) : (Code.region id l.toArray true).wp P Q a w:=by
 have F:=zsF hB
 have hzs : zib false 0 m = zs:=by
  simp only [zrK,Bool.and_eq_true,decide_eq_true_eq] at hB;exact hB.2.2.2.2.2.2.2
 have hsz : m.length + 1 = l.length:=by have:=F.size; simpa using this
 have hd0 : Below w.heap.size w { w with drawn:=w.drawn + 1 }:=(Below.refl _ _).drew;refine wp_region_any hm ?_;have hr:=ziZ (P:=P) (A:=A) w hC m l 0 a (fun j=>by simp) (by omega) hd hq
 have inv0 : HeadInv .any l.toArray m.length (Array.replicate l.toArray.size false):=
  ⟨by simp,fun j oj _ hl=>(by rw [getD_replicate_false] at hl; cases hl),fun t _ ht=>getD_in (by simpa using ht) (getD_replicate_false _ _)⟩
 have hlen:=znn m 0;rw [hzs] at hlen;have H:=zkP (Q:=Q) (C:=C) F ((zib true 0 m).length + zs.length) (zib true 0 m) zs (Array.replicate l.toArray.size false) a A { w with drawn:=w.drawn + 1 } rfl inv0 (zfd true m 0)
  (fun j hj=>by
   have h1:=((zbo m 0).1 hj).2;rw [Nat.sub_zero] at h1;refine ⟨(List.getElem?_eq_some_iff.1 h1).1,fun h2=>?_⟩;rw [<- hzs,zbo,Nat.sub_zero,h1] at h2
   simp at h2)
  (by rw [<- hzs]; exact (zfd false m 0).imp Nat.ne_of_lt) (fun j hj=>hj)
  (fun j hj=>by
   have h1 : (Array.replicate l.toArray.size false).getD j true = false:=getD_in (by simp; omega) (getD_replicate_false _ _);rw [h1,<- hzs,zbo,zbo,Nat.sub_zero];have hv : m[j]? = some m[j]:=List.getElem?_eq_getElem hj;rw [hv]
   cases m[j] <;> simp)
  hr (fun w2 h2=>hC w2 (hd0.trans (h2.mono hd0.size))) (hT.up hd0)
 rw [hlen,hsz] at H;exact H
section
variable {P : Program} {ops : Array Oper} {Q : Exit -> Act -> World -> Prop} {C : World -> Prop}
theorem zB {n k : Nat} {rz : List Nat} {a : Act} {w : World} (L : List Nat) (hL : rz.filter (zbk ops rz) = L)
  (h : ∀ i ∈ L,∀ w1,Below w.heap.size w w1 -> ∃ o,ops[i]? = some o /\ Region.wanted o (yielded ops a.tmps) = true /\ zca P o a w1 fun v w'=>(∀ w2,Below w'.heap.size w' w2 -> C w2) /\ mkG P ops Q C n k (rz.erase i) (a.put o.dst v) w') : mkG P ops Q C n (k + 1) rz a w:=
 fun i hi hr=>h i (hL ▸ List.mem_filter.2 ⟨hi,hr⟩)
theorem zvi (hsel : Region.noSelect ops = true) {n i : Nat} {o : Oper} (ho : ops[i]? = some o) : ∀ (k : Nat) (rz : List Nat) (a : Act) (w : World) (v : Value),rz.length = k + 1 -> rz.Nodup -> i ∈ rz -> zbk ops rz i = true ->
  Region.wanted o (yielded ops a.tmps) = true -> (∀ w',C w' -> (execOp a.eval o).run P w' = .ok (.value v) w') -> (∀ j ∈ rz,j ≠ i -> zbk ops [i] j = true -> ∀ oj,ops[j]? = some oj -> o.apart ops oj = true) -> (∀ w2,Below w.heap.size w w2 -> C w2) ->
  mkG P ops Q C n k (rz.erase i) (a.put o.dst v) w -> mkG P ops Q C n (k + 1) rz a w:=by
 intro k
 induction k with
 | zero=>
  intro rz a w v hl hnd hi hri hwt hv hap hC h j hj hr w1 hb
  have hji : j = i:=by
   match rz,hl with
   | [x],_=>
    rw [mS.1 hj,mS.1 hi]
  subst hji;refine ⟨o,ho,hwt,?_⟩;unfold zca;rw [hv w1 (hC w1 hb)];exact ⟨fun w2 h2=>hC w2 (hb.trans (h2.mono hb.size)),h.up hb⟩
 | succ k ih=>
  intro rz a w v hl hnd hi hri hwt hv hap hC h j hj hr w1 hb;by_cases hji : j = i
  ·subst hji
   refine ⟨o,ho,hwt,?_⟩;unfold zca;rw [hv w1 (hC w1 hb)];exact ⟨fun w2 h2=>hC w2 (hb.trans (h2.mono hb.size)),h.up hb⟩
  ·have hje : j ∈ rz.erase i:=(hnd.mem_erase_iff).2 ⟨hji,hj⟩
   obtain ⟨oj,hoj,hwj,hm⟩:=h j hje (zey hr fun x hx=>List.mem_of_mem_erase hx) w1 hb;have ha:=hap j hj hji (zey hr fun x hx=>by rw [mS.1 hx]; exact hi) oj hoj;obtain ⟨a1,a2,a3⟩:=Oper.apart_spec ha;refine ⟨oj,hoj,by rw [<- wanted_put oj a o.dst v a1]; exact hwj,(hm.congr (execOp_put oj (fun cs b=>Region.noSelect_spec hsel j oj cs b hoj) a o.dst v a1).symm).mono fun v' w' ⟨g1,g2⟩=>⟨g1,?_⟩⟩;refine ih (rz.erase j) (a.put oj.dst v') w' v (by rw [List.length_erase_of_mem hj,hl]; rfl) (hnd.erase j) ((hnd.mem_erase_iff).2 ⟨fun e=>hji e.symm,hi⟩) (zey hri fun x hx=>List.mem_of_mem_erase hx) (by rw [wanted_put o a oj.dst v' a3]; exact hwt) (fun w2 hw2=>?_) (fun x hx hxi hr oj' hoj'=>hap x (List.mem_of_mem_erase hx) hxi hr oj' hoj') g1 ?_
   ·rw [execOp_put o (fun cs b=>Region.noSelect_spec hsel i o cs b ho) a oj.dst v' a3]
    exact hv w2 hw2
   ·rw [List.erase_comm,<- Act.put_comm a v v' a2]
    exact g2
theorem zag {n k i : Nat} {o : Oper} (rz : List Nat) {a : Act} {w : World} (v : Value) (hB : zxp ops rz i = true) (hl : rz.length = k + 1) (ho : ops[i]? = some o) (hwt : Region.wanted o (yielded ops a.tmps) = true)
  (hv : ∀ w',C w' -> (execOp a.eval o).run P w' = .ok (.value v) w') (hC : ∀ w2,Below w.heap.size w w2 -> C w2) (h : mkG P ops Q C n k (rz.erase i) (a.put o.dst v) w) : mkG P ops Q C n (k + 1) rz a w:=by
 unfold zxp at hB;simp only [Bool.and_eq_true,decide_eq_true_eq,List.all_eq_true,Bool.or_eq_true,Bool.not_eq_true'] at hB;obtain ⟨h1,h2,h3,h4,h5⟩:=hB;refine zvi h1 ho k rz a w v hl h2 h3 h4 hwt hv (fun j hj hji hr oj hoj=>?_) hC h;rcases h5 j hj with h6 | h6 | h6
 ·exact absurd h6 hji
 ·rw [hr] at h6; cases h6
 ·rw [ho,hoj] at h6; exact h6
end
section
variable {P : Program} {ops : Array Oper} {Q : Exit -> Act -> World -> Prop} {C : World -> Prop}
theorem znj {n : Nat} {b : Array Bool} (hlow : ∀ (j : Nat) (oj : Oper),ops[j]? = some oj -> ∀ e ∈ oj.after,Region.binds .any e = true -> e.on < j) (hn : n <= ops.size) (hsz : b.size = ops.size) : ∀ (d i : Nat),i = d -> i < n -> b.getD i true = false -> ∃ j,j ∈ Region.ready .any ops b:=by
 intro d
 induction d using Nat.strongRecOn with
 | _ d ih=>
  intro i hd hi hu;subst hd;have hlt : i < ops.size:=by omega
  have ho : ops[i]? = some ops[i]:=Array.getElem?_eq_getElem hlt;by_cases h : ∀ e ∈ (ops[i]).after,Region.binds .any e = true -> b.getD e.on false = true
  ·exact ⟨i,mem_ready.2 ⟨hu,_,ho,h⟩⟩
  ·obtain ⟨e,h⟩:=Classical.not_forall.1 h
   have h1 : e ∈ (ops[i]).after /\ Region.binds .any e = true /\ ¬ b.getD e.on false = true:=by
    by_cases h2 : e ∈ (ops[i]).after
    ·by_cases h3 : Region.binds .any e = true
     ·exact ⟨h2,h3,fun h4=>h fun _ _=>h4⟩
     ·exact absurd (fun _ h5=>absurd h5 h3) h
    ·exact absurd (fun h5=>absurd h5 h2) h
   have hl:=hlow i _ ho e h1.1 h1.2.1;exact ih e.on hl e.on rfl (by omega) (getD_in (by omega) (by simpa using h1.2.2))
def mkE (P : Program) (ops : Array Oper) (Q : Exit -> Act -> World -> Prop) (C : World -> Prop) (n : Nat) : Nat -> List Nat -> Act -> World -> Prop
 | 0,_,a,w=>∀ w1,Below w.heap.size w w1 -> Q .normal a w1
 | k + 1,rz,a,w=>∀ i ∈ rz,zbk ops rz i = true -> ∀ w1,Below w.heap.size w w1 -> ∃ o,ops[i]? = some o /\ Region.wanted o (yielded ops a.tmps) = true /\ zca P o a w1 fun v w'=>(∀ w2,Below w'.heap.size w' w2 -> C w2) /\ mkE P ops Q C n k (rz.erase i) (a.put o.dst v) w'
theorem mkE.up {n k : Nat} {rz : List Nat} {a : Act} {w w' : World} (h : mkE P ops Q C n k rz a w) (hb : Below w.heap.size w w') : mkE P ops Q C n k rz a w':=by
 cases k with
 | zero=>exact fun w1 h1=>h w1 (hb.trans (h1.mono hb.size))
 | succ k=>exact fun i hi hr w1 h1=>h i hi hr w1 (hb.trans (h1.mono hb.size))
structure ztU (ops : Array Oper) (n : Nat) (zs : List Nat) : Prop where
 size : n = ops.size
 sel : Region.noSelect ops = true
 low : ∀ (j : Nat) (oj : Oper),ops[j]? = some oj -> ∀ e ∈ oj.after,Region.binds .any e = true -> e.on < j
 ap : ∀ (i j : Nat) (oi oj : Oper),i < n -> j < n -> i ≠ j -> ops[i]? = some oi -> ops[j]? = some oj -> Region.waitsFor .any ops j i = false -> Region.waitsFor .any ops i j = false -> oi.apart ops oj = true
 qz : ∀ j,j < n -> j ∉ zs -> ∀ i ∈ zs,Region.waitsFor .any ops j i = false
 zg : ∀ i ∈ zs,i < n
theorem zkO {n : Nat} {zs : List Nat} (F : ztU ops n zs) : ∀ (m : Nat) (r rz : List Nat) (b : Array Bool) (a A : Act) (w : World),r.length + rz.length = m -> HeadInv .any ops n b -> r.Pairwise (· < ·) -> (∀ j ∈ r,j < n /\ j ∉ zs) ->
  rz.Nodup -> (∀ j ∈ rz,j ∈ zs) -> (∀ j,j < n -> (b.getD j true = false ↔ j ∈ r \/ j ∈ rz)) -> zvL P ops C r a A -> (∀ w2,Below w.heap.size w w2 -> C w2) -> mkE P ops Q C n rz.length rz A w -> wpAny P .any ops Q m b a w
 | 0,r,rz,b,a,A,w,hm,inv,_,_,_,_,hun,hq,_,hz=>by
  have hn : n <= ops.size:=by have:=F.size; omega
  obtain rfl : r = []:=List.eq_nil_of_length_eq_zero (by omega);obtain rfl : rz = []:=List.eq_nil_of_length_eq_zero (by omega);obtain rfl : a = A:=hq
  have hl : ∀ j,j < n -> b.getD j false = true:=fun j hj=>by
   have h1 : ¬ b.getD j true = false:=fun h=>by rcases (hun j hj).1 h with h | h <;> cases h
   cases h2 : b.getD j false with
   | true=>rfl
   | false=>exact absurd (getD_in (by rw [inv.size]; omega) h2) h1
  refine ⟨List.eq_nil_iff_forall_not_mem.2 fun j hj=>?_,hz w (Below.refl _ _)⟩;obtain ⟨h1,o,ho,_⟩:=mem_ready.1 hj;have h2:=(Array.getElem?_eq_some_iff.1 ho).1;have h3:=F.size;have:=hl j (by omega);rw [getD_both h1] at this;cases this
 | m + 1,r,rz,b,a,A,w,hm,inv,hpw,hr,hnd,hrz,hun,hq,hC,hz=>by
  have hn : n <= ops.size:=by have:=F.size; omega
  have hex : ∃ i0,i0 < n /\ b.getD i0 true = false:=by
   cases r with
   | cons i _=>exact ⟨i,(hr i (List.mem_cons_self ..)).1,(hun i (hr i (List.mem_cons_self ..)).1).2 (.inl (List.mem_cons_self ..))⟩
   | nil=>cases rz with
    | cons i _=>
     have:=F.zg i (hrz i (List.mem_cons_self ..));exact ⟨i,this,(hun i this).2 (.inr (List.mem_cons_self ..))⟩
    | nil=>simp at hm
  obtain ⟨i0,hi0,hu0⟩:=hex;obtain ⟨j0,hj0⟩:=znj F.low hn inv.size i0 i0 rfl hi0 hu0;refine ⟨fun h0=>(by rw [h0] at hj0; cases hj0),fun i hi=>?_⟩
  have hin : i < n:=by
   obtain ⟨_,o,ho,_⟩:=mem_ready.1 hi;have:=(Array.getElem?_eq_some_iff.1 ho).1;have:=F.size;omega
  obtain ⟨hiu,oi,hoi,hall⟩:=mem_ready.1 hi
  have hunset : ∀ (r' rz' : List Nat),(∀ j,j ≠ i -> ((j ∈ r' \/ j ∈ rz') ↔ (j ∈ r \/ j ∈ rz))) -> i ∉ r' -> i ∉ rz' -> ∀ j,j < n -> ((b.setIfInBounds i true).getD j true = false ↔ j ∈ r' \/ j ∈ rz'):=fun r' rz' h1 h2 h3 j hj=>by
   rcases Decidable.em (i = j) with rfl | hne
   ·have hsz : i < b.size:=by rw [inv.size]; omega
    simp [hsz,h2,h3]
   ·rw [getD_set_ne true hne,hun j hj,h1 j (Ne.symm hne)]
  rcases (hun i hin).1 hiu with hir | hir
  ·obtain ⟨r1,r2,rfl⟩:=List.append_of_mem hir
   have hlt1 : ∀ j ∈ r1,j < i:=fun j hj=>(List.pairwise_append.1 hpw).2.2 j hj i (List.mem_cons_self ..);have hgt2 : ∀ j ∈ r2,i < j:=fun j hj=>(List.pairwise_cons.1 (List.pairwise_append.1 hpw).2.1).1 j hj
   have hap1 : ∀ j ∈ r1,∀ oj,ops[j]? = some oj -> oi.apart ops oj = true:=fun j hj oj hoj=>by
    have hjn:=(hr j (List.mem_append_left _ hj)).1;refine F.ap i j oi oj hin hjn (by have:=hlt1 j hj; omega) hoi hoj ?_ (zcC hi ((hun j hjn).2 (.inl (List.mem_append_left _ hj))))
    cases h : Region.waitsFor .any ops j i with
    | false=>rfl
    | true=>
     obtain ⟨o',ho',e,he,hbd,hon⟩:=Region.waitsFor_spec h;have:=F.low j o' ho' e he hbd;have:=hlt1 j hj;omega
   obtain ⟨v,hy,hq'⟩:=zis F.sel hoi r1 a hap1 hq;have hsub : List.Sublist (r1 ++ r2) (r1 ++ i :: r2):=List.Sublist.append (List.Sublist.refl _) (List.sublist_cons_self ..)
   have next : ∀ w',Below w.heap.size w w' -> wpAny P .any ops Q m (b.setIfInBounds i true) (a.put oi.dst v) w':=fun w' hb=>by
    refine zkO F m (r1 ++ r2) rz _ _ A w' (by simp at hm ⊢; omega) (inv.set hi hin) (hpw.sublist hsub) (fun j hj=>hr j (hsub.subset hj)) hnd hrz (hunset _ _ ?_ ?_ ?_) hq' (fun w2 h2=>hC w2 (hb.trans (h2.mono hb.size))) (hz.up hb)
    ·intro j hj
     simp [hj]
    ·intro h
     rcases List.mem_append.1 h with h | h
     ·have:=hlt1 i h; omega
     ·have:=hgt2 i h; omega
    ·intro h
     exact (hr i hir).2 (hrz i h)
   unfold wpOp;simp only [hoi];rcases hy with ⟨hw,hv⟩ | ⟨hw,rfl⟩
   ·rw [if_pos hw]
    refine .inl (Oper.wp_of_quiet (C:=CS1 fun w'=>Below w.heap.size w w') ⟨⟨w,Below.refl _ _⟩,rfl⟩ (K:=fun a'=>a' = a.put oi.dst v) ?_ ⟨v,hv _ (fun _ _ h1 h2=>h1.trans (h2.mono h1.size)) hC,rfl⟩);rintro a' w' ⟨u,rfl⟩ rfl;exact next _ u.mem
   ·rw [if_neg (by rw [hw]; exact Bool.false_ne_true)]
    exact next w (Below.refl _ _)
  ·have hapz : ∀ j ∈ r,∀ oj,ops[j]? = some oj -> oi.apart ops oj = true:=fun j hj oj hoj=>by
    have hjn:=hr j hj;exact F.ap i j oi oj hin hjn.1 (fun e=>hjn.2 (e ▸ hrz i hir)) hoi hoj (F.qz j hjn.1 hjn.2 i (hrz i hir)) (zcC hi ((hun j hjn.1).2 (.inl hj)))
   have hlen:=List.length_erase_of_mem hir;have hpos : 0 < rz.length:=List.length_pos_of_mem hir;obtain ⟨k,hk⟩ : ∃ k,rz.length = k + 1:=⟨rz.length - 1,by omega⟩;rw [hk] at hz
   have hrd : zbk ops rz i = true:=by
    unfold zbk;simp only [hoi,Array.all_eq_true',Bool.or_eq_true,Bool.not_eq_true'];intro e he
    cases hb : Region.binds .any e with
    | false=>exact .inl rfl
    | true=>
     refine .inr ?_;have h1:=hall e he hb
     cases hc : rz.contains e.on with
     | false=>rfl
     | true=>
      have hmem : e.on ∈ rz:=by simpa using hc
      have hlt:=F.zg _ (hrz _ hmem);have h2:=(hun _ hlt).2 (.inr hmem);rw [getD_both h2] at h1;cases h1
   obtain ⟨o,ho,hwant,hmade⟩:=hz i hir hrd w (Below.refl _ _);obtain rfl : o = oi:=Option.some.inj (ho.symm.trans hoi);have hmade':=hmade.congr (zir F.sel hoi r a hapz hq).symm;have hw : Region.wanted o (yielded ops a.tmps) = true:=by rw [<- zhI F.sel r a hapz hq]; exact hwant
   unfold wpOp;simp only [hoi];rw [if_pos hw];refine .inl (hmade'.wp ?_);rintro v w' ⟨hC',hz'⟩;have hke : (rz.erase i).length = k:=by omega
   refine zkO F m r (rz.erase i) _ _ (A.put o.dst v) w' (by omega) (inv.set hi hin) hpw hr (hnd.erase i) (fun j hj=>hrz j (List.mem_of_mem_erase hj)) (hunset _ _ ?_ ?_ ?_) (zkl F.sel r a hapz hq) hC' (by rw [hke]; exact hz')
   ·intro j hj
    rw [hnd.mem_erase_iff];simp [hj]
   ·exact fun h=>(hr i h).2 (hrz i hir)
   ·rw [hnd.mem_erase_iff]; simp
end
def zrJ (ops : Array Oper) (m : List Bool) (zs : List Nat) : Bool:=
 decide (m.length = ops.size) && (Region.noSelect ops && (
  ((List.range ops.size).all fun j=>match ops[j]? with | some oj=>oj.after.all (fun e=>!Region.binds .any e || decide (e.on < j)) | none=>true) && (
  ((List.range m.length).all fun i=>(List.range m.length).all fun j=>decide (i = j) || (Region.waitsFor .any ops j i || (Region.waitsFor .any ops i j || (match ops[i]?,ops[j]? with | some oi,some oj=>oi.apart ops oj | _,_=>true)))) && (
  ((zib true 0 m).all fun j=>zs.all fun i=>!Region.waitsFor .any ops j i) && (
  decide (zib false 0 m = zs))))))
theorem zsE {ops : Array Oper} {m : List Bool} {zs : List Nat} (h : zrJ ops m zs = true) : ztU ops m.length zs:=by
 simp only [zrJ,Bool.and_eq_true,decide_eq_true_eq,List.all_eq_true,List.mem_range,Bool.or_eq_true,Bool.not_eq_true'] at h;obtain ⟨h1,h2,h5,h6,h7,rfl⟩:=h;have hlt : ∀ (j : Nat) (oj : Oper),ops[j]? = some oj -> j < ops.size:=fun j oj hj=>(Array.getElem?_eq_some_iff.1 hj).1;refine ⟨h1,h2,fun j oj hj e he hbd=>?_,fun i j oi oj hi hj hne hoi hoj hji hij=>?_,fun j hj hjz i hi=>?_,fun i hi=>?_⟩
 ·have:=h5 j (hlt j oj hj)
  rw [hj] at this;simp only [Array.all_eq_true',decide_eq_true_eq,Bool.or_eq_true,Bool.not_eq_true'] at this;rcases this e he with h0 | h0
  ·rw [hbd] at h0; cases h0
  ·exact h0
 ·rcases h6 i hi j hj with h | h | h | h
  ·exact absurd h hne
  ·rw [h] at hji; cases hji
  ·rw [h] at hij; cases hij
  ·rw [hoi,hoj] at h; exact h
 ·refine h7 j ?_ i hi
  rw [zbo];refine ⟨Nat.zero_le _,?_⟩;rw [zbo] at hjz;rw [Nat.sub_zero] at hjz ⊢;have hv : m[j]? = some m[j]:=List.getElem?_eq_getElem hj
  cases hb : m[j] with
  | true=>rw [hv,hb]
  | false=>exact absurd ⟨Nat.zero_le _,by rw [hv,hb]⟩ hjz
 ·have:=((zbo m 0).1 hi).2
  rw [Nat.sub_zero] at this;exact (List.getElem?_eq_some_iff.1 this).1
theorem zlM {P : Program} {C : World -> Prop} {id : Nat} {Q : Exit -> Act -> World -> Prop} {a : Act} {w : World} {l : List Oper} (m : List Bool) (zs : List Nat) (hm : P.follows .mixedOrders = true) (hB : zrJ l.toArray m zs = true)
  (hd : zhY a.tmps.size (zbM true m l) = true) (hC : ∀ w1,Below w.heap.size w w1 -> C w1) (A : Act)
  (hq : ∀ S,zhM S -> (∀ w,S w -> C w) -> Nonempty (zaP S) -> wpQuiet P l.toArray (fun w'=>∃ u : zaP S,w' = u.wld) (fun a'=>a' = A) (zbM true m l) a)
  (hT : mkE P l.toArray Q C m.length zs.length zs A w) : (Code.region id l.toArray true).wp P Q a w:=by
 have F:=zsE hB
 have hzs : zib false 0 m = zs:=by
  simp only [zrJ,Bool.and_eq_true,decide_eq_true_eq] at hB;exact hB.2.2.2.2.2
 have hsz : m.length = l.length:=by have:=F.size; simpa using this
 have hd0 : Below w.heap.size w { w with drawn:=w.drawn + 1 }:=(Below.refl _ _).drew;refine wp_region_any hm ?_;have hr:=ziZ (P:=P) (A:=A) w hC m l 0 a (fun j=>by simp) (by omega) hd hq
 have inv0 : HeadInv .any l.toArray m.length (Array.replicate l.toArray.size false):=
  ⟨by simp,fun j oj _ hl=>(by rw [getD_replicate_false] at hl; cases hl),fun t _ ht=>getD_in (by simpa using ht) (getD_replicate_false _ _)⟩
 have hlen:=znn m 0;rw [hzs] at hlen;have H:=zkO (Q:=Q) (C:=C) F ((zib true 0 m).length + zs.length) (zib true 0 m) zs (Array.replicate l.toArray.size false) a A { w with drawn:=w.drawn + 1 } rfl inv0 (zfd true m 0)
  (fun j hj=>by
   have h1:=((zbo m 0).1 hj).2;rw [Nat.sub_zero] at h1;refine ⟨(List.getElem?_eq_some_iff.1 h1).1,fun h2=>?_⟩;rw [<- hzs,zbo,Nat.sub_zero,h1] at h2
   simp at h2)
  (by rw [<- hzs]; exact (zfd false m 0).imp Nat.ne_of_lt) (fun j hj=>hj)
  (fun j hj=>by
   have h1 : (Array.replicate l.toArray.size false).getD j true = false:=getD_in (by simp; omega) (getD_replicate_false _ _);rw [h1,<- hzs,zbo,zbo,Nat.sub_zero];have hv : m[j]? = some m[j]:=List.getElem?_eq_getElem hj;rw [hv]
   cases m[j] <;> simp)
  hr (fun w2 h2=>hC w2 (hd0.trans (h2.mono hd0.size))) (hT.up hd0)
 rw [hlen,hsz] at H;exact H
section
variable {P : Program} {ops : Array Oper} {Q : Exit -> Act -> World -> Prop} {C : World -> Prop}
theorem zrS {n k : Nat} {rz : List Nat} {a : Act} {w : World} (L : List Nat) (hL : rz.filter (zbk ops rz) = L)
  (h : ∀ i ∈ L,∀ w1,Below w.heap.size w w1 -> ∃ o,ops[i]? = some o /\ Region.wanted o (yielded ops a.tmps) = true /\ zca P o a w1 fun v w'=>(∀ w2,Below w'.heap.size w' w2 -> C w2) /\ mkE P ops Q C n k (rz.erase i) (a.put o.dst v) w') : mkE P ops Q C n (k + 1) rz a w:=
 fun i hi hr=>h i (hL ▸ List.mem_filter.2 ⟨hi,hr⟩)
end
end
section
open Go Go.RowKit Go.Maps
theorem Blk.keep {P : Nat -> Prop} {w w' : World} {g : Nat} {t : TypeId} {cs : Array Value} (h : Blk w g t cs) (hk : zc P w w') (hp : P g) : Blk w' g t cs:=(hk.block g h.lt hp).trans h
section
variable {P : Program} {ops : Array Oper} {Q : Exit -> Act -> World -> Prop} {C : World -> Prop}
theorem zaM {n : Nat} {rz : List Nat} {a : Act} {w : World} {last : Oper} (hl : ops[n]? = some last) (h : ∀ w1,Below w.heap.size w w1 -> wpList P ops Q [last] a w1) : mkG P ops Q C n 0 rz a w:=by
 intro w1 hb;have:=h w1 hb;unfold wpOp;simp only [hl];unfold wpList at this;exact this
theorem znG {o : Oper} {a : Act} {w : World} (ty : TypeId) (x : Operand) (ho : o.op = .load ty x) (g : Nat) (hx : a.eval x = .pointer (some ⟨g,0,none⟩)) (t : TypeId) (cs : Array Value) (d : TypeDesc)
  (hg : Blk w g t cs) (hu : P.underlying ty = some d) (hd : (match d with | .struct _ | .array _ _=>true | _=>false) = true) (hi : (P.info? ty).map (·.size) = some cs.size) : (execOp a.eval o).run P w = .ok (.value (.agg cs)) w:=by
 unfold execOp;simp only [ho,hx,Instr.loadAt,Instr.sureAddr,Sem.run_bind,Sem.run_pure,Result.andThen_ok,run_loadVar_row w g t ty cs (0,0) d hg hu hd hi]
theorem zfe {o : Oper} {a : Act} {w : World} {K : Act -> World -> Prop} (hw : Region.wanted o (yielded ops a.tmps) = true) (h : ∀ Q' : Exit -> Act -> World -> Prop,(∀ a' w',a'.defers = a.defers -> K a' w' -> Q' .normal a' w') -> wpList P ops Q' [o] a w) :
  zca P o a w fun v w'=>K (a.put o.dst v) w':=by
 have h1:=h (fun e a' w'=>e = .normal /\ (a'.defers = a.defers /\ K a' w')) (fun a' w' h1 h2=>⟨rfl,h1,h2⟩);unfold wpList at h1;rw [if_pos hw] at h1
 have hno : ¬ LetsOut (fun (e : Exit) (a' : Act) (w' : World)=>e = .normal /\ (a'.defers = a.defers /\ K a' w')):=fun hl=>by
  obtain ⟨_,_,h2,_⟩:=hl;cases h2
 rcases h1 with h1 | ⟨_,h1⟩
 ·unfold Oper.wp at h1
  unfold zca;generalize (execOp a.eval o).run P w = r at *
  cases r with
  | ok x w'=>
   cases x <;> simp only [Oper.upon] at h1 ⊢
   case value v=>exact h1.2.2
   case skip=>exact h1.2.2
   case defer d=>
    have:=h1.2.1;cases ho : o.dst <;> rw [ho] at this <;> simp [Act.put] at this
   case enter f args=>
    refine h1.mono fun e w'' he=>?_
    cases e with
    | returned v=>exact ⟨v,rfl,he.2.2⟩
    | panicked c=>exact absurd he.1 (by simp)
    | outgrown=>exact absurd he hno
   case row row args=>exact Rows.mono h1 fun v w'' he=>he.2.2
  | halt x w'=>cases x <;> simp only [Oper.upon] at h1 <;> exact absurd h1.1 (by simp)
 ·exact absurd h1 hno
theorem zff {o : Oper} {a : Act} {w : World} {R : Value -> World -> Prop} (d : Nat) (hd : o.dst = some d) (hlt : d < a.tmps.size) (hw : Region.wanted o (yielded ops a.tmps) = true)
  (h : ∀ Q' : Exit -> Act -> World -> Prop,(∀ v w',R v w' -> Q' .normal (a.put (some d) v) w') -> wpList P ops Q' [o] a w) : zca P o a w R:=by
 have h1:=zfe (K:=fun a' w'=>∃ v,a' = a.put (some d) v /\ R v w') hw fun Q' hQ=>h Q' fun v w' hr=>hQ _ _ rfl ⟨v,rfl,hr⟩;refine h1.mono fun v w' ⟨v',e,hr⟩=>?_;rw [hd] at e;have e2 : (a.put (some d) v).tmps.getD d undef = (a.put (some d) v').tmps.getD d undef:=by rw [e]
 simp [Act.put,hlt] at e2;rw [e2];exact hr
theorem zqK {i : Nat} {o : Oper} {a : Act} {w : World} {N : Oper -> Value -> World -> Prop} (h : ops[i]? = some o) (hw : Region.wanted o (yielded ops a.tmps) = true) (hm : Region.wanted o (yielded ops a.tmps) = true -> zca P o a w (N o)) :
  ∃ o,ops[i]? = some o /\ Region.wanted o (yielded ops a.tmps) = true /\ zca P o a w (N o):=⟨o,h,hw,hm hw⟩
theorem zkg {n k i j : Nat} {rz : List Nat} (rz2 : List Nat) (hrz : (rz.erase i).erase j = rz2) {a : Act} {w : World} {oi oj : Oper} (Ri Rj : Value -> World -> Prop) (hL : rz.filter (zbk ops rz) = [i,j]) (hLi : (rz.erase i).filter (zbk ops (rz.erase i)) = [j]) (hLj : (rz.erase j).filter (zbk ops (rz.erase j)) = [i])
  (hi : ops[i]? = some oi) (hj : ops[j]? = some oj) (hsel : Region.noSelect ops = true) (hap : oi.apart ops oj = true) (wi : Region.wanted oi (yielded ops a.tmps) = true) (wj : Region.wanted oj (yielded ops a.tmps) = true)
  (Mi : Region.wanted oi (yielded ops a.tmps) = true -> ∀ w1,Below w.heap.size w w1 -> zca P oi a w1 fun v w'=>Ri v w' /\ Below w1.heap.size w1 w') (Mj : Region.wanted oj (yielded ops a.tmps) = true -> ∀ w1,Below w.heap.size w w1 -> zca P oj a w1 fun v w'=>Rj v w' /\ Below w1.heap.size w1 w')
  (upi : ∀ v w w',Ri v w -> Below w.heap.size w w' -> Ri v w') (upj : ∀ v w w',Rj v w -> Below w.heap.size w w' -> Rj v w') (hC : ∀ w2,Below w.heap.size w w2 -> C w2)
  (K : ∀ v u w',Ri v w' -> Rj u w' -> Below w.heap.size w w' -> mkG P ops Q C n k rz2 ((a.put oi.dst v).put oj.dst u) w') : mkG P ops Q C n (k + 2) rz a w:=by
 subst hrz;obtain ⟨a1,a2,a3⟩:=Oper.apart_spec hap;refine zB [i,j] hL fun x hx w1 hb=>?_;rcases List.mem_cons.1 hx with rfl | hx
 ·refine ⟨oi,hi,wi,(Mi wi w1 hb).mono fun v w' ⟨h1,h2⟩=>⟨fun w2 h3=>hC w2 (za (za hb h2) h3),?_⟩⟩
  refine zB [j] hLi fun y hy w3 hb3=>?_;obtain rfl:=mS.1 hy;have hb13:=za (za hb h2) hb3;refine ⟨oj,hj,by rw [wanted_put oj a oi.dst v a1]; exact wj,((Mj wj w3 hb13).congr (execOp_put oj (fun cs b=>Region.noSelect_spec hsel _ oj cs b hj) a oi.dst v a1)).mono fun u w4 ⟨g1,g2⟩=>⟨fun w2 h3=>hC w2 (za (za hb13 g2) h3),?_⟩⟩;exact K v u w4 (upi _ _ _ (upi _ _ _ h1 hb3) g2) g1 (za hb13 g2)
 ·obtain rfl:=mS.1 hx
  refine ⟨oj,hj,wj,(Mj wj w1 hb).mono fun u w' ⟨h1,h2⟩=>⟨fun w2 h3=>hC w2 (za (za hb h2) h3),?_⟩⟩;refine zB [i] hLj fun y hy w3 hb3=>?_;obtain rfl:=mS.1 hy;have hb13:=za (za hb h2) hb3;refine ⟨oi,hi,by rw [wanted_put oi a oj.dst u a3]; exact wi,((Mi wi w3 hb13).congr (execOp_put oi (fun cs b=>Region.noSelect_spec hsel _ oi cs b hi) a oj.dst u a3)).mono fun v w4 ⟨g1,g2⟩=>⟨fun w2 h3=>hC w2 (za (za hb13 g2) h3),?_⟩⟩;rw [List.erase_comm,<- Act.put_comm a v u a2];exact K v u w4 g1 (upj _ _ _ (upj _ _ _ h1 hb3) g2) (za hb13 g2)
end
theorem zlH {w : World} {X : Nat} {L : List ByteArray} (h : Blk w X 9 (L.map Value.string).toArray) {k : Nat} (hk : k < L.length) : w.cell? ⟨X,k,none⟩ = some (.string (L.getD k ⟨#[]⟩)):=by
 rw [h.cell,List.getElem?_toArray,List.getElem?_map,List.getElem?_eq_getElem hk,zD _ _ _ hk];rfl
end
end Go.Proofs.YtggimnndflkjkaaGreatDoor
