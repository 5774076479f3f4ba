import Derived.Test.YteclineblddpbaaGreatDoorRC01
import Derived.Test.YteclineblddpbaaGreatDoorRC21
import Derived.Test.YteclineblddpbaaGreatDoorRC22
import Derived.Test.YteclineblddpbaaGreatDoorRC27
import Derived.Test.YteclineblddpbaaGreatDoorRC28
set_option linter.all false
set_option maxRecDepth 100000
set_option maxHeartbeats 0
namespace Go.Proofs.YteclineblddpbaaGreatDoorR
section
open Go Go.RowKit Go.Maps
def CopyR (t : PTree) (w : World) (e : Ending) (w' : World) : Prop:=∃ m : MTree,e = .returned m.agg /\ m.t = t /\ mtIn (fun b=>w.heap.size <= b) w' m /\ Below w.heap.size w w'
theorem copied_any : ∀ (n : Nat) (t : PTree) (v : Value) (w : World),depthT t <= n -> wideT t <= 1000 -> TrAt (fun _=>False) w t v -> Calls Tryz.prog 115 #[v] w (CopyR t w):=by
 intro n
 induction n with
 | zero=>
  intro t v w hd _ _
  cases t
  rw [depthT] at hd
  omega
 | succ n ih=>
  intro t v w hd hwd ht
  obtain ⟨r,a,b,sub⟩:=t
  obtain ⟨_,_,_,_,sv,et,rfl,hsub⟩:=ht.sub
  cases et
  rw [depthT] at hd
  rw [wideT] at hwd
  have hlen : sub.length <= 1000:=by omega
  have hsm : Hid (∀ x ∈ sub,depthT x <= n /\ wideT x <= 1000):=Hd fun x hx=>⟨by have:=depthTs_mem hx; omega,by have:=wideTs_mem hx; omega⟩
  clear hd hwd ht
  replace ih:=Hd ih
  obtain ⟨A,c,rfl,hn,hcm,hnth⟩:=hsub.nth
  unfold maxLen at hcm
  replace hnth:=Hd hnth
  clear hsub
  obtain ⟨W1,hW1⟩ : ∃ W1,W1 = w.alloc (.cells #[.int .i64 r,.int .i64 a,.int .i64 b,.slice A sub.length c] 34):=⟨_,rfl⟩
  obtain ⟨W2,hW2⟩ : ∃ W2,W2 = W1.alloc (.cells #[.int .i64 0,.int .i64 0,.int .i64 0,.slice none 0 0] 34):=⟨_,rfl⟩
  have hb1 : Below w.heap.size w W1:=by rw [hW1]; exact (Below.refl _ _).alloc (lQ _) _
  have hb2 : Hid (Below w.heap.size w W2):=Hd (by rw [hW2]; exact hb1.alloc hb1.size _)
  have kT : Hid (Blk W2 w.heap.size 34 #[.int .i64 r,.int .i64 a,.int .i64 b,.slice A sub.length c]):=Hd (by rw [hW2]; refine Blk.alloc ?_ _; rw [hW1]; exact Blk.new _ _ _)
  have kR : Hid (Blk W2 W1.heap.size 34 #[.int .i64 0,.int .i64 0,.int .i64 0,.slice none 0 0]):=Hd (by rw [hW2]; exact Blk.new _ _ _)
  have sz1 : W1.heap.size = w.heap.size + 1:=by rw [hW1]; simp
  have sz2 : Hid (W2.heap.size = W1.heap.size + 1):=Hd (by rw [hW2]; simp)
  obtain ⟨i34,hi34,hz0,hz1,hz2⟩:=info_parts info34
  replace hb1:=Hd hb1
  go_enter Tryz.func115,Tryz.ntmps115
  go_upto_region 1 with fail
  rw [<- hW1,<- hW2,<- sz1]
  clear hW1 hW2
  obtain ⟨TB,hTB⟩ : ∃ TB,TB = w.heap.size:=⟨_,rfl⟩
  obtain ⟨RB,hRB⟩ : ∃ RB,RB = W1.heap.size:=⟨_,rfl⟩
  rw [<- hTB] at kT sz1 ⊢
  rw [<- hRB] at kR sz1 sz2 ⊢
  replace sz1:=Hd sz1
  replace hTB:=Hd hTB
  replace hRB:=Hd hRB
  have x3:=kT.out.cell 3
  simp at x3
  go_wp2_with fail
  clear x3
  go_loopw [3,9] (fun ov iv wr=>∃ (k : Nat) (ms : List MTree),k <= sub.length /\ iv = .int .i64 k /\ Hid (Below w.heap.size w wr) /\ Hid (Blk wr TB 34 #[.int .i64 r,.int .i64 a,.int .i64 b,.slice A sub.length c]) /\ Hid (Blk wr RB 34 #[.int .i64 0,.int .i64 0,.int .i64 0,.slice none 0 0]) /\ Hid (OwnTrees W2.heap.size wr ov ms) /\ Hid (ms.map (·.t) = sub.take k) /\ Hid (W2.heap.size <= wr.heap.size)) (fun _ iv _=>sub.length - (intOf iv).toNat)
  case atStart=>exact ⟨0,[],by omega,rfl,hb2,kT,kR,Hd OwnL.nil_,rfl,Hd (lQ _)⟩
  case round=>
   obtain ⟨k,ms,hk,rfl,hbr,kTr,kRr,hms,hmt,hWr⟩:=hrel
   rename World=>wr
   clear kT kR hb2
   have n0 : (0 : Int) <= (k : Int):=by omega
   obtain ⟨A3,c3,rfl⟩:=hms.out.form_
   have hml : Hid (ms.length = k):=Hd (by have:=congrArg List.length hmt.out; rw [List.length_map,List.length_take] at this; omega)
   by_cases hlt : k < sub.length
   ·have n1 : (k : Int) < (sub.length : Int):=by omega
    obtain ⟨bl,off,v0,v1,v2,v3,rfl,-,c0,c1,c2,c3',htk⟩:=hnth.out k hlt
    have htx : Hid (sub.getD k PTree.zero ∈ sub):=Hd (by rw [getD_at _ _ _ hlt]; exact List.getElem_mem hlt)
    have hnx : Hid (sub.take (k + 1) = sub.take k ++ [sub.getD k PTree.zero]):=Hd (by rw [List.take_succ_eq_append_getElem hlt,getD_at _ _ _ hlt])
    generalize sub.getD k PTree.zero = x at *
    have e0:=(hbr.out.cell (p:=⟨bl,off + k * 4,none⟩) (cell_lt c0)).trans c0
    have e1:=(hbr.out.cell (p:=⟨bl,off + k * 4 + 1,none⟩) (cell_lt c1)).trans c1
    have e2:=(hbr.out.cell (p:=⟨bl,off + k * 4 + 2,none⟩) (cell_lt c2)).trans c2
    have e3:=(hbr.out.cell (p:=⟨bl,off + k * 4 + 3,none⟩) (cell_lt c3')).trans c3'
    obtain ⟨xr,xa,xb,xs,xsv,ex,ev,Ax,cx,rfl,_⟩:=htk.sub
    simp only [Value.agg.injEq,Array.mk.injEq,List.cons.injEq,and_true] at ev
    obtain ⟨rfl,rfl,rfl,rfl⟩:=ev
    clear ex
    obtain ⟨w3,hw3⟩ : ∃ w3,w3 = wr.alloc (.cells #[.int .i64 xr,.int .i64 xa,.int .i64 xb,.slice Ax xs.length cx] 34):=⟨_,rfl⟩
    have hb3 : Below wr.heap.size wr w3:=by rw [hw3]; exact (Below.refl _ _).alloc (lQ _) _
    have k3 : Blk w3 wr.heap.size 34 #[.int .i64 xr,.int .i64 xa,.int .i64 xb,.slice Ax xs.length cx]:=by rw [hw3]; exact Blk.new _ _ _
    have hcopy:=Hd (ih.out x _ w3 (hsm.out x htx.out).1 (hsm.out x htx.out).2 (TrAt.keep (CKp.of_below (hbr.out.trans (hb3.mono hbr.out.size)) _) (fun b h=>.inl h) x _ htk))
    go_upto_region 5 with fail
    rw [<- hw3]
    clear hw3 c0 c1 c2 c3' e0 e1 e2 e3
    replace hb3:=Hd hb3
    generalize wr.heap.size = PB at k3 ⊢
    have y0:=k3.cell 0
    have y1:=k3.cell 1
    have y2:=k3.cell 2
    have y3:=k3.cell 3
    simp at y0 y1 y2 y3
    go_wp2_with fail
    refine hcopy.out.mono ?_
    rintro e w4 ⟨m,rfl,hmx,hmi,hb4⟩
    clear hcopy y0 y1 y2 y3 k3
    obtain ⟨mt,m0,m1,m2,m3⟩:=m
    simp only at hmx
    subst hmx
    obtain ⟨r',a',b',s',sv',-,ev,A',c',rfl,-⟩:=hmi.sub
    simp only [MTree.agg,Value.agg.injEq,Array.mk.injEq,List.cons.injEq,and_true] at ev
    obtain ⟨rfl,rfl,rfl,rfl⟩:=ev
    obtain ⟨md,hmd⟩ : ∃ md : MTree,md = ⟨mt,.int .i64 r',.int .i64 a',.int .i64 b',.slice A' s'.length c'⟩:=⟨_,rfl⟩
    rw [<- hmd] at hmi
    have hup:=Hd (hb3.out.trans (hb4.mono hb3.out.size))
    have hupA:=Hd (hup.out.alloc hup.out.size (.cells #[.int .i64 r',.int .i64 a',.int .i64 b',.slice A' s'.length c'] 34))
    have hoA:=Hd (hms.out.keep mtIn_inner (Keeps.of_below hupA.out _))
    have hwr3 : Hid (wr.heap.size <= w3.heap.size):=Hd hb3.out.size
    have ha : Hid (mtIn (fun b=>W2.heap.size <= b /\ some b ≠ (Value.slice A3 ms.length c3).ownBlock) (w4.alloc (.cells #[.int .i64 r',.int .i64 a',.int .i64 b',.slice A' s'.length c'] 34)) md):=Hd (by
     refine mtIn_inner.keep hmi (Keeps.of_below ((Below.refl _ _).alloc (lQ _) _) _) (fun b _ hb=>⟨?_,fun e=>?_⟩)
     ·have:=hWr.out; have:=hwr3.out; omega
     ·have:=(hms.out.1.lt b e.symm).2; have:=hwr3.out; omega)
    have hs4:=hb4.size
    have hWr4 : W2.heap.size <= w4.heap.size:=by have:=hWr.out; have:=hwr3.out; omega
    have hml2 : ms.length <= 1000:=by have:=hml.out; omega
    have sd1 : ms.length + 1 <= maxLen:=by unfold maxLen; omega
    have sd4 : (ms.length + 1) * 48 <= 140737488355328:=by omega
    have hcells : Hid (mtCells md = [.int .i64 r',.int .i64 a',.int .i64 b',.slice A' s'.length c']):=Hd (by rw [hmd]; rfl)
    have hmdt : Hid (md.t = mt):=Hd (by rw [hmd])
    replace hmi:=Hd hmi
    clear hb4 hmd hml2 hs4
    unfold MTree.agg
    replace hlt:=Hd hlt
    go_wp2_with (at_builtin; refine wpList_append_lies _ rfl (.tmp 13) (.tmp 16) 30 rfl W2.heap.size 34 i34 (.agg #[.int .i64 0,.int .i64 0,.int .i64 0,.slice none 0 0]) 4 48 Tryz.underlying30 hi34 hz0 hz1 hz2 rfl (by decide) (.slice A3 ms.length c3) ms.length (ms.flatMap mtCells) rfl (by exact hoA.out.1) ⟨w4.heap.size,0,none⟩ 1 1 [.int .i64 r',.int .i64 a',.int .i64 b',.slice A' s'.length c'] rfl rfl (by exact World.news_of_block (cs:=#[.int .i64 r',.int .i64 a',.int .i64 b',.slice A' s'.length c']) (heap_alloc_new _ _)) (by exact one4 rfl rfl rfl rfl) Nat.one_pos sd1 sd4 (by simp; omega) (w4.heap.size + 1) (by simp) ?_; intro g2 cap2 w5 hown2 hgr2 hat2 hlt2)
    have hown2' : Hid (w5.ownsRow W2.heap.size 34 4 (.slice (some ⟨g2,0,none⟩) (ms.length + 1) cap2) (ms.length + 1) (ms.flatMap mtCells ++ mtCells md)):=Hd (by rw [hcells.out]; exact hown2)
    have hRr:=slot_append mtIn_inner (a:=md) hbr.out hms.out hupA.out (by have:=sz2.out; have:=sz1.out; have:=hTB.out; omega) hbr.out.size ha.out hown2'.out rfl hgr2 (hat2.imp_right (fun e=>by simp [e]))
    have hrowlt : Hid (∀ b,(Value.slice A3 ms.length c3).ownBlock = some b -> W2.heap.size <= b):=Hd fun b e=>(hms.out.1.lt b e).1
    have kT5 : Hid (Blk w5 TB 34 #[.int .i64 r,.int .i64 a,.int .i64 b,.slice (some ⟨bl,off,none⟩) sub.length c]):=Hd ((kTr.out.below hupA.out kTr.out.lt).grown hgr2 (fun e=>by have:=hrowlt.out _ e.symm; have:=sz2.out; have:=sz1.out; omega))
    have kR5 : Hid (Blk w5 RB 34 #[.int .i64 0,.int .i64 0,.int .i64 0,.slice none 0 0]):=Hd ((kRr.out.below hupA.out kRr.out.lt).grown hgr2 (fun e=>by have:=hrowlt.out _ e.symm; have:=sz2.out; omega))
    have hW5 : Hid (W2.heap.size <= w5.heap.size):=Hd (by have:=hgr2.size; simp at this; omega)
    have hRr':=Hd hRr
    have hmt5 : Hid ((ms ++ [md]).map (·.t) = sub.take (k + 1)):=Hd (by rw [List.map_append,hmt.out,hnx.out,<- hmdt.out]; rfl)
    clear hown2 hgr2 hat2 hlt2 hRr
    go_roundw
    case rel=>exact ⟨k + 1,ms ++ [md],by have:=hlt.out; omega,by go_num,Hd hRr'.out.1,kT5,kR5,Hd (by simpa using hRr'.out.2),hmt5,hW5⟩
    case measure=>have:=hlt.out; simp [intOf]; omega
   ·obtain rfl : k = sub.length:=by omega
    rw [List.take_length] at hmt
    have y3:=kTr.out.cell 3
    have f3:=kTr.out.frozen 3
    have l3:=kTr.out.lt
    simp at y3
    rw [hml.out] at hms ⊢
    obtain ⟨wE,hwE⟩ : ∃ wE,wE = wr.setCell ⟨TB,3,none⟩ (.slice A3 sub.length c3):=⟨_,rfl⟩
    have hlay : Hid (w.heap.size <= TB /\ TB < RB /\ RB < W2.heap.size):=Hd ⟨by have:=hTB.out; omega,by have:=sz1.out; omega,by have:=sz2.out; omega⟩
    have hbE : Hid (Below w.heap.size w wE):=Hd (by rw [hwE]; exact below_setc hbr.out hlay.out.1 _)
    have kTE : Hid (Blk wE TB 34 #[.int .i64 r,.int .i64 a,.int .i64 b,.slice A3 sub.length c3]):=Hd (by rw [hwE]; have:=kTr.out.set_ 3 (.slice A3 sub.length c3); simpa using this)
    have kRE : Hid (Blk wE RB 34 #[.int .i64 0,.int .i64 0,.int .i64 0,.slice none 0 0]):=Hd (by rw [hwE]; exact kRr.out.far (p:=⟨TB,3,none⟩) (by show RB ≠ TB; have:=hlay.out; omega) _)
    have hmsE : Hid (OwnTrees W2.heap.size wE (.slice A3 sub.length c3) ms):=Hd (by rw [hwE]; exact hms.out.keep mtIn_inner (Keeps.set_ _ _ _ (by show ¬ W2.heap.size <= TB; have:=hlay.out; omega)))
    go_upto_region 8 with fail
    rw [<- hwE]
    clear hwE y3 f3 l3 hbr kTr kRr hms
    apply wp_region_lit
    refine wpList_load_row rfl 34 (.tmp 1) rfl TB rfl 34 #[.int .i64 r,.int .i64 a,.int .i64 b,.slice A3 sub.length c3] (0,0) _ kTE.out Tryz.underlying34 rfl (by kernel_rfl) ?_
    simp only [Act.put,sX,sZ,sS]
    refine wpList_store_rowTo rfl 34 (.tmp 2) (.tmp 21) rfl rfl RB #[.int .i64 r,.int .i64 a,.int .i64 b,.slice A3 sub.length c3] rfl rfl 34 _ kRE.out (by kernel_rfl) rfl (by kernel_rfl) ?_
    apply wpList_nil
    go_wp2
    refine bodyPost_ret (results_cell_row Tryz.results115 _ _ RB 34 _ (0,0) _ rfl (setRow_heap _ _ _ _ _ _ kRE.out) Tryz.underlying34 rfl (by kernel_rfl)) rfl ?_
    refine ⟨⟨.node r a b sub,.int .i64 r,.int .i64 a,.int .i64 b,.slice A3 sub.length c3⟩,rfl,rfl,?_,below_setRow hbE.out (by have:=hlay.out; omega) _⟩
    have hs:=OwnTrees.sub (hmsE.out.keep mtIn_inner (keeps_setRow wE RB #[.int .i64 r,.int .i64 a,.int .i64 b,.slice A3 sub.length c3] (by have:=hlay.out; omega))) (O:=fun b=>¬ w.heap.size <= b) (fun b hb=>by have:=hlay.out; omega)
    rw [hmt.out] at hs
    exact TrAt.of_sub hs
end
section
open Go Go.RowKit
section
variable {P : Program} {ops : Array Oper} {Q : Exit -> Act -> World -> Prop} {C : World -> Prop} {T : Act -> World -> Prop}
structure FlowD (ops : Array Oper) (n : Nat) (zs : List Nat) : Prop where
 size : n < ops.size
 sel : Region.noSelect ops = true
 wait : ∀ t,n <= t -> t < ops.size -> ∀ i,i < n -> Region.waitsFor .any ops t i = true
 low : ∀ (j : Nat) (oj : Oper),ops[j]? = some oj -> ∀ e ∈ oj.after,Region.binds .any e = true -> e.on < j
 ap : ∀ (i j : Nat) (oi oj : Oper),i < n -> j < n -> i ≠ j -> ops[i]? = some oi -> ops[j]? = some oj -> Region.waitsFor .any ops j i = false -> Region.waitsFor .any ops i j = false -> oi.apart ops oj = true
 qz : ∀ j,j < n -> j ∉ zs -> ∀ i ∈ zs,Region.waitsFor .any ops j i = false
 zg : ∀ i ∈ zs,i < n /\ ∀ o : Oper,ops[i]? = some o -> o.guard = none
theorem flowD_any {n : Nat} {zs : List Nat} (F : FlowD ops n zs) {G : Nat -> Array Bool -> Act -> World -> Prop} (hG0 : ∀ b a w,HeadInv .any ops n b -> (∀ j,j < n -> b.getD j false = true) -> (∀ w1,Below w.heap.size w w1 -> T a w1) -> G 0 b a w)
  (hGs : ∀ m b a w,Region.ready .any ops b ≠ [] -> (∀ i ∈ Region.ready .any ops b,wpOp P ops Q i (G m (b.setIfInBounds i true)) a w) -> G (m + 1) b a w) : ∀ (m : Nat) (r rz : List Nat) (b : Array Bool) (a A : Act) (w : World),r.length + rz.length = m -> HeadInv .any ops n b -> r.Pairwise (· < ·) -> (∀ j ∈ r,j < n /\ j ∉ zs) ->
  rz.Nodup -> (∀ j ∈ rz,j ∈ zs) -> (∀ j,j < n -> (b.getD j true = false ↔ j ∈ r \/ j ∈ rz)) -> runQ P ops C r a A -> (∀ w2,Below w.heap.size w w2 -> C w2) -> mkT P ops C T rz.length rz A w -> G m b a w
 | 0,r,rz,b,a,A,w,hm,inv,_,_,_,_,hun,hq,_,hz=>by
  obtain rfl : r = []:=List.eq_nil_of_length_eq_zero (by omega)
  obtain rfl : rz = []:=List.eq_nil_of_length_eq_zero (by omega)
  obtain rfl : a = A:=hq
  exact hG0 b a w inv (fun j hj=>by
   have h1 : ¬ b.getD j true = false:=fun h=>by rcases (hun j hj).1 h with h | h <;> cases h
   cases h2 : b.getD j false with
   | true=>rfl
   | false=>exact absurd (getD_in (by rw [inv.size]; have:=F.size; omega) h2) h1) hz
 | m + 1,r,rz,b,a,A,w,hm,inv,hpw,hr,hnd,hrz,hun,hq,hC,hz=>by
  have hn : n < ops.size:=F.size
  have hex : ∃ i0,i0 < n /\ b.getD i0 true = false:=by
   cases r with
   | cons i _=>exact ⟨i,(hr i (List.mem_cons_self ..)).1,(hun i (hr i (List.mem_cons_self ..)).1).2 (.inl (List.mem_cons_self ..))⟩
   | nil=>cases rz with
    | cons i _=>
     have:=(F.zg i (hrz i (List.mem_cons_self ..))).1
     exact ⟨i,this,(hun i this).2 (.inr (List.mem_cons_self ..))⟩
    | nil=>simp at hm
  obtain ⟨i0,hi0,hu0⟩:=hex
  obtain ⟨j0,hj0⟩:=exists_ready F.low hn inv.size i0 i0 rfl hi0 hu0
  refine hGs m b a w (fun h0=>(by rw [h0] at hj0; cases hj0)) fun i hi=>?_
  have hin : i < n:=by
   rcases Nat.lt_or_ge i n with h | h
   ·exact h
   ·obtain ⟨_,o,ho,hall⟩:=mem_ready.1 hi
    obtain ⟨o',ho',e,he,hbd,hon⟩:=Region.waitsFor_spec (F.wait i h (Array.getElem?_eq_some_iff.1 ho).1 i0 hi0)
    obtain rfl : o' = o:=Option.some.inj (ho'.symm.trans ho)
    have h1:=hall e he hbd
    rw [hon,getD_both hu0] at h1
    cases h1
  obtain ⟨hiu,oi,hoi,hall⟩:=mem_ready.1 hi
  have hunset : ∀ (r' rz' : List Nat),(∀ j,j ≠ i -> ((j ∈ r' \/ j ∈ rz') ↔ (j ∈ r \/ j ∈ rz))) -> i ∉ r' -> i ∉ rz' -> ∀ j,j < n -> ((b.setIfInBounds i true).getD j true = false ↔ j ∈ r' \/ j ∈ rz'):=fun r' rz' h1 h2 h3 j hj=>by
   rcases Decidable.em (i = j) with rfl | hne
   ·have hsz : i < b.size:=by rw [inv.size]; omega
    simp [hsz,h2,h3]
   ·rw [getD_set_ne true hne,hun j hj,h1 j (Ne.symm hne)]
  rcases (hun i hin).1 hiu with hir | hir
  ·obtain ⟨r1,r2,rfl⟩:=List.append_of_mem hir
   have hlt1 : ∀ j ∈ r1,j < i:=fun j hj=>(List.pairwise_append.1 hpw).2.2 j hj i (List.mem_cons_self ..)
   have hgt2 : ∀ j ∈ r2,i < j:=fun j hj=>(List.pairwise_cons.1 (List.pairwise_append.1 hpw).2.1).1 j hj
   have hap1 : ∀ j ∈ r1,∀ oj,ops[j]? = some oj -> oi.apart ops oj = true:=fun j hj oj hoj=>by
    have hjn:=(hr j (List.mem_append_left _ hj)).1
    refine F.ap i j oi oj hin hjn (by have:=hlt1 j hj; omega) hoi hoj ?_ (unlisted_wait hi ((hun j hjn).2 (.inl (List.mem_append_left _ hj))))
    cases h : Region.waitsFor .any ops j i with
    | false=>rfl
    | true=>
     obtain ⟨o',ho',e,he,hbd,hon⟩:=Region.waitsFor_spec h
     have:=F.low j o' ho' e he hbd
     have:=hlt1 j hj
     omega
   obtain ⟨v,hy,hq'⟩:=runQ_pull F.sel hoi r1 a hap1 hq
   have hsub : List.Sublist (r1 ++ r2) (r1 ++ i :: r2):=List.Sublist.append (List.Sublist.refl _) (List.sublist_cons_self ..)
   have next : ∀ w',Below w.heap.size w w' -> G m (b.setIfInBounds i true) (a.put oi.dst v) w':=fun w' hb=>by
    refine flowD_any F hG0 hGs m (r1 ++ r2) rz _ _ A w' (by simp at hm ⊢; omega) (inv.set hi hin) (hpw.sublist hsub) (fun j hj=>hr j (hsub.subset hj)) hnd hrz (hunset _ _ ?_ ?_ ?_) hq' (fun w2 h2=>hC w2 (hb.trans (h2.mono hb.size))) (mkT.up hz hb)
    ·intro j hj
     simp [hj]
    ·intro h
     rcases List.mem_append.1 h with h | h
     ·have:=hlt1 i h; omega
     ·have:=hgt2 i h; omega
    ·intro h
     exact (hr i hir).2 (hrz i h)
   unfold wpOp
   simp only [hoi]
   rcases hy with ⟨hw,hv⟩ | ⟨hw,rfl⟩
   ·rw [if_pos hw]
    refine .inl (Oper.wp_of_quiet (C:=CS1 fun w'=>Below w.heap.size w w') ⟨⟨w,Below.refl _ _⟩,rfl⟩ (K:=fun a'=>a' = a.put oi.dst v) ?_ ⟨v,hv _ (fun _ _ h1 h2=>h1.trans (h2.mono h1.size)) hC,rfl⟩)
    rintro a' w' ⟨u,rfl⟩ rfl
    exact next _ u.mem
   ·rw [if_neg (by rw [hw]; exact Bool.false_ne_true)]
    exact next w (Below.refl _ _)
  ·have hapz : ∀ j ∈ r,∀ oj,ops[j]? = some oj -> oi.apart ops oj = true:=fun j hj oj hoj=>by
    have hjn:=hr j hj
    exact F.ap i j oi oj hin hjn.1 (fun e=>hjn.2 (e ▸ hrz i hir)) hoi hoj (F.qz j hjn.1 hjn.2 i (hrz i hir)) (unlisted_wait hi ((hun j hjn.1).2 (.inl hj)))
   have hlen:=List.length_erase_of_mem hir
   have hpos : 0 < rz.length:=List.length_pos_of_mem hir
   obtain ⟨k,hk⟩ : ∃ k,rz.length = k + 1:=⟨rz.length - 1,by omega⟩
   rw [hk] at hz
   have hrd : readyZ ops rz i = true:=by
    unfold readyZ
    simp only [hoi,Array.all_eq_true',Bool.or_eq_true,Bool.not_eq_true']
    intro e he
    cases hb : Region.binds .any e with
    | false=>exact .inl rfl
    | true=>
     refine .inr ?_
     have h1:=hall e he hb
     cases hc : rz.contains e.on with
     | false=>rfl
     | true=>
      have hmem : e.on ∈ rz:=by simpa using hc
      have hlt:=(F.zg _ (hrz _ hmem)).1
      have h2:=(hun _ hlt).2 (.inr hmem)
      rw [getD_both h2] at h1
      cases h1
   obtain ⟨o,ho,hmade⟩:=hz i hir hrd w (Below.refl _ _)
   obtain rfl : o = oi:=Option.some.inj (ho.symm.trans hoi)
   have hmade':=hmade.congr (runQ_exec F.sel hoi r a hapz hq).symm
   have hw : Region.wanted o (yielded ops a.tmps) = true:=by unfold Region.wanted; rw [(F.zg i (hrz i hir)).2 o ho]
   unfold wpOp
   simp only [hoi]
   rw [if_pos hw]
   refine .inl (hmade'.wp ?_)
   rintro v w' ⟨hC',hz'⟩
   have hke : (rz.erase i).length = k:=by omega
   refine flowD_any F hG0 hGs m r (rz.erase i) _ _ (A.put o.dst v) w' (by omega) (inv.set hi hin) hpw hr (hnd.erase i) (fun j hj=>hrz j (List.mem_of_mem_erase hj)) (hunset _ _ ?_ ?_ ?_) (runQ_put F.sel r a hapz hq) hC' (by rw [hke]; exact hz')
   ·intro j hj
    rw [hnd.mem_erase_iff]
    simp [hj]
   ·exact fun h=>(hr i h).2 (hrz i hir)
   ·rw [hnd.mem_erase_iff]; simp
end
def flowDB (ops : Array Oper) (m : List Bool) (zs : List Nat) : Bool:=
 decide (m.length < ops.size) && (Region.noSelect ops && (((List.range ops.size).all fun t=>decide (t < m.length) || (List.range m.length).all fun i=>Region.waitsFor .any ops t i) && (
  ((List.range ops.size).all fun j=>match ops[j]? with | some oj=>oj.after.all (fun e=>!Region.binds .any e || decide (e.on < j)) | none=>true) && (
  ((List.range m.length).all fun i=>(List.range m.length).all fun j=>decide (i = j) || (Region.waitsFor .any ops j i || (Region.waitsFor .any ops i j || (match ops[i]?,ops[j]? with | some oi,some oj=>oi.apart ops oj | _,_=>true)))) && (
  ((idxB true 0 m).all fun j=>zs.all fun i=>!Region.waitsFor .any ops j i) && (
  (zs.all fun i=>match ops[i]? with | some o=>o.guard.isNone | none=>true) && decide (idxB false 0 m = zs)))))))
theorem flowD_of {ops : Array Oper} {m : List Bool} {zs : List Nat} (h : flowDB ops m zs = true) : FlowD ops m.length zs:=by
 simp only [flowDB,Bool.and_eq_true,decide_eq_true_eq,List.all_eq_true,List.mem_range,Bool.or_eq_true,Bool.not_eq_true'] at h
 obtain ⟨h1,h2,h4,h5,h6,h7,h8,rfl⟩:=h
 have hlt : ∀ (j : Nat) (oj : Oper),ops[j]? = some oj -> j < ops.size:=fun j oj hj=>(Array.getElem?_eq_some_iff.1 hj).1
 refine ⟨h1,h2,fun t h9 h10 i h11=>(h4 t h10).resolve_left (by omega) i h11,fun j oj hj e he hbd=>?_,fun i j oi oj hi hj hne hoi hoj hji hij=>?_,fun j hj hjz i hi=>?_,fun i hi=>⟨?_,fun o ho=>?_⟩⟩
 ·have:=h5 j (hlt j oj hj)
  rw [hj] at this
  simp only [Array.all_eq_true',decide_eq_true_eq,Bool.or_eq_true,Bool.not_eq_true'] at this
  rcases this e he with h0 | h0
  ·rw [hbd] at h0; cases h0
  ·exact h0
 ·rcases h6 i hi j hj with h | h | h | h
  ·exact absurd h hne
  ·rw [h] at hji; cases hji
  ·rw [h] at hij; cases hij
  ·rw [hoi,hoj] at h; exact h
 ·refine h7 j ?_ i hi
  rw [mem_idx]
  refine ⟨Nat.zero_le _,?_⟩
  rw [mem_idx] at hjz
  rw [Nat.sub_zero] at hjz ⊢
  have hv : m[j]? = some m[j]:=List.getElem?_eq_getElem hj
  cases hb : m[j] with
  | true=>rw [hv,hb]
  | false=>exact absurd ⟨Nat.zero_le _,by rw [hv,hb]⟩ hjz
 ·have:=((mem_idx m 0).1 hi).2
  rw [Nat.sub_zero] at this
  exact (List.getElem?_eq_some_iff.1 this).1
 ·have:=h8 i hi
  rw [ho] at this
  simpa using this
theorem wpIn_region_flowD {P : Program} {C : World -> Prop} {id : Nat} {Q : Exit -> Act -> World -> Prop} {a : Act} {w : World} {l : List Oper} {lp np : Nat} (m : List Bool) (zs : List Nat) (g : Nat) (hm : P.follows .mixedOrders = true) (hB : flowDB l.toArray m zs = true) (hg : m.length + g = l.length)
  (hd : dstsOK a.tmps.size (pickB true m l) = true) (hC : ∀ w1,Below w.heap.size w w1 -> C w1) (A : Act)
  (hq : ∀ S,Grows S -> (∀ w,S w -> C w) -> Nonempty (UpsC S) -> wpQuiet P l.toArray (fun w'=>∃ u : UpsC S,w' = u.wld) (fun a'=>a' = A) (pickB true m l) a)
  (hdf : noDefB l.toArray = true) (hQ : ¬ LetsOut Q) (hT : mkT P l.toArray C (fun a' w'=>wpAnyIn (Fence.wide.inRound lp) np P .any l.toArray Q g (headAll m.length l.toArray.size) a' w') zs.length zs A w) : (Code.region id l.toArray true).wpIn (Fence.wide.inRound lp) np P Q a w:=by
 have F:=flowD_of hB
 have hzs : idxB false 0 m = zs:=by
  simp only [flowDB,Bool.and_eq_true,decide_eq_true_eq] at hB
  exact hB.2.2.2.2.2.2.2
 have hd0 : Below w.heap.size w { w with drawn:=w.drawn + 1 }:=(Below.refl _ _).drew
 refine wpIn_region_any hm ?_
 have hr:=runQ_of (P:=P) (A:=A) w hC m l 0 a (fun j=>by simp) (by omega) hd hq
 have inv0 : HeadInv .any l.toArray m.length (Array.replicate l.toArray.size false):=
  ⟨by simp,fun j oj _ hl=>(by rw [getD_replicate_false] at hl; cases hl),fun t _ ht=>getD_in (by simpa using ht) (getD_replicate_false _ _)⟩
 have hlen:=idx_len m 0
 rw [hzs] at hlen
 have H:=flowD_any (P:=P) (Q:=Q) (C:=C) F (G:=fun k b a' w'=>wpAnyIn (Fence.wide.inRound lp) np P .any l.toArray Q (k + g) b a' w')
  (fun b a' w' inv hall hT'=>by
   have hb:=headAll_of inv hall
   simp only [Nat.zero_add]
   rw [hb]
   exact hT' w' (Below.refl _ _))
  (fun k b a' w' hne h=>by
   simp only [show k + 1 + g = (k + g) + 1 by omega]
   exact ⟨fun h0=>absurd h0 hne,fun i hi=>wpOp_in hdf hQ (fun _ _ h=>h) (h i hi)⟩)
  ((idxB true 0 m).length + zs.length) (idxB true 0 m) zs (Array.replicate l.toArray.size false) a A { w with drawn:=w.drawn + 1 } rfl inv0 (idx_pair true m 0)
  (fun j hj=>by
   have h1:=((mem_idx m 0).1 hj).2
   rw [Nat.sub_zero] at h1
   refine ⟨(List.getElem?_eq_some_iff.1 h1).1,fun h2=>?_⟩
   rw [<- hzs,mem_idx,Nat.sub_zero,h1] at h2
   simp at h2)
  (by rw [<- hzs]; exact (idx_pair false m 0).imp Nat.ne_of_lt) (fun j hj=>hj)
  (fun j hj=>by
   have h1 : (Array.replicate l.toArray.size false).getD j true = false:=getD_in (by simp; omega) (getD_replicate_false _ _)
   rw [h1,<- hzs,mem_idx,mem_idx,Nat.sub_zero]
   have hv : m[j]? = some m[j]:=List.getElem?_eq_getElem hj
   rw [hv]
   cases m[j] <;> simp)
  hr (fun w2 h2=>hC w2 (hd0.trans (h2.mono hd0.size))) (mkT.up hT hd0)
 rw [hlen,show m.length + g = l.toArray.size by simpa using hg] at H
 exact H
theorem anyIn_pick {F : Fence} {n g : Nat} {P : Program} {ops : Array Oper} {Q : Exit -> Act -> World -> Prop} {b : Array Bool} {a : Act} {w : World} (is : List Nat) (h : Region.ready .any ops b = is) (hne : is ≠ [])
  (hi : ∀ i ∈ is,wpOpIn F n P ops Q i (wpAnyIn F n P .any ops Q g (b.setIfInBounds i true)) a w) : wpAnyIn F n P .any ops Q (g + 1) b a w:=
 ⟨fun h0=>absurd (h.symm.trans h0) hne,fun i hi'=>hi i (by rw [<- h]; exact hi')⟩
theorem anyIn_done {F : Fence} {n : Nat} {P : Program} {ops : Array Oper} {Q : Exit -> Act -> World -> Prop} {b : Array Bool} {a : Act} {w : World} (h : Region.ready .any ops b = []) (hQ : Q .normal a w) : wpAnyIn F n P .any ops Q 0 b a w:=⟨h,hQ⟩
theorem pick_nil {p : Nat -> Prop} : ∀ i ∈ ([] : List Nat),p i:=fun _ h=>by cases h
theorem pick_cons {p : Nat -> Prop} {j : Nat} {l : List Nat} (h1 : p j) (h2 : ∀ i ∈ l,p i) : ∀ i ∈ j :: l,p i:=fun i h=>by
 rcases List.mem_cons.1 h with rfl | h
 ·exact h1
 ·exact h2 i h
theorem opIn_list {P : Program} {ops : Array Oper} {Q : Exit -> Act -> World -> Prop} {K : Act -> World -> Prop} {lp np i : Nat} {a : Act} {w : World} {o : Oper} (hi : ops[i]? = some o) (hd : noDefB ops = true) (hg : o.guard = none) (hQ : ¬ LetsOut Q)
  (h : ∀ Q' : Exit -> Act -> World -> Prop,(∀ a' w',a'.defers = a.defers -> K a' w' -> Q' .normal a' w') -> wpList P ops Q' [o] a w) : wpOpIn (Fence.wide.inRound lp) np P ops Q i K a w:=by
 refine wpOp_in (K:=K) hd hQ (fun _ _ h=>h) ?_
 have hw : Region.wanted o (yielded ops a.tmps) = true:=by unfold Region.wanted; rw [hg]
 unfold wpOp
 simp only [hi]
 rw [if_pos hw]
 exact .inl ((made_of (K:=K) hg h).wp fun v w' h=>h)
end
section
open Go Go.RowKit Go.Maps
def ubR (u : Nat -> Nat) (L : Nat) : List PItem -> Nat
 | []=>1
 | i :: t=>if i.cls ≠ 0 then ubR u L t else if t = [] then u i.sym else L * (ubR u L t * u i.sym)
def ubN (g : List PRule) (L : Nat) : Nat -> Nat -> Nat
 | 0,_=>0
 | d + 1,s=>sumN ((symRules g s).map fun r=>ubR (ubN g L d) L (ruleOf g r))
theorem sumN_le {M : Nat} : ∀ (l : List Nat),(∀ x ∈ l,x <= M) -> sumN l <= l.length * M
 | [],_=>by simp [sumN]
 | a :: t,h=>by
  have h1:=h a (List.mem_cons_self ..)
  have h2:=sumN_le t fun x hx=>h x (List.mem_cons_of_mem _ hx)
  rw [sumN,List.length_cons,Nat.succ_mul]
  omega
theorem sumN_map_le {α : Type} {f f' : α -> Nat} : ∀ (l : List α),(∀ x ∈ l,f x <= f' x) -> sumN (l.map f) <= sumN (l.map f')
 | [],_=>lQ _
 | a :: t,h=>by
  have h1:=h a (List.mem_cons_self ..)
  have h2:=sumN_map_le t fun x hx=>h x (List.mem_cons_of_mem _ hx)
  simp only [List.map_cons,sumN]
  omega
theorem restN_ub {sy : Nat -> Nat -> Nat -> Nat} {tk : List Nat} {u : Nat -> Nat} {L : Nat} (hu : ∀ s a b,b <= L -> sy s a b <= u s) : ∀ (its : List PItem) (a b : Nat),b <= L -> restN sy tk its a b <= ubR u L its
 | [],a,b,_=>by
  rw [restN,ubR]
  split <;> omega
 | i :: t,a,b,hb=>by
  rw [restN,ubR]
  split
  ·exact Nat.zero_le _
  ·rename_i hlen
   split
   ·split
    ·exact Nat.zero_le _
    ·exact restN_ub hu t _ _ hb
   ·split
    ·exact hu _ _ _ hb
    ·refine Nat.le_trans (sumN_le (M:=ubR u L t * u i.sym) _ ?_) ?_
     ·intro x hx
      obtain ⟨k,hk,rfl⟩:=List.mem_map.1 hx
      have hk:=List.mem_range.1 hk
      exact Nat.mul_le_mul (restN_ub hu t _ _ hb) (hu _ _ _ (by omega))
     ·rw [List.length_map,List.length_range]
      exact Nat.mul_le_mul_right _ (by omega)
theorem symN_ub {g : List PRule} {tk : List Nat} {L : Nat} : ∀ (d s a b : Nat),b <= L -> symN g tk d s a b <= ubN g L d s
 | 0,_,_,_,_=>lQ _
 | d + 1,s,a,b,hb=>sumN_map_le _ fun r _=>restN_ub (fun s a b h=>symN_ub d s a b h) _ _ _ hb
structure GramOK (g : List PRule) (rk : Nat -> Nat) (D : Nat) : Prop where
 glen : g.length <= 200
 rules : ∀ r,r < g.length -> (ruleOf g r).length <= 8 /\ (g.getD r PRule.zero).left < 64 /\ ∀ i ∈ ruleOf g r,i.cls < 65536 /\ i.sym < 64
 full : ∀ r,r < g.length -> 0 < (ruleOf g r).length /\ ∀ i ∈ ruleOf g r,i.cls ≠ 0 -> i.sym = 0
 ranked : Ranked g rk
 rkD : ∀ s,rk s < D
 small : ∀ s,s < 64 -> ubN g 40 D s < 4294967296
 smallR : ∀ r,r < g.length -> ∀ its,its <:+ ruleOf g r -> ubR (ubN g 40 D) 40 its < 4294967296
def chartOf (g : List PRule) (tk : List Nat) (D C S R : Nat) (E : List PEnd) (bg : List Nat) : ChartD:=⟨C,S,R,g,tk,E,bg,symN g tk D⟩
section
variable {w0 w : World} {B C S R N Bg n D : Nat} {tv ev : Value} {g : List PRule} {E : List PEnd} {M : List (PEnd × Nat)} {bg : List Nat} {rv : Nat -> Value} {tk : List Nat} {rk : Nat -> Nat}
theorem newC_ok (h : NewC w0 B C S R N Bg tv g g.length g.length E n M bg rv ev w) (hg : GramOK g rk D) (hE : E.length <= 1 + 8 * g.length) (ht : tk.length <= 40) (htc : ∀ i,tk.getD i 0 < 65536) : ChartOK (chartOf g tk D C S R E bg) rk where
 ne:=h.ne.1
 glen:=hg.glen
 tlen:=ht
 elen:=by have:=hg.glen; show E.length <= 2000; omega
 tcls:=htc
 ecls:=fun r hr=>(hg.rules r hr).2.2
 blen:=h.blen
 chain:=h.chn
 ranked:=hg.ranked
 step:=symN_step hg.ranked hg.rkD
 small:=fun s a b hs _ hb=>Nat.lt_of_le_of_lt (symN_ub D s a b (Nat.le_trans hb ht)) (hg.small s hs)
 smallR:=fun r hr its hi a b _ hb=>Nat.lt_of_le_of_lt (restN_ub (fun s a b h=>symN_ub D s a b h) its a b (Nat.le_trans hb ht)) (hg.smallR r hr its hi)
theorem newC_inv (h : NewC w0 B C S R N Bg tv g g.length g.length E n M bg rv ev w) {O : Nat -> Prop} (ht : NatsO .u16 O w0 tv tk) (hO : ∀ b,O b -> b < w0.heap.size) (hgl : g.length <= 200) (D : Nat) : ChartInv (chartOf g tk D C S R E bg) O w:=by
 obtain ⟨cs,hb,hsz,h0,h1,h2,h3,h4,h5⟩:=h.chart
 have hnO : ∀ b,w0.heap.size <= b -> ¬ O b:=fun b h1 h2=>by have:=hO b h2; omega
 refine ⟨⟨hnO _ h.ge.1,⟨tv,(hb.cell 0).trans h0,ht.keep (CKp.of_below h.below O) fun b h=>.inl h⟩,fun s hs=>⟨rv s,(hb.cell (1 + s)).trans (h1 s hs),?_⟩,⟨_,(hb.cell 65).trans h2,?_⟩,⟨ev,(hb.cell 66).trans h3,?_⟩,(hb.cell 67).trans h4,(hb.cell 68).trans h5⟩,[],[],⟨h.mS,h.mR,fun _ h=>(by cases h),fun _ h=>(by cases h),fun _ _ _ _ h=>(by cases h),fun _ _ _ _ h=>(by cases h)⟩⟩
 ·exact (h.rules.own s hs).sl_ fun b hb _=>hnO b (by have:=h.Bge; omega)
 ·have hl:=h.blen
  refine ⟨some ⟨Bg,0,none⟩,g.length,by show Value.slice _ _ _ = Value.slice _ bg.length _; rw [hl],by show bg.length <= _; omega,?_,fun _=>⟨Bg,0,rfl,h.begs.lt,hnO _ h.ge.2.2.2.2,fun i hi=>?_⟩⟩
  ·unfold maxLen; omega
  ·have hi : i < bg.length:=hi
   show w.cell? ⟨Bg,0 + i,none⟩ = some (Value.int .i64 ((bg.getD i 0 : Nat) : Int))
   rw [Nat.zero_add,h.begs.cell,List.getElem?_toArray,List.getElem?_map,List.getElem?_eq_getElem hi,getD_at _ _ _ hi]
   rfl
 ·exact h.ends.sl_ fun b hb _=>hnO b hb
end
end
section
open Go Go.RowKit Go.Maps
def rkC (s : Nat) : Nat:=if s = 0 then 2 else if s <= 2 then 1 else 0
theorem rkC_lt (s : Nat) : rkC s < 3:=by
 unfold rkC
 split
 ·decide
 ·split <;> decide
def gramB (g : List PRule) (rk : Nat -> Nat) (D : Nat) : Bool:=
 decide (g.length <= 200) && (List.range g.length).all (fun r=>decide ((ruleOf g r).length <= 8) && decide ((g.getD r PRule.zero).left < 64) && decide (0 < (ruleOf g r).length) &&
  (ruleOf g r).all (fun i=>decide (i.cls < 65536) && decide (i.sym < 64) && (decide (i.cls ≠ 0) || decide (rk i.sym < rk (g.getD r PRule.zero).left)) && (decide (i.cls = 0) || decide (i.sym = 0))) &&
  (List.range ((ruleOf g r).length + 1)).all (fun k=>decide (ubR (ubN g 40 D) 40 ((ruleOf g r).drop k) < 4294967296))) && (List.range 64).all (fun s=>decide (ubN g 40 D s < 4294967296))
theorem gramOK_of {g : List PRule} {rk : Nat -> Nat} {D : Nat} (h : gramB g rk D = true) (hr : ∀ s,rk s < D) : GramOK g rk D:=by
 simp only [gramB,Bool.and_eq_true,decide_eq_true_eq,List.all_eq_true,List.mem_range,Bool.or_eq_true] at h
 obtain ⟨⟨h1,h2⟩,h3⟩:=h
 exact ⟨h1,fun r hlt=>⟨(h2 r hlt).1.1.1.1,(h2 r hlt).1.1.1.2,fun i hi=>((h2 r hlt).1.2 i hi).1.1⟩,fun r hlt=>⟨(h2 r hlt).1.1.2,fun i hi hc=>(((h2 r hlt).1.2 i hi).2).resolve_left hc⟩,fun r hlt i hi hc=>(((h2 r hlt).1.2 i hi).1.2).resolve_left (fun h=>h hc),hr,h3,fun r hlt its hs=>by
  rw [List.suffix_iff_eq_drop.1 hs]
  exact (h2 r hlt).2 _ (by omega)⟩
theorem gramR_list (c : Int) : gramR c = (gramLL (rulesS c).data.toList).map lineRule:=by rw [gramR,gramL_list]
theorem gram_ok (c : Int) (hc : c = 1 \/ c = 2 \/ c = 3) : GramOK (gramR c) rkC 3:=by
 refine gramOK_of ?_ rkC_lt
 rw [gramR_list]
 rcases hc with rfl | rfl | rfl <;> decide +kernel
theorem GramAt.rules {B : Nat} {w : World} {rv pv : Value} {rs : List MRule} {ps : List MPart} (h : GramAt B w rv pv rs ps) : RulesP (fun _=>True) w rv (rs.map MRule.rule):=by
 obtain ⟨A,c,hv,hn,hc,hA⟩:=OwnL.sl h.own (fun _=>rfl)
 refine ⟨A,c,by rw [List.length_map]; exact hv,by rw [List.length_map]; exact hn,hc,fun h0=>?_⟩
 obtain ⟨b,off,e,hb,hp,hi⟩:=hA (by simpa using h0)
 refine ⟨b,off,e,hb,trivial,fun i hi'=>?_⟩
 rw [List.length_map] at hi'
 have hr:=hi i hi'
 have c0:=hr.2.2 hi' 0 (by omega)
 have c1:=hr.2.2 hi' 1 (by omega)
 have e : (rs.map MRule.rule).getD i PRule.zero = rs[i].rule:=by rw [getD_at _ _ _ (by simpa using hi')]; simp
 rw [e]
 exact ⟨c0,_,c1,(h.inr _ (List.getElem_mem hi')).keep (lQ _) (fun _ _ _ _ h=>h) (fun _ _ _=>trivial)⟩
end
section
open Go Go.RowKit Go.Maps
theorem symRight_any (s : Nat) (hs : s < 64) (w : World) : Calls Tryz.prog 119 #[.int .i64 (s : Int)] w fun e w'=>e = .returned (.bool true) /\ w' = w:=by
 have h0 : (0 : Int) <= (s : Int):=by omega
 have h1 : (s : Int) < 64:=by omega
 go_enter Tryz.func119,Tryz.ntmps119
 go_wp2
 go_ret
 exact ⟨rfl,rfl⟩
theorem ruleChecked_any {P : Nat -> Prop} (L : Nat) (iv : Value) (its : List PItem) (w : World) (hiv : ItemsP P w iv its) (hL : L < 64) (h0 : 0 < its.length) (h8 : its.length <= 8) (hit : ∀ i ∈ its,i.cls < 65536 /\ i.sym < 64 /\ (i.cls ≠ 0 -> i.sym = 0)) :
  Calls Tryz.prog 65 #[.agg #[.int .i64 (L : Int),iv]] w fun e w'=>e = .returned (.int .i64 0) /\ Below w.heap.size w w':=by
 obtain ⟨A,c,rfl,hn,hcm,hA⟩:=hiv
 obtain ⟨b0,off0,rfl,hb0,_,hi0⟩:=hA h0
 unfold maxLen at hcm
 replace hi0:=Hd hi0
 replace hit:=Hd hit
 clear hA
 obtain ⟨W1,hW1⟩ : ∃ W1,W1 = w.alloc (.cells #[.int .i64 (L : Int),.slice (some ⟨b0,off0,none⟩) its.length c] 74):=⟨_,rfl⟩
 have hB1 : Hid (Below w.heap.size w W1):=Hd (by rw [hW1]; exact (Below.refl _ _).alloc (lQ _) _)
 have k1 : Hid (Blk W1 w.heap.size 74 #[.int .i64 (L : Int),.slice (some ⟨b0,off0,none⟩) its.length c]):=Hd (by rw [hW1]; exact Blk.new _ _ _)
 have x0:=k1.out.cell 0
 have x1:=k1.out.cell 1
 simp at x0 x1
 have q0 : ((its.length : Int) == 0) = false:=by rw [beq_eq_false_iff_ne]; omega
 have q1 : decide ((8 : Int) < (its.length : Int)) = false:=by simp; omega
 go_enter Tryz.func65,Tryz.ntmps65
 go_upto_region 1 with fail
 rw [<- hW1]
 clear hW1
 go_wp2_with fail
 refine (symRight_any L hL W1).mono ?_
 rintro e w2 ⟨rfl,rfl⟩
 generalize hR : w.heap.size = R at *
 replace hR:=Hd hR
 go_wp2_with fail
 go_loopw [22] (fun iv wr=>∃ k : Nat,k <= its.length /\ iv = .int .i64 k /\ Hid (Below R w wr)) (fun iv _=>its.length - (intOf iv).toNat)
 case atStart=>exact ⟨0,by omega,rfl,hB1⟩
 case round=>
  obtain ⟨k,hk,rfl,hbr⟩:=hrel
  rename World=>wr
  have n0 : (0 : Int) <= (k : Int):=by omega
  by_cases hlt : k < its.length
  ·have n1 : (k : Int) < (its.length : Int):=by omega
   have hki:=hi0.out k hlt
   have hkt:=hit.out (its.getD k PItem.zero) (by rw [getD_at _ _ _ hlt]; exact List.getElem_mem hlt)
   generalize its.getD k PItem.zero = it at hki hkt
   obtain ⟨cl,sy⟩:=it
   obtain ⟨c0,c1⟩:=hki
   simp only at c0 c1 hkt
   have y0:=(hbr.out.cell (p:=⟨b0,off0 + k * 2,none⟩) hb0).trans c0
   have y1:=(hbr.out.cell (p:=⟨b0,off0 + k * 2 + 1,none⟩) hb0).trans c1
   obtain ⟨w3,hw3⟩ : ∃ w3,w3 = wr.alloc (.cells #[.int .u16 (cl : Int),.int .i64 (sy : Int)] 76):=⟨_,rfl⟩
   have k3 : Hid (Blk w3 wr.heap.size 76 #[.int .u16 (cl : Int),.int .i64 (sy : Int)]):=Hd (by rw [hw3]; exact Blk.new _ _ _)
   have hb3 : Hid (Below R w w3):=Hd (by rw [hw3]; exact hbr.out.alloc (by have:=hbr.out.size; have:=hR.out; omega) _)
   clear c0 c1
   go_upto_region 8 with fail
   rw [<- hw3]
   clear hw3 y0 y1
   generalize wr.heap.size = B at *
   have z0:=k3.out.cell 0
   have z1:=k3.out.cell 1
   simp at z0 z1
   go_wp2_with fail
   refine (symRight_any sy hkt.2.1 w3).mono ?_
   rintro e w4 ⟨rfl,rfl⟩
   rcases Nat.eq_zero_or_pos cl with rfl | hcp
   ·go_wp2_with fail
    go_roundw
    case rel=>exact ⟨k + 1,by omega,by go_num,hb3⟩
    case measure=>simp [intOf]; omega
   ·obtain rfl : sy = 0:=hkt.2.2 (by omega)
    have m0 : ((cl : Int) != 0) = true:=by rw [bne_iff_ne]; omega
    go_wp2_with fail
    go_roundw
    case rel=>exact ⟨k + 1,by omega,by go_num,hb3⟩
    case measure=>simp [intOf]; omega
  ·obtain rfl : k = its.length:=by omega
   go_wp2_with fail
   go_ret
   exact ⟨rfl,by rw [hR.out]; exact hbr.out⟩
end
end Go.Proofs.YteclineblddpbaaGreatDoorR
