import Derived.Test.YteclineblddpbaaGreatDoorRC01
import Derived.Test.YteclineblddpbaaGreatDoorRC14
import Derived.Test.YteclineblddpbaaGreatDoorRC22
set_option linter.all false
set_option maxRecDepth 100000
set_option maxHeartbeats 0
namespace Go.Proofs.YteclineblddpbaaGreatDoorR
section
open Go Go.RowKit Go.Maps
mutual
def TrAt (O : Nat -> Prop) (w : World) : PTree -> Value -> Prop
 | .node r a b sub,v=>∃ A c,v = .agg #[.int .i64 r,.int .i64 a,.int .i64 b,.slice A sub.length c] /\ sub.length <= c /\ (c <= maxLen /\ (A = none -> c = 0)) /\ (0 < sub.length -> ∃ bl off,A = some ⟨bl,off,none⟩ /\ bl < w.heap.size /\ ¬ O bl /\ TrsAt O w sub bl off)
def TrsAt (O : Nat -> Prop) (w : World) : List PTree -> Nat -> Nat -> Prop
 | [],_,_=>True
 | t :: ts,bl,off=>(∃ v0 v1 v2 v3,w.cell? ⟨bl,off,none⟩ = some v0 /\ w.cell? ⟨bl,off + 1,none⟩ = some v1 /\ w.cell? ⟨bl,off + 2,none⟩ = some v2 /\ w.cell? ⟨bl,off + 3,none⟩ = some v3 /\ TrAt O w t (.agg #[v0,v1,v2,v3])) /\ TrsAt O w ts bl (off + 4)
end
def SubV (O : Nat -> Prop) (w : World) (sub : List PTree) (sv : Value) : Prop:=∃ A c,sv = .slice A sub.length c /\ sub.length <= c /\ (c <= maxLen /\ (A = none -> c = 0)) /\ (0 < sub.length -> ∃ bl off,A = some ⟨bl,off,none⟩ /\ bl < w.heap.size /\ ¬ O bl /\ TrsAt O w sub bl off)
theorem TrAt.of_sub {O : Nat -> Prop} {w : World} {sub : List PTree} {sv : Value} {r a b : Int} (h : SubV O w sub sv) : TrAt O w (.node r a b sub) (.agg #[.int .i64 r,.int .i64 a,.int .i64 b,sv]):=by
 obtain ⟨A,c,rfl,h⟩:=h
 exact ⟨A,c,rfl,h⟩
theorem TrAt.sub {O : Nat -> Prop} {w : World} {t : PTree} {v : Value} (h : TrAt O w t v) : ∃ r a b sub sv,t = .node r a b sub /\ v = .agg #[.int .i64 r,.int .i64 a,.int .i64 b,sv] /\ SubV O w sub sv:=by
 obtain ⟨r,a,b,sub⟩:=t
 obtain ⟨A,c,h1,h2⟩:=h
 exact ⟨r,a,b,sub,_,rfl,h1,A,c,rfl,h2⟩
section
variable {O O' : Nat -> Prop} {w w' : World}
mutual
theorem TrAt.keep (hk : CKp O w w') (hO : ∀ b,O' b -> O b \/ w.heap.size <= b) : ∀ (t : PTree) (v : Value),TrAt O w t v -> TrAt O' w' t v
 | .node r a b sub,v,h=>by
  obtain ⟨A,c,h1,h2,h3,h4⟩:=h
  refine ⟨A,c,h1,h2,h3,fun h0=>?_⟩
  obtain ⟨bl,off,e,h5,h6,h7⟩:=h4 h0
  exact ⟨bl,off,e,Nat.lt_of_lt_of_le h5 hk.size,fun hb=>(hO bl hb).elim h6 (fun hge=>by omega),TrsAt.keep hk hO sub bl off h6 h7⟩
theorem TrsAt.keep (hk : CKp O w w') (hO : ∀ b,O' b -> O b \/ w.heap.size <= b) : ∀ (ts : List PTree) (bl off : Nat),¬ O bl -> TrsAt O w ts bl off -> TrsAt O' w' ts bl off
 | [],_,_,_,_=>trivial
 | t :: ts,bl,off,hb,h=>by
  obtain ⟨⟨v0,v1,v2,v3,h0,h1,h2,h3,h4⟩,h5⟩:=h
  exact ⟨⟨v0,v1,v2,v3,hk.cell _ _ _ hb h0,hk.cell _ _ _ hb h1,hk.cell _ _ _ hb h2,hk.cell _ _ _ hb h3,TrAt.keep hk hO t _ h4⟩,TrsAt.keep hk hO ts bl _ hb h5⟩
end
theorem SubV.keep {sub : List PTree} {sv : Value} (h : SubV O w sub sv) (hk : CKp O w w') (hO : ∀ b,O' b -> O b \/ w.heap.size <= b) : SubV O' w' sub sv:=by
 obtain ⟨A,c,h1,h2,h3,h4⟩:=h
 refine ⟨A,c,h1,h2,h3,fun h0=>?_⟩
 obtain ⟨bl,off,e,h5,h6,h7⟩:=h4 h0
 exact ⟨bl,off,e,Nat.lt_of_lt_of_le h5 hk.size,fun hb=>(hO bl hb).elim h6 (fun hge=>by omega),TrsAt.keep hk hO sub bl off h6 h7⟩
end
theorem CKp.of_keepB {O : Nat -> Prop} {M : Nat -> Prop} {B0 : Nat} {W W' : World} (h : KeepB M B0 W W') (hM : NoCells M W) : CKp O W W':=⟨h.size,fun b o v _ hc=>by
 obtain ⟨o',h1,h2⟩:=cells_of_cell hc
 have h3:=h.same b o' h1 (fun hb=>hM b hb o v hc) (fun _=>by cases o' <;> first | rfl | simp [Obj.isCells] at h2)
 rw [World.cell?_of_block (h3.trans h1.symm)]
 exact hc⟩
theorem CKp.of_keepB0 {O : Nat -> Prop} {B0 : Nat} {W W' : World} (h : KeepB (fun _=>False) B0 W W') : CKp O W W':=CKp.of_keepB h (fun _ h=>h.elim)
def VTree (O : Nat -> Prop) (t : PTree) (vs : Array Value) (W : World) : Prop:=∃ v,vs = #[v] /\ TrAt O W t v
def VSub (O : Nat -> Prop) (ts : List PTree) (vs : Array Value) (W : World) : Prop:=∃ v,vs = #[v] /\ SubV O W ts v
theorem VTree.still (t : PTree) (vs : Array Value) : Still0 fun O W=>VTree O t vs W:=⟨fun O A B h _ hk=>by
 obtain ⟨v,h1,h2⟩:=h
 exact ⟨v,h1,TrAt.keep (CKp.of_keepB0 hk) (fun b h=>.inl h) t v h2⟩⟩
theorem VSub.still (ts : List PTree) (vs : Array Value) : Still0 fun O W=>VSub O ts vs W:=⟨fun O A B h _ hk=>by
 obtain ⟨v,h1,h2⟩:=h
 exact ⟨v,h1,h2.keep (CKp.of_keepB0 hk) (fun b h=>.inl h)⟩⟩
def OneC (O : Nat -> Prop) (W : World) (p : Nat) (v : Value) : Prop:=¬ O p /\ W.cell? ⟨p,0,none⟩ = some v
theorem OneC.keep {O O' : Nat -> Prop} {w w' : World} {p : Nat} {v : Value} (h : OneC O w p v) (hk : CKp O w w') (hO : ∀ b,O' b -> O b \/ w.heap.size <= b) : OneC O' w' p v:=⟨notO hO (cell_lt h.2) h.1,hk.cell _ _ _ h.1 h.2⟩
def InvT (d : ChartD) (s a b p1 p2 p3 p4 : Nat) (O : Nat -> Prop) (W : World) : Prop:=
 ChartInv d O W /\ OneC O W p1 (.pointer (some ⟨d.C,0,none⟩)) /\ OneC O W p2 (.int .i64 (s : Int)) /\ OneC O W p3 (.int .i64 (a : Int)) /\ OneC O W p4 (.int .i64 (b : Int))
def InvP (d : ChartD) (e : PEnd) (a b p1 p2 p3 p4 : Nat) (O : Nat -> Prop) (W : World) : Prop:=
 ChartInv d O W /\ (¬ O p1 /\ EndAt W p1 0 e) /\ OneC O W p2 (.pointer (some ⟨d.C,0,none⟩)) /\ OneC O W p3 (.int .i64 (a : Int)) /\ OneC O W p4 (.int .i64 (b : Int))
theorem ChartInv.still (d : ChartD) : Still0 (ChartInv d):=⟨fun O A B h _ hk=>by
 obtain ⟨h1,MS,MR,hm⟩:=h
 have hc : CKp O A B:=CKp.of_keepB0 hk
 have hbl : ∀ m n M,MapS A m n M -> B.heap[m]? = A.heap[m]?:=fun m n M hM=>by
  obtain ⟨D,⟨es,clock,h3,_⟩,_⟩:=hM
  exact (hk.same _ _ h3 (fun h=>h) (fun _=>rfl)).trans h3.symm
 exact ⟨h1.keep hc fun b h=>.inl h,MS,MR,hm.keep hc (fun b h=>.inl h) (hbl _ _ _ hm.hS) (hbl _ _ _ hm.hR)⟩⟩
theorem InvT.still (d : ChartD) (s a b p1 p2 p3 p4 : Nat) : Still0 (InvT d s a b p1 p2 p3 p4):=⟨fun O A B h hO hk=>
 have hc : CKp O A B:=CKp.of_keepB0 hk
 have hi : ∀ b,O b -> O b \/ A.heap.size <= b:=fun _ h=>.inl h
 ⟨(ChartInv.still d).keep O A B h.1 hO hk,h.2.1.keep hc hi,h.2.2.1.keep hc hi,h.2.2.2.1.keep hc hi,h.2.2.2.2.keep hc hi⟩⟩
theorem EndAt.ckp {O : Nat -> Prop} {w w' : World} {p : Nat} {e : PEnd} (hp : ¬ O p) (h : EndAt w p 0 e) (hk : CKp O w w') : EndAt w' p 0 e:=⟨hk.cell _ _ _ hp h.c0,hk.cell _ _ _ hp h.c1,hk.cell _ _ _ hp h.c2,hk.cell _ _ _ hp h.c3⟩
theorem InvP.still (d : ChartD) (e : PEnd) (a b p1 p2 p3 p4 : Nat) : Still0 (InvP d e a b p1 p2 p3 p4):=⟨fun O A B h hO hk=>
 have hc : CKp O A B:=CKp.of_keepB0 hk
 have hi : ∀ b,O b -> O b \/ A.heap.size <= b:=fun _ h=>.inl h
 ⟨(ChartInv.still d).keep O A B h.1 hO hk,⟨h.2.1.1,h.2.1.2.ckp h.2.1.1 hc⟩,h.2.2.1.keep hc hi,h.2.2.2.1.keep hc hi,h.2.2.2.2.keep hc hi⟩⟩
def marks (Ds : List Nat) : List Deferred:=Ds.map fun D=>{ target:=.collected D,args:=#[] }
theorem leaves_marks {P : Program} {fn : Func} {R : Ending -> World -> Prop} {tmps : Array Value} {v : Value} : ∀ (Ds : List Nat) (W : World),Ds.Nodup -> (∀ D ∈ Ds,W.heap[D]? = some (.deferred (some []))) ->
  (∀ W',W'.heap.size = W.heap.size -> (∀ k,k ∉ Ds -> W'.heap[k]? = W.heap[k]?) -> IoSame W W' -> (results fn tmps).run P W' = .ok v W' /\ R (.returned v) W') ->
  LeavesInM Fence.wide 0 P fn tmps R (marks Ds) .returning W
 | [],W,_,_,h=>by
  obtain ⟨h1,h2⟩:=h W rfl (fun _ _=>rfl) (.refl _)
  exact ⟨_,h1,h2⟩
 | D :: Ds,W,hn,hD,h=>by
  rw [List.nodup_cons] at hn
  refine ⟨by simp,.inl ⟨D,_,rfl,run_takeDeferred (hD D (List.mem_cons_self ..)),leaves_marks (v:=v) Ds _ hn.2 (fun D' hD'=>?_) fun W' h1 h2 h3=>?_⟩⟩
  ·exact (World.putObj_heap_other (fun e=>hn.1 (by rw [<- e]; exact hD'))).trans (hD D' (List.mem_cons_of_mem _ hD'))
  ·refine h W' (by simpa using h1) (fun k hk=>?_) ⟨h3.1,h3.2.1,h3.2.2⟩
   rw [List.mem_cons,not_or] at hk
   exact (h2 k hk.2).trans (World.putObj_heap_other hk.1)
theorem keepB_marks {W W' : World} {Ds : List Nat} {B0 : Nat} (h1 : W'.heap.size = W.heap.size) (h2 : ∀ k,k ∉ Ds -> W'.heap[k]? = W.heap[k]?) (h3 : IoSame W W') (hD : ∀ D ∈ Ds,W.heap[D]? = some (.deferred (some []))) (hB : ∀ D ∈ Ds,B0 <= D) (M : Nat -> Prop) : KeepB M B0 W W':=
 ⟨Nat.le_of_eq h1.symm,fun k o hk _ hb=>by
  by_cases e : k ∈ Ds
  ·have:=hD k e
   rw [hk] at this
   cases this
   exact absurd (hb (hB k e)) (by simp [bookO])
  ·exact (h2 k e).trans hk,h3⟩
theorem keepC_marks {W W' : World} {Ds : List Nat} (h1 : W'.heap.size = W.heap.size) (h2 : ∀ k,k ∉ Ds -> W'.heap[k]? = W.heap[k]?) (h3 : IoSame W W') (hD : ∀ D ∈ Ds,W.heap[D]? = some (.deferred (some []))) (O : Nat -> Prop) : KeepC O W W':=
 ⟨Nat.le_of_eq h1.symm,fun k o hk hc _=>by
  by_cases e : k ∈ Ds
  ·have:=hD k e
   rw [hk] at this
   cases this
   simp [Obj.isCells] at hc
  ·exact (h2 k e).trans hk,h3⟩
end
section
open Go Go.RowKit Go.Maps
theorem treesMake (C : Nat) (s a b : Nat) (w : World) :
  Calls Tryz.prog 114 #[.pointer (some ⟨C,0,none⟩),.int .i64 (s : Int),.int .i64 (a : Int),.int .i64 (b : Int)] w fun e w'=>∃ p1 p2 p3 p4 : Nat,e = .returned (.func (.func 176) #[] #[.pointer (some ⟨p1,0,none⟩),.pointer (some ⟨p2,0,none⟩),.pointer (some ⟨p3,0,none⟩),.pointer (some ⟨p4,0,none⟩)]) /\
   (w.heap.size <= p1 /\ w.heap.size <= p2 /\ w.heap.size <= p3 /\ w.heap.size <= p4) /\ Blk w' p1 179 #[.pointer (some ⟨C,0,none⟩)] /\ Blk w' p2 3 #[.int .i64 (s : Int)] /\ Blk w' p3 3 #[.int .i64 (a : Int)] /\ Blk w' p4 3 #[.int .i64 (b : Int)] /\ Below w.heap.size w w':=by
 obtain ⟨w1,hw1⟩ : ∃ w1,w1 = w.alloc (.cells #[.pointer (some ⟨C,0,none⟩)] 179):=⟨_,rfl⟩
 obtain ⟨w2,hw2⟩ : ∃ w2,w2 = w1.alloc (.cells #[.int .i64 (s : Int)] 3):=⟨_,rfl⟩
 obtain ⟨w3,hw3⟩ : ∃ w3,w3 = w2.alloc (.cells #[.int .i64 (a : Int)] 3):=⟨_,rfl⟩
 obtain ⟨w4,hw4⟩ : ∃ w4,w4 = w3.alloc (.cells #[.int .i64 (b : Int)] 3):=⟨_,rfl⟩
 have k1 : Blk w1 w.heap.size 179 #[.pointer (some ⟨C,0,none⟩)]:=by rw [hw1]; exact Blk.new _ _ _
 have k2 : Blk w2 w1.heap.size 3 #[.int .i64 (s : Int)]:=by rw [hw2]; exact Blk.new _ _ _
 have k3 : Blk w3 w2.heap.size 3 #[.int .i64 (a : Int)]:=by rw [hw3]; exact Blk.new _ _ _
 have k4 : Blk w4 w3.heap.size 3 #[.int .i64 (b : Int)]:=by rw [hw4]; exact Blk.new _ _ _
 have s1 : w1.heap.size = w.heap.size + 1:=by rw [hw1]; simp
 have s2 : w2.heap.size = w.heap.size + 1 + 1:=by rw [hw2]; simp; omega
 have s3 : w3.heap.size = w.heap.size + 1 + 1 + 1:=by rw [hw3]; simp; omega
 have hB : Below w.heap.size w w4:=by
  rw [hw4,hw3,hw2,hw1]
  exact (((((Below.refl _ w).alloc (lQ _) _).alloc (by simp) _).alloc (by simp; omega) _).alloc (by simp; omega) _)
 have q1 : Blk w4 w.heap.size 179 #[.pointer (some ⟨C,0,none⟩)]:=by rw [hw4,hw3,hw2]; exact ((k1.alloc _).alloc _).alloc _
 have q2 : Blk w4 (w.heap.size + 1) 3 #[.int .i64 (s : Int)]:=by rw [<- s1,hw4,hw3]; exact (k2.alloc _).alloc _
 have q3 : Blk w4 (w.heap.size + 1 + 1) 3 #[.int .i64 (a : Int)]:=by rw [<- s2,hw4]; exact k3.alloc _
 have q4 : Blk w4 (w.heap.size + 1 + 1 + 1) 3 #[.int .i64 (b : Int)]:=by rw [<- s3]; exact k4
 have fin : ∃ p1 p2 p3 p4 : Nat,Ending.returned (.func (.func 176) #[] #[.pointer (some ⟨w.heap.size,0,none⟩),.pointer (some ⟨w.heap.size + 1,0,none⟩),.pointer (some ⟨w.heap.size + 1 + 1,0,none⟩),.pointer (some ⟨w.heap.size + 1 + 1 + 1,0,none⟩)]) = .returned (.func (.func 176) #[] #[.pointer (some ⟨p1,0,none⟩),.pointer (some ⟨p2,0,none⟩),.pointer (some ⟨p3,0,none⟩),.pointer (some ⟨p4,0,none⟩)]) /\
   (w.heap.size <= p1 /\ w.heap.size <= p2 /\ w.heap.size <= p3 /\ w.heap.size <= p4) /\ Blk w4 p1 179 #[.pointer (some ⟨C,0,none⟩)] /\ Blk w4 p2 3 #[.int .i64 (s : Int)] /\ Blk w4 p3 3 #[.int .i64 (a : Int)] /\ Blk w4 p4 3 #[.int .i64 (b : Int)] /\ Below w.heap.size w w4:=
  ⟨_,_,_,_,rfl,⟨by omega,by omega,by omega,by omega⟩,q1,q2,q3,q4,hB⟩
 have fin':=Hd fin
 clear fin q1 q2 q3 q4 hB k1 k2 k3 k4 s1 s2 s3
 rw [hw4,hw3,hw2,hw1] at fin'
 clear hw4 hw3 hw2 hw1
 go_enter Tryz.func114,Tryz.ntmps114
 go_wp2
 go_ret
 exact fin'.out
theorem partsMake (C : Nat) (n a b : Nat) (e : PEnd) (w : World) (A : Option Addr) (len cp : Nat) (hn : n < len) (hc : w.cell? ⟨C,66,none⟩ = some (.slice A len cp)) (he : ∃ bl off,A = some ⟨bl,off,none⟩ /\ EndAt w bl (off + n * 4) e) :
  Calls Tryz.prog 178 #[.pointer (some ⟨C,0,none⟩),.int .i64 (n : Int),.int .i64 (a : Int),.int .i64 (b : Int)] w fun ed w'=>∃ p1 p2 p3 p4 : Nat,ed = .returned (.func (.func 197) #[] #[.pointer (some ⟨p1,0,none⟩),.pointer (some ⟨p2,0,none⟩),.pointer (some ⟨p3,0,none⟩),.pointer (some ⟨p4,0,none⟩)]) /\
   (w.heap.size <= p1 /\ w.heap.size <= p2 /\ w.heap.size <= p3 /\ w.heap.size <= p4) /\ EndAt w' p1 0 e /\ Blk w' p2 179 #[.pointer (some ⟨C,0,none⟩)] /\ Blk w' p3 3 #[.int .i64 (a : Int)] /\ Blk w' p4 3 #[.int .i64 (b : Int)] /\ Below w.heap.size w w':=by
 obtain ⟨bl,off,rfl,he⟩:=he
 obtain ⟨w1,hw1⟩ : ∃ w1,w1 = w.alloc (.cells #[.pointer (some ⟨C,0,none⟩)] 179):=⟨_,rfl⟩
 obtain ⟨w2,hw2⟩ : ∃ w2,w2 = w1.alloc (.cells #[.int .i64 (a : Int)] 3):=⟨_,rfl⟩
 obtain ⟨w3,hw3⟩ : ∃ w3,w3 = w2.alloc (.cells #[.int .i64 (b : Int)] 3):=⟨_,rfl⟩
 obtain ⟨w4,hw4⟩ : ∃ w4,w4 = w3.alloc (.cells #[.int .u16 (e.item.cls : Int),.int .i64 (e.item.sym : Int),.int .i64 (e.next : Int),.int .i64 (e.items : Int)] 243):=⟨_,rfl⟩
 have k1 : Blk w1 w.heap.size 179 #[.pointer (some ⟨C,0,none⟩)]:=by rw [hw1]; exact Blk.new _ _ _
 have k2 : Blk w2 w1.heap.size 3 #[.int .i64 (a : Int)]:=by rw [hw2]; exact Blk.new _ _ _
 have k3 : Blk w3 w2.heap.size 3 #[.int .i64 (b : Int)]:=by rw [hw3]; exact Blk.new _ _ _
 have k4 : Blk w4 w3.heap.size 243 #[.int .u16 (e.item.cls : Int),.int .i64 (e.item.sym : Int),.int .i64 (e.next : Int),.int .i64 (e.items : Int)]:=by rw [hw4]; exact Blk.new _ _ _
 have s1 : w1.heap.size = w.heap.size + 1:=by rw [hw1]; simp
 have s2 : w2.heap.size = w.heap.size + 1 + 1:=by rw [hw2]; simp; omega
 have s3 : w3.heap.size = w.heap.size + 1 + 1 + 1:=by rw [hw3]; simp; omega
 have hB3 : Below w.heap.size w w3:=by
  rw [hw3,hw2,hw1]
  exact ((((Below.refl _ w).alloc (lQ _) _).alloc (by simp) _).alloc (by simp; omega) _)
 have hB : Below w.heap.size w w4:=by
  rw [hw4]
  exact hB3.alloc hB3.size _
 have q1 : Blk w4 w.heap.size 179 #[.pointer (some ⟨C,0,none⟩)]:=by rw [hw4,hw3,hw2]; exact ((k1.alloc _).alloc _).alloc _
 have q2 : Blk w4 (w.heap.size + 1) 3 #[.int .i64 (a : Int)]:=by rw [<- s1,hw4,hw3]; exact (k2.alloc _).alloc _
 have q3 : Blk w4 (w.heap.size + 1 + 1) 3 #[.int .i64 (b : Int)]:=by rw [<- s2,hw4]; exact k3.alloc _
 have q4 : EndAt w4 (w.heap.size + 1 + 1 + 1) 0 e:=by
  rw [s3] at k4
  refine ⟨?_,?_,?_,?_⟩
  ·rw [k4.cell 0]; rfl
  ·rw [k4.cell 1]; rfl
  ·rw [k4.cell 2]; rfl
  ·rw [k4.cell 3]; rfl
 have fin : ∃ p1 p2 p3 p4 : Nat,Ending.returned (.func (.func 197) #[] #[.pointer (some ⟨w.heap.size + 1 + 1 + 1,0,none⟩),.pointer (some ⟨w.heap.size,0,none⟩),.pointer (some ⟨w.heap.size + 1,0,none⟩),.pointer (some ⟨w.heap.size + 1 + 1,0,none⟩)]) = .returned (.func (.func 197) #[] #[.pointer (some ⟨p1,0,none⟩),.pointer (some ⟨p2,0,none⟩),.pointer (some ⟨p3,0,none⟩),.pointer (some ⟨p4,0,none⟩)]) /\
   (w.heap.size <= p1 /\ w.heap.size <= p2 /\ w.heap.size <= p3 /\ w.heap.size <= p4) /\ EndAt w4 p1 0 e /\ Blk w4 p2 179 #[.pointer (some ⟨C,0,none⟩)] /\ Blk w4 p3 3 #[.int .i64 (a : Int)] /\ Blk w4 p4 3 #[.int .i64 (b : Int)] /\ Below w.heap.size w w4:=
  ⟨_,_,_,_,rfl,⟨by omega,by omega,by omega,by omega⟩,q4,q1,q2,q3,hB⟩
 have fin':=Hd fin
 have z1:=k1.cell 0
 have z1':=(hB3.cell (p:=⟨C,66,none⟩) (cell_lt hc)).trans hc
 have z0:=q1.cell 0
 have z0' : w3.cell? ⟨w.heap.size,0,none⟩ = some (.pointer (some ⟨C,0,none⟩)):=by rw [hw3,hw2]; exact ((k1.alloc _).alloc _).cell 0
 have x0:=(hB3.cell (p:=⟨bl,off + n * 4,none⟩) (cell_lt he.c0)).trans he.c0
 have x1:=(hB3.cell (p:=⟨bl,off + n * 4 + 1,none⟩) (cell_lt he.c1)).trans he.c1
 have x2:=(hB3.cell (p:=⟨bl,off + n * 4 + 2,none⟩) (cell_lt he.c2)).trans he.c2
 have x3:=(hB3.cell (p:=⟨bl,off + n * 4 + 3,none⟩) (cell_lt he.c3)).trans he.c3
 have n0 : (0 : Int) <= (n : Int):=by omega
 have n1 : (n : Int) < (len : Int):=by omega
 replace s3:=Hd s3
 replace hw4:=Hd hw4
 clear fin q1 q2 q3 q4 hB k1 k2 k3 k4 s1 s2 z1 z0 hB3 he
 go_enter Tryz.func178,Tryz.ntmps178
 go_upto_region 1 with fail
 rw [<- hw1,<- hw2,<- hw3]
 clear hw1 hw2 hw3
 go_upto_region 2 with fail
 rw [<- hw4.out,s3.out]
 go_wp2
 go_ret
 exact fin'.out
end
section
open Go Go.RowKit Go.Maps
def ptr4 (p1 p2 p3 p4 : Nat) : Array Value:=#[.pointer (some ⟨p1,0,none⟩),.pointer (some ⟨p2,0,none⟩),.pointer (some ⟨p3,0,none⟩),.pointer (some ⟨p4,0,none⟩)]
def PartsC (d : ChartD) (rk : Nat -> Nat) (D : Nat) (tr : Nat -> Nat -> Nat -> List PTree) : Prop:=∀ (its : List PItem) (n a b p1 p2 p3 p4 : Nat),Chain d.E its n -> (∃ r,r < d.g.length /\ its <:+ ruleOf d.g r) -> (∀ i ∈ its,i.cls = 0 -> rk i.sym < D) -> a + its.length <= b -> b <= d.tk.length ->
 SeqM Tryz.prog 197 (ptr4 p1 p2 p3 p4) (MM d) (InvP d (d.E.getD n PEnd.zero) a b p1 p2 p3 p4) VSub (fun _=>True) (partsF d.sy d.tk tr its a b)
def TreesC (d : ChartD) (rk : Nat -> Nat) (D : Nat) (tr : Nat -> Nat -> Nat -> List PTree) : Prop:=∀ (s a b p1 p2 p3 p4 : Nat),s < 64 -> rk s < D -> a <= b -> b <= d.tk.length ->
 SeqM Tryz.prog 176 (ptr4 p1 p2 p3 p4) (MM d) (InvT d s a b p1 p2 p3 p4) VTree (fun _=>True) (tr s a b)
def OM (d : ChartD) (O : Nat -> Prop) (b : Nat) : Prop:=O b \/ MM d b
theorem CKp.of_keepB_ {O M : Nat -> Prop} {B0 : Nat} {W W' : World} (h : KeepB M B0 W W') : CKp (fun b=>O b \/ M b) W W':=⟨h.size,fun b o v hb hc=>by
 obtain ⟨o',h1,h2⟩:=cells_of_cell hc
 have h3:=h.same b o' h1 (fun hm=>hb (.inr hm)) (fun _=>by cases o' <;> first | rfl | simp [Obj.isCells] at h2)
 rw [World.cell?_of_block (h3.trans h1.symm)]
 exact hc⟩
theorem CKp.of_keepC_ {O M : Nat -> Prop} {W W' : World} (h : KeepC O W W') : CKp (fun b=>O b \/ M b) W W':=⟨h.size,fun b _ _ hb hc=>by
 obtain ⟨o',h1,h2⟩:=cells_of_cell hc
 have h3:=h.cells b o' h1 h2 (fun hm=>hb (.inl hm))
 rw [World.cell?_of_block (h3.trans h1.symm)]
 exact hc⟩
theorem NatsO.offM {k : IntKind} {d : ChartD} {O : Nat -> Prop} {w : World} {v : Value} {l : List Nat} (h : NatsO k O w v l) (hM : NoCells (MM d) w) : NatsO k (OM d O) w v l:=by
 obtain ⟨A,c,h1,h2,h3,h4⟩:=h
 refine ⟨A,c,h1,h2,h3,fun h0=>?_⟩
 obtain ⟨b,off,e,hb,hp,hi⟩:=h4 h0
 exact ⟨b,off,e,hb,fun hm=>hm.elim hp fun hm=>hM b hm _ _ (hi 0 h0),hi⟩
theorem OneC.offM {d : ChartD} {O : Nat -> Prop} {w : World} {p : Nat} {v : Value} (h : OneC O w p v) (hM : NoCells (MM d) w) : OneC (OM d O) w p v:=⟨fun hm=>hm.elim h.1 fun hm=>hM p hm _ _ h.2,h.2⟩
theorem OneC.on {d : ChartD} {O : Nat -> Prop} {w : World} {p : Nat} {v : Value} (h : OneC (OM d O) w p v) : OneC O w p v:=⟨fun ho=>h.1 (.inl ho),h.2⟩
structure LT {α : Type} (d : ChartD) (l YB : Nat) (cs : List (Nat × Value)) (W : World) (O : Nat -> Prop) (J : List α -> (Nat -> Prop) -> World -> Prop) (v : Value) (L : List Nat) (ys : List α) (Ds : List Nat) (O2 : Nat -> Prop) (w : World) : Prop where
 j : J ys O2 w
 bx : ∀ p ∈ cs,OneC (OM d O2) w p.1 p.2
 sub : ∀ b,O2 b -> O b \/ W.heap.size <= b
 lt : ∀ b,O2 b -> b < w.heap.size
 kc : KeepC (OM d O) W w
 row : NatsO .i64 (OM d O2) w v L
 yb : OneC (OM d O2) w YB (.func (.yield l) #[] #[])
 nd : Ds.Nodup
 mks : ∀ D ∈ Ds,w.heap[D]? = some (.deferred (some [])) /\ W.heap.size <= D /\ ¬ MM d D
section
variable {α : Type} {d : ChartD} {l YB : Nat} {cs : List (Nat × Value)} {W A B : World} {O O2 O3 : Nat -> Prop} {J J' : List α -> (Nat -> Prop) -> World -> Prop} {v : Value} {L : List Nat} {ys ys' : List α} {Ds : List Nat}
theorem LT.calm (h : LT d l YB cs W O J v L ys Ds O2 A) (hJ : ∀ pre O A B,J pre O A -> (∀ b,O b -> b < A.heap.size) -> KeepB (MM d) W.heap.size A B -> J pre O B) {B0 : Nat} (hB : W.heap.size <= B0) (hD : ∀ D ∈ Ds,D < B0) (hk : KeepB (MM d) B0 A B) :
    LT d l YB cs W O J v L ys Ds O2 B:=
  have hc : CKp (OM d O2) A B:=CKp.of_keepB_ hk
  { h with
    j:=hJ _ _ _ _ h.j h.lt (keepB_mono hk hB)
    bx:=fun p hp=>(h.bx p hp).keep hc fun b h=>.inl h
    lt:=fun b hb=>Nat.lt_of_lt_of_le (h.lt b hb) hk.size
    kc:=⟨Nat.le_trans h.kc.size hk.size,fun k o h1 h2 h3=>hk.same k o (h.kc.cells k o h1 h2 h3) (fun hm=>h3 (.inr hm)) (fun _=>by cases o <;> first | rfl | simp [Obj.isCells] at h2),h.kc.io.trans hk.io⟩
    row:=NatsO.keep h.row hc fun b h=>.inl h
    yb:=h.yb.keep hc fun b h=>.inl h
    mks:=fun D hD2=>⟨hk.same D _ (h.mks D hD2).1 (h.mks D hD2).2.2 (fun hge=>by have:=hD D hD2; omega),(h.mks D hD2).2⟩ }
theorem LT.keepM (h : LT d l YB cs W O J v L ys Ds O2 A) (hJ : ∀ pre O A B,J pre O A -> (∀ b,O b -> b < A.heap.size) -> KeepB (MM d) W.heap.size A B -> J pre O B) (hk : KeepM (MM d) A B) : LT d l YB cs W O J v L ys Ds O2 B:=
 h.calm hJ h.kc.size (fun D hD=>heap_lt (h.mks D hD).1) (hk.keepB A.heap.size)
theorem LT.yielded (h : LT d l YB cs W O J v L ys Ds O2 A) (h1 : ∀ b,O3 b -> O2 b \/ A.heap.size <= b) (h2 : ∀ b,O3 b -> b < B.heap.size) (h3 : KeepC O2 A B) (h5 : ∀ k o,W.heap.size <= k -> A.heap[k]? = some o -> bookO o = true -> B.heap[k]? = some o) (hj : J' ys' O3 B) :
    LT d l YB cs W O J' v L ys' Ds O3 B:=
  have hc : CKp (OM d O2) A B:=CKp.of_keepC_ h3
  have ho : ∀ b,OM d O3 b -> OM d O2 b \/ A.heap.size <= b:=fun b hb=>hb.elim (fun hb=>(h1 b hb).imp .inl id) fun hm=>.inl (.inr hm)
  { j:=hj
    bx:=fun p hp=>(h.bx p hp).keep hc ho
    sub:=fun b hb=>(h1 b hb).elim (h.sub b) fun hg=>.inr (Nat.le_trans h.kc.size hg)
    lt:=h2
    kc:=h.kc.trans (fun b hb=>(h.sub b hb).imp .inl id) h3
    row:=NatsO.keep h.row hc ho
    yb:=h.yb.keep hc ho
    nd:=h.nd
    mks:=fun D hD=>⟨h5 D _ (h.mks D hD).2.1 (h.mks D hD).1 rfl,(h.mks D hD).2⟩ }
theorem LT.marked (h : LT d l YB cs W O J v L ys Ds O2 A) (hJ : ∀ pre O A B,J pre O A -> (∀ b,O b -> b < A.heap.size) -> KeepB (MM d) W.heap.size A B -> J pre O B) (h1 : B.heap.size = A.heap.size) (h2 : ∀ k,k ∉ Ds -> B.heap[k]? = A.heap[k]?) (h3 : IoSame A B) :
  J ys O2 B /\ (∀ b,O2 b -> O b \/ W.heap.size <= b) /\ (∀ b,O2 b -> b < B.heap.size) /\ KeepC (fun b=>O b \/ MM d b) W B:=
 have hD:=fun D hD=>(h.mks D hD).1
 ⟨hJ _ _ _ _ h.j h.lt (keepB_marks h1 h2 h3 hD (fun D hD=>(h.mks D hD).2.1) _),h.sub,fun b hb=>by rw [h1]; exact h.lt b hb,h.kc.trans (fun b hb=>hb.elim (fun hb=>(h.sub b hb).imp .inl id) fun hm=>.inl (.inr hm)) (keepC_marks h1 h2 h3 hD (OM d O2))⟩
theorem LT.push (h : LT d l YB cs W O J v L ys Ds O2 A) {D B0 : Nat} (hD : A.heap[D]? = some (.deferred (some []))) (hB : W.heap.size <= B0) (hDB : B0 <= D) (hlt : ∀ D' ∈ Ds,D' < B0) (hM : ¬ MM d D) : LT d l YB cs W O J v L ys (D :: Ds) O2 A:=
 { h with
  nd:=List.nodup_cons.2 ⟨fun hm=>by have:=hlt D hm; omega,h.nd⟩
  mks:=fun D' hD'=>by
   rcases List.mem_cons.1 hD' with rfl | hm
   ·exact ⟨hD,Nat.le_trans hB hDB,hM⟩
   ·exact h.mks D' hm }
theorem LT.box (h : LT d l YB cs W O J v L ys Ds O2 A) {x : Nat × Value} (hx : OneC (OM d O2) A x.1 x.2) : LT d l YB (cs ++ [x]) W O J v L ys Ds O2 A:=
 { h with
  bx:=fun p hp=>(List.mem_append.1 hp).elim (h.bx p) fun hp=>(by rw [mS.1 hp]; exact hx) }
theorem LT.unbox {cs' : List (Nat × Value)} (h : LT d l YB (cs ++ cs') W O J v L ys Ds O2 A) : LT d l YB cs W O J v L ys Ds O2 A:=
 { h with bx:=fun p hp=>h.bx p (List.mem_append_left _ hp) }
end
theorem ChartInv.MM_deferred {d : ChartD} {O : Nat -> Prop} {w : World} (h : ChartInv d O w) {D : Nat} {x : Option (List Deferred)} (hD : w.heap[D]? = some (.deferred x)) : ¬ MM d D:=by
 obtain ⟨_,MS,MR,hm⟩:=h
 intro hM
 rcases hM with rfl | rfl
 ·obtain ⟨_,⟨es,clock,h3,_⟩,_⟩:=hm.hS
  rw [h3] at hD; cases hD
 ·obtain ⟨_,⟨es,clock,h3,_⟩,_⟩:=hm.hR
  rw [h3] at hD; cases hD
end
end Go.Proofs.YteclineblddpbaaGreatDoorR
