import Derived.Test.YteclineblddpbaaGreatDoorRC01
import Derived.RangeFuncNested
import Derived.RangeFuncBound
import Derived.RangeFuncCalls
import Derived.RangeFuncLeaves
import Derived.Shelf.Abstract
import Derived.Shelf.RegionOpen
import Derived.WalkKit
import Derived.OwnWalkIn
import Derived.TacticsInMore
import Derived.LoopNIn
import Derived.LoopIn
import Derived.OrdersIn
set_option linter.all false
set_option maxRecDepth 100000
set_option maxHeartbeats 0
namespace Go.Proofs.YteclineblddpbaaGreatDoorR
section
open Go Go.RowKit
def bookO : Obj -> Bool
 | .loop _=>true
 | .deferred _=>true
 | _=>false
def IoSame (A B : World) : Prop:=B.os = A.os /\ B.tape = A.tape /\ B.output = A.output
theorem IoSame.refl (A : World) : IoSame A A:=⟨rfl,rfl,rfl⟩
theorem IoSame.trans {A B C : World} (h : IoSame A B) (k : IoSame B C) : IoSame A C:=⟨k.1.trans h.1,k.2.1.trans h.2.1,k.2.2.trans h.2.2⟩
structure KeepC (O : Nat -> Prop) (A B : World) : Prop where
 size : A.heap.size <= B.heap.size
 cells : ∀ k o,A.heap[k]? = some o -> o.isCells = true -> ¬ O k -> B.heap[k]? = some o
 io : IoSame A B
theorem KeepC.refl (O : Nat -> Prop) (A : World) : KeepC O A A:=⟨lQ _,fun _ _ h _ _=>h,.refl _⟩
theorem heap_lt {A : World} {k : Nat} {o : Obj} (h : A.heap[k]? = some o) : k < A.heap.size:=(Array.getElem?_eq_some_iff.1 h).1
theorem KeepC.trans {O O' : Nat -> Prop} {A B C : World} (h : KeepC O A B) (hO : ∀ b,O' b -> O b \/ A.heap.size <= b) (k : KeepC O' B C) : KeepC O A C:=
 ⟨Nat.le_trans h.size k.size,fun i o hi hc hn=>k.cells i o (h.cells i o hi hc hn) hc fun h1=>(hO i h1).elim hn fun h2=>absurd (heap_lt hi) (by omega),h.io.trans k.io⟩
theorem KeepC.wide {O O' : Nat -> Prop} {A B : World} (h : KeepC O A B) (hO : ∀ b,O b -> O' b) : KeepC O' A B:=⟨h.size,fun k o hk hc hn=>h.cells k o hk hc fun h'=>hn (hO k h'),h.io⟩
structure KeepB (M : Nat -> Prop) (B0 : Nat) (A B : World) : Prop where
 size : A.heap.size <= B.heap.size
 same : ∀ k o,A.heap[k]? = some o -> ¬ M k -> (B0 <= k -> bookO o = false) -> B.heap[k]? = some o
 io : IoSame A B
theorem KeepB.refl (M : Nat -> Prop) (B0 : Nat) (A : World) : KeepB M B0 A A:=⟨lQ _,fun _ _ h _ _=>h,.refl _⟩
theorem KeepB.trans {M : Nat -> Prop} {B0 : Nat} {A B C : World} (h : KeepB M B0 A B) (k : KeepB M B0 B C) : KeepB M B0 A C:=
 ⟨Nat.le_trans h.size k.size,fun i o hi hm hb=>k.same i o (h.same i o hi hm hb) hm hb,h.io.trans k.io⟩
structure KeepM (M : Nat -> Prop) (A B : World) : Prop where
 size : A.heap.size <= B.heap.size
 same : ∀ k,k < A.heap.size -> ¬ M k -> B.heap[k]? = A.heap[k]?
 io : IoSame A B
theorem KeepM.keepB {M : Nat -> Prop} {A B : World} (h : KeepM M A B) (B0 : Nat) : KeepB M B0 A B:=⟨h.1,fun k o hk hm _=>(h.2 k (heap_lt hk) hm).trans hk,h.io⟩
theorem KeepB.alloc {M : Nat -> Prop} {B0 : Nat} (A : World) (o : Obj) : KeepB M B0 A (A.alloc o):=⟨by simp,fun k _ hk _ _=>(Below.heap_alloc A o k (heap_lt hk)).trans hk,rfl,rfl,rfl⟩
theorem KeepB.put {M : Nat -> Prop} {B0 : Nat} {A : World} {l : Nat} {o : Obj} (o' : Obj) (hl : A.heap[l]? = some o) (hb : bookO o = true) (h0 : B0 <= l) : KeepB M B0 A (A.putObj l o'):=
 ⟨by simp,fun k o2 hk _ hbk=>by
  by_cases e : k = l
  ·subst e
   rw [hl] at hk
   cases hk
   rw [hbk h0] at hb
   cases hb
  ·exact (World.putObj_heap_other e).trans hk,rfl,rfl,rfl⟩
theorem KeepC.put {O : Nat -> Prop} {A : World} {l : Nat} {o : Obj} (o' : Obj) (hl : A.heap[l]? = some o) (hb : bookO o = true) : KeepC O A (A.putObj l o'):=
 ⟨by simp,fun k o2 hk hc _=>by
  by_cases e : k = l
  ·subst e
   rw [hl] at hk
   cases hk
   cases o <;> simp [bookO] at hb <;> simp [Obj.isCells] at hc
  ·exact (World.putObj_heap_other e).trans hk,rfl,rfl,rfl⟩
theorem KeepC.alloc {O : Nat -> Prop} (A : World) (o : Obj) : KeepC O A (A.alloc o):=⟨by simp,fun k o' hk _ _=>(Below.heap_alloc A o k (heap_lt hk)).trans hk,rfl,rfl,rfl⟩
def SeqM {α : Type} (P : Program) (g : Nat) (lb : Array Value) (M : Nat -> Prop) (Inv : (Nat -> Prop) -> World -> Prop) (V : (Nat -> Prop) -> α -> Array Value -> World -> Prop) (Pre : World -> Prop) (xs : List α) : Prop:=
 ∀ (l : Nat) (J Jx : List α -> (Nat -> Prop) -> World -> Prop) (O : Nat -> Prop) (W : World),¬ M l -> l < W.heap.size -> Inv O W -> Pre W -> (∀ b,O b -> b < W.heap.size) ->
  (∀ pre O A B,J pre O A -> (∀ b,O b -> b < A.heap.size) -> KeepB M W.heap.size A B -> J pre O B) ->
  (∀ pre O A B,Jx pre O A -> (∀ b,O b -> b < A.heap.size) -> KeepB M W.heap.size A B -> Jx pre O B) ->
  (∀ pre x vs O W1,(pre ++ [x]) <+: xs -> J pre O W1 -> Inv O W1 -> V O x vs W1 -> (∀ b,O b -> b < W1.heap.size) -> W.heap.size <= W1.heap.size ->
   YieldAt Fence.wide 0 P l vs W1 fun e W'=>∃ O',(∀ b,O' b -> O b \/ W1.heap.size <= b) /\ (∀ b,O' b -> b < W'.heap.size) /\ KeepC O W1 W' /\ Inv O' W' /\ (∀ k o,W.heap.size <= k -> W1.heap[k]? = some o -> bookO o = true -> W'.heap[k]? = some o) /\
    ((e = .returned (.bool true) /\ J (pre ++ [x]) O' W') \/ (e = .returned (.bool false) /\ Jx (pre ++ [x]) O' W'))) ->
  J [] O W ->
  Calls P g (#[.func (.yield l) #[] #[]] ++ lb) W fun e W'=>(∃ v,e = .returned v) /\ ∃ O',(∀ b,O' b -> O b \/ W.heap.size <= b) /\ (∀ b,O' b -> b < W'.heap.size) /\ KeepC (fun b=>O b \/ M b) W W' /\ Inv O' W' /\
   (J xs O' W' \/ ∃ pre,pre <+: xs /\ Jx pre O' W')
def postM {α : Type} (B0 : Nat) (Inv : (Nat -> Prop) -> World -> Prop) (I : List α -> (Nat -> Prop) -> World -> Prop) (Ix : Code -> List α -> (Nat -> Prop) -> World -> Prop) (xs : List α) (O : Nat -> Prop) (W : World) : Exit -> Act -> World -> Prop
 | .normal,_,W'=>∃ O',(∀ b,O' b -> O b \/ W.heap.size <= b) /\ (∀ b,O' b -> b < W'.heap.size) /\ KeepC O W W' /\ Inv O' W' /\ (∀ k o,B0 <= k -> W.heap[k]? = some o -> bookO o = true -> W'.heap[k]? = some o) /\ I xs O' W'
 | .ret,_,W'=>∃ O',(∀ b,O' b -> O b \/ W.heap.size <= b) /\ (∀ b,O' b -> b < W'.heap.size) /\ KeepC O W W' /\ Inv O' W' /\ (∀ k o,B0 <= k -> W.heap[k]? = some o -> bookO o = true -> W'.heap[k]? = some o) /\ Ix .ret xs O' W'
 | .exit id,_,W'=>∃ O',(∀ b,O' b -> O b \/ W.heap.size <= b) /\ (∀ b,O' b -> b < W'.heap.size) /\ KeepC O W W' /\ Inv O' W' /\ (∀ k o,B0 <= k -> W.heap[k]? = some o -> bookO o = true -> W'.heap[k]? = some o) /\ Ix (.exit id) xs O' W'
 | .goto t,_,W'=>∃ O',(∀ b,O' b -> O b \/ W.heap.size <= b) /\ (∀ b,O' b -> b < W'.heap.size) /\ KeepC O W W' /\ Inv O' W' /\ (∀ k o,B0 <= k -> W.heap[k]? = some o -> bookO o = true -> W'.heap[k]? = some o) /\ Ix (.goto t) xs O' W'
 | .panic _,_,_=>False
 | .outgrown,_,_=>False
structure Calm (M : Nat -> Prop) (B0 : Nat) (I : (Nat -> Prop) -> World -> Prop) : Prop where
 keep : ∀ O A B,I O A -> (∀ b,O b -> b < A.heap.size) -> KeepB M B0 A B -> I O B
structure Still0 (I : (Nat -> Prop) -> World -> Prop) : Prop where
 keep : ∀ O A B,I O A -> (∀ b,O b -> b < A.heap.size) -> KeepB (fun _=>False) 0 A B -> I O B
variable {P : Program}
theorem yield_any {l : Nat} {args : Array Value} {W : World} {R : Ending -> World -> Prop} {m m' : Nat} (h : YieldAt Fence.wide m P l args W R) : YieldAt Fence.wide m' P l args W R:=by
 obtain ⟨fn,tmps,assign,body,h1,h2,h3⟩:=h
 exact ⟨fn,tmps,assign,body,h1,h2,fun c cs _=>h3 c cs (fun d hd=>by cases hd)⟩
theorem wpIn_any {c : Code} {l n m : Nat} {Q : Exit -> Act -> World -> Prop} {a : Act} {w : World} (h : c.wpIn (Fence.wide.inRound l) n P Q a w) : c.wpIn (Fence.wide.inRound l) m P Q a w:=
 fun b k cs hro hb _=>h b k cs hro hb (fun d hd=>by cases hd)
theorem keepB_mono {M : Nat -> Prop} {B0 B1 : Nat} {A B : World} (h : KeepB M B0 A B) (hB : B1 <= B0) : KeepB M B1 A B:=⟨h.size,fun k o hk hm hb=>h.same k o hk hm fun h1=>hb (by omega),h.io⟩
theorem keepB_off {M M' : Nat -> Prop} {B0 : Nat} {A B : World} (h : KeepB M B0 A B) (hM : ∀ k,M k -> M' k) : KeepB M' B0 A B:=⟨h.size,fun k o hk hm hb=>h.same k o hk (fun h1=>hm (hM k h1)) hb,h.io⟩
theorem range_M {α : Type} {g : Operand} {ps : Array Tmp} {assign body : Code} {Q : Exit -> Act -> World -> Prop} {a : Act} {w : World} {n : Nat}
  {gf : Nat} {lb : Array Value} (hg : a.eval g = .func (.func gf) #[] lb) (eg : ∀ args w,(callFunc gf args).run P w = .ok (.enter gf args) w)
  {M : Nat -> Prop} {Inv : (Nat -> Prop) -> World -> Prop} {V : (Nat -> Prop) -> α -> Array Value -> World -> Prop} {Pre : World -> Prop} {xs : List α} (hseq : SeqM P gf lb M Inv V Pre xs) (hp0 : Pre w) (hpk : ∀ A B,Pre A -> KeepB (fun _=>False) 0 A B -> Pre B)
  (hM : ∀ b,M b -> b < w.heap.size) (hInv : Still0 Inv) (hV : ∀ x vs,Still0 fun O W=>V O x vs W) (hps : ∀ O x vs W,V O x vs W -> vs.size = ps.size)
  (I : List α -> (Nat -> Prop) -> World -> Prop) (Ix : Code -> List α -> (Nat -> Prop) -> World -> Prop) (hI : ∀ pre,Calm M w.heap.size (I pre)) (hIx : ∀ c pre,Calm M w.heap.size (Ix c pre))
  (O : Nat -> Prop) (hO : ∀ b,O b -> b < w.heap.size) (hv0 : Inv O w) (h0 : I [] O w) (Ax : α -> Array Value -> (Nat -> Prop) -> Act -> World -> Prop) (hAx : ∀ x vs a',Calm M w.heap.size fun O W=>Ax x vs O a' W)
  (hassign : ∀ (l : Nat) (pre : List α) (x : α) (vs : Array Value) (O : Nat -> Prop) (W : World) (K : Act -> World -> Prop),I pre O W -> Inv O W -> V O x vs W -> (∀ b,O b -> b < W.heap.size) ->
   (∀ a' O' W',(∀ b,O' b -> O b \/ W.heap.size <= b) -> (∀ b,O' b -> b < W'.heap.size) -> KeepC O W W' -> Inv O' W' -> V O' x vs W' -> I pre O' W' -> (∀ k o,w.heap.size <= k -> W.heap[k]? = some o -> bookO o = true -> W'.heap[k]? = some o) -> Ax x vs O' a' W' -> K a' W') ->
   assign.wpIn (Fence.wide.inRound l) n P (Exit.then K (fun _ _ _=>False)) { tmps:=(ps.zip vs).foldl (fun t (p,v)=>t.setIfInBounds p v) a.tmps,defers:=[] } W)
  (hbody : ∀ (l : Nat) (pre : List α) (x : α) (vs : Array Value) (O : Nat -> Prop) (a' : Act) (W : World),Ax x vs O a' W -> w.heap.size <= l -> (∃ r,W.heap[l]? = some (.loop r)) -> (pre ++ [x]) <+: xs -> I pre O W -> Inv O W -> V O x vs W -> (∀ b,O b -> b < W.heap.size) ->
   body.wpIn (Fence.wide.inRound l) n P (postM w.heap.size Inv I Ix (pre ++ [x]) O W) a' W)
  (hdone : ∀ (D : Nat) (O' : Nat -> Prop) (W : World),w.heap.size <= D -> (∀ b,O' b -> O b \/ w.heap.size <= b) -> (∀ b,O' b -> b < W.heap.size) -> KeepC (fun b=>O b \/ M b) w W -> Inv O' W -> I xs O' W -> W.heap[D]? = some (.deferred (some [])) -> Q .normal { a with defers:={ target:=.collected D,args:=#[] } :: a.defers } W)
  (hstop : ∀ (D : Nat) (c : Code) (pre : List α) (O' : Nat -> Prop) (W : World),w.heap.size <= D -> (∀ b,O' b -> O b \/ w.heap.size <= b) -> (∀ b,O' b -> b < W.heap.size) -> KeepC (fun b=>O b \/ M b) w W -> Inv O' W -> pre <+: xs -> Ix c pre O' W -> W.heap[D]? = some (.deferred (some [])) -> c.wpIn Fence.wide n P Q { a with defers:={ target:=.collected D,args:=#[] } :: a.defers } W) :
  (Code.rangeFunc g ps assign body).wpIn Fence.wide n P Q a w:=by
 refine wpIn_rangeFunc ?_
 intro fn hfn
 obtain ⟨rec,hrec⟩ : ∃ rec : LoopState -> Option Code -> Loop,rec = fun st pe=>{ state:=st,pending:=pe,fn,tmps:=a.tmps,params:=ps,assign,body,defers:=w.heap.size }:=⟨_,rfl⟩
 obtain ⟨W1,hW1⟩ : ∃ W1,(w.alloc (.deferred (some []))).alloc (.loop (rec .ready none)) = W1:=⟨_,rfl⟩
 have hs1 : W1.heap.size = w.heap.size + 2:=by rw [<- hW1]; simp
 have hL1 : W1.heap[w.heap.size + 1]? = some (.loop (rec .ready none)):=by
  rw [<- hW1]; have:=World.alloc_heap_new (w.alloc (.deferred (some []))) (.loop (rec .ready none)); rwa [World.size_alloc] at this
 have hK1 : W1.heap[w.heap.size]? = some (.deferred (some [])):=by
  rw [<- hW1]; exact (Below.heap_alloc _ _ _ (by simp)).trans (World.alloc_heap_new w _)
 have hkb1 : ∀ M' B0,KeepB M' B0 w W1:=fun M' B0=>by rw [<- hW1]; exact (KeepB.alloc w _).trans (KeepB.alloc _ _)
 have hkc1 : KeepC O w W1:=by rw [<- hW1]; exact (KeepC.alloc w _).trans (fun b h=>.inl h) (KeepC.alloc _ _)
 have hML : ∀ b,M b -> b ≠ w.heap.size /\ b ≠ w.heap.size + 1:=fun b h=>by have:=hM b h; omega
 refine ⟨w.heap.size + 1,[{ target:=.collected w.heap.size,args:=#[] }],W1,{ target:=.fn (.func gf) lb,args:=#[.func (.yield (w.heap.size + 1)) #[] #[]] },W1,gf,
  #[.func (.yield (w.heap.size + 1)) #[] #[]] ++ lb,W1,?_,?_,?_,?_,(fun h=>by cases h),?_⟩
 ·rw [<- hW1,hrec]; exact run_enterLoop_outer _ _ _ _ _
 ·simp only [resolve,hg]
  simp [go_sem]
 ·intro f' _; trivial
 ·simp [invoke,go_sem,eg]
 ·refine callsIn_wide.2 ((hseq (w.heap.size + 1)
   (fun pre O W=>I pre O W /\ W.heap[w.heap.size + 1]? = some (.loop (rec .ready none)) /\ W.heap[w.heap.size]? = some (.deferred (some [])))
   (fun pre O W=>∃ c,Ix c pre O W /\ W.heap[w.heap.size + 1]? = some (.loop (rec .done (some c))) /\ W.heap[w.heap.size]? = some (.deferred (some [])))
   O W1 (fun h=>(hML _ h).2 rfl) (by omega) (hInv.keep O w W1 hv0 hO (hkb1 _ _)) (hpk w W1 hp0 (hkb1 _ _)) (fun b h=>by have:=hO b h; omega)
   (fun pre O A B hs hb hk=>⟨(hI pre).keep O A B hs.1 hb (keepB_mono hk (by omega)),hk.same _ _ hs.2.1 (fun h=>(hML _ h).2 rfl) (fun h=>by omega),hk.same _ _ hs.2.2 (fun h=>(hML _ h).1 rfl) (fun h=>by omega)⟩)
   (fun pre O A B hs hb hk=>by
    obtain ⟨c,hc,hl,hd⟩:=hs
    exact ⟨c,(hIx c pre).keep O A B hc hb (keepB_mono hk (by omega)),hk.same _ _ hl (fun h=>(hML _ h).2 rfl) (fun h=>by omega),hk.same _ _ hd (fun h=>(hML _ h).1 rfl) (fun h=>by omega)⟩)
   ?_ ⟨(hI []).keep O w W1 h0 hO (hkb1 _ _),hL1,hK1⟩).mono ?_)
  ·
   rintro pre x vs O2 W hpre ⟨hi,hl,hd⟩ hiv hvx hO2 hWs
   have hlt : w.heap.size + 1 < W.heap.size:=heap_lt hl
   have hy:=run_yield (P:=P) (args:=vs) hl (by rw [hrec]; exact hps _ x vs _ hvx)
   rw [hrec] at hy
   refine ⟨fn,_,assign,body,hy,roundIn_of_wpIn hfn (wpIn_any (hassign _ pre x vs O2 W _ hi hiv hvx hO2 ?_))⟩
   clear hy
   intro a' O4 Wa hOa hOa2 hkca hiva hvxa hia hbka hax
   replace hl:=hbka _ _ (by omega) hl rfl
   replace hd:=hbka _ _ (lQ _) hd rfl
   replace hlt:=heap_lt hl
   refine ⟨_,run_beginRound hl (by rw [hrec]),?_⟩
   obtain ⟨W2,hW2⟩ : ∃ W2,Wa.putObj (w.heap.size + 1) (.loop { rec .ready none with state:=.busy }) = W2:=⟨_,rfl⟩
   rw [hW2]
   have hl2 : W2.heap[w.heap.size + 1]? = some (.loop { rec .ready none with state:=.busy }):=by rw [<- hW2]; exact World.putObj_heap_same hlt
   have hd2 : W2.heap[w.heap.size]? = some (.deferred (some [])):=by rw [<- hW2]; exact (World.putObj_heap_other (by omega)).trans hd
   have hkb2 : ∀ M',KeepB M' w.heap.size Wa W2:=fun M'=>by rw [<- hW2]; exact KeepB.put _ hl rfl (by omega)
   have hkc2 : ∀ O3,KeepC O3 Wa W2:=fun O3=>by rw [<- hW2]; exact KeepC.put _ hl rfl
   have hsz2 : W2.heap.size = Wa.heap.size:=by rw [<- hW2]; simp
   have hO3 : ∀ b,O4 b -> b < W2.heap.size:=fun b h=>by rw [hsz2]; exact hOa2 b h
   have hsza : W.heap.size <= Wa.heap.size:=hkca.size
   refine wpIn_any (wpIn_mono (hbody _ pre x vs O4 a' W2 ((hAx x vs a').keep O4 Wa W2 hax hOa2 (hkb2 _)) (by omega) ⟨_,hl2⟩ hpre ((hI pre).keep O4 Wa W2 hia hOa2 (hkb2 _)) (hInv.keep O4 Wa W2 hiva hOa2 (keepB_mono (hkb2 _) (Nat.zero_le _))) ((hV x vs).keep O4 Wa W2 hvxa hOa2 (keepB_mono (hkb2 _) (Nat.zero_le _))) hO3) ?_)
   have fin : ∀ (jump : Option Code) (W3 : World) (O3 : Nat -> Prop),(∀ k o,w.heap.size <= k -> W2.heap[k]? = some o -> bookO o = true -> W3.heap[k]? = some o) ->
     ∃ W4,(Instr.endRound (w.heap.size + 1) jump).run P W3 = .ok (.bool jump.isNone) W4 /\ W4.heap.size = W3.heap.size /\ (∀ M',KeepB M' w.heap.size W3 W4) /\ KeepC O3 W3 W4 /\ (∀ k,k ≠ w.heap.size + 1 -> W4.heap[k]? = W3.heap[k]?) /\
      W4.heap[w.heap.size + 1]? = some (.loop (rec (if jump.isNone then .ready else .done) jump)) /\ W4.heap[w.heap.size]? = some (.deferred (some [])):=fun jump W3 O3 hk3=>by
    have hl3:=hk3 _ _ (by omega) hl2 rfl
    have hd3:=hk3 _ _ (lQ _) hd2 rfl
    have hr:=run_endRound (P:=P) jump hl3
    refine ⟨_,hr,by simp,fun M'=>KeepB.put _ hl3 rfl (by omega),KeepC.put _ hl3 rfl,fun k hk=>World.putObj_heap_other hk,?_,(World.putObj_heap_other (by omega)).trans hd3⟩
    rw [World.putObj_heap_same (heap_lt hl3),hrec]
   have hO13 : ∀ {O3 : Nat -> Prop},(∀ b,O3 b -> O4 b \/ W2.heap.size <= b) -> ∀ b,O3 b -> O2 b \/ W.heap.size <= b:=fun h1 b h=>by
    rcases h1 b h with h | h
    ·exact hOa b h
    ·exact .inr (by omega)
   have hkcx : ∀ {O3 : Nat -> Prop} {W3 W4 : World},(∀ b,O3 b -> O4 b \/ W2.heap.size <= b) -> KeepC O4 W2 W3 -> KeepC O3 W3 W4 -> KeepC O2 W W4:=fun {O3 W3 W4} h1 h3 hc4=>
    (hkca.trans hOa (((hkc2 O4).trans (fun b h=>.inl h) h3).trans (fun b h=>by have:=h1 b h; rwa [hsz2] at this) hc4))
   have hbk4 : ∀ {W3 W4 : World},(∀ k o,w.heap.size <= k -> W2.heap[k]? = some o -> bookO o = true -> W3.heap[k]? = some o) -> (∀ k,k ≠ w.heap.size + 1 -> W4.heap[k]? = W3.heap[k]?) -> ∀ k o,W1.heap.size <= k -> W.heap[k]? = some o -> bookO o = true -> W4.heap[k]? = some o:=fun h5 h6 k o hk ho hb=>by
    have h7:=hbka k o (by omega) ho hb
    have h8 : W2.heap[k]? = some o:=by rw [<- hW2]; exact (World.putObj_heap_other (by omega)).trans h7
    exact (h6 k (by omega)).trans (h5 k o (by omega) h8 hb)
   rintro e a3 W3 hp
   cases e with
   | normal=>
    obtain ⟨O3,h1,h2,h3,h4,h5,h6⟩:=hp
    obtain ⟨W4,hr,hsz,hb4,hc4,hbo4,hl4,hd4⟩:=fin none W3 O3 h5
    have h2' : ∀ b,O3 b -> b < W4.heap.size:=fun b h=>by rw [hsz]; exact h2 b h
    exact ⟨_,_,hr,O3,hO13 h1,h2',hkcx h1 h3 hc4,hInv.keep O3 W3 W4 h4 h2 (keepB_mono (hb4 _) (Nat.zero_le _)),hbk4 h5 hbo4,.inl ⟨rfl,(hI _).keep O3 W3 W4 h6 h2 (hb4 _),hl4,hd4⟩⟩
   | ret=>
    obtain ⟨O3,h1,h2,h3,h4,h5,h6⟩:=hp
    obtain ⟨W4,hr,hsz,hb4,hc4,hbo4,hl4,hd4⟩:=fin (some .ret) W3 O3 h5
    have h2' : ∀ b,O3 b -> b < W4.heap.size:=fun b h=>by rw [hsz]; exact h2 b h
    exact ⟨_,_,hr,O3,hO13 h1,h2',hkcx h1 h3 hc4,hInv.keep O3 W3 W4 h4 h2 (keepB_mono (hb4 _) (Nat.zero_le _)),hbk4 h5 hbo4,.inr ⟨rfl,.ret,(hIx _ _).keep O3 W3 W4 h6 h2 (hb4 _),hl4,hd4⟩⟩
   | exit id=>
    obtain ⟨O3,h1,h2,h3,h4,h5,h6⟩:=hp
    obtain ⟨W4,hr,hsz,hb4,hc4,hbo4,hl4,hd4⟩:=fin (some (.exit id)) W3 O3 h5
    have h2' : ∀ b,O3 b -> b < W4.heap.size:=fun b h=>by rw [hsz]; exact h2 b h
    exact ⟨_,_,hr,O3,hO13 h1,h2',hkcx h1 h3 hc4,hInv.keep O3 W3 W4 h4 h2 (keepB_mono (hb4 _) (Nat.zero_le _)),hbk4 h5 hbo4,.inr ⟨rfl,.exit id,(hIx _ _).keep O3 W3 W4 h6 h2 (hb4 _),hl4,hd4⟩⟩
   | goto t=>
    obtain ⟨O3,h1,h2,h3,h4,h5,h6⟩:=hp
    obtain ⟨W4,hr,hsz,hb4,hc4,hbo4,hl4,hd4⟩:=fin (some (.goto t)) W3 O3 h5
    have h2' : ∀ b,O3 b -> b < W4.heap.size:=fun b h=>by rw [hsz]; exact h2 b h
    exact ⟨_,_,hr,O3,hO13 h1,h2',hkcx h1 h3 hc4,hInv.keep O3 W3 W4 h4 h2 (keepB_mono (hb4 _) (Nat.zero_le _)),hbk4 h5 hbo4,.inr ⟨rfl,.goto t,(hIx _ _).keep O3 W3 W4 h6 h2 (hb4 _),hl4,hd4⟩⟩
   | panic ch=>exact hp.elim
   | outgrown=>exact hp.elim
  ·
   rintro e W2 ⟨⟨v,rfl⟩,O2,h1,h2,h3,h4,(⟨hi,hl,hd⟩ | ⟨pre,hpre,c,hi,hl,hd⟩)⟩
   ·obtain ⟨W5,hr,hb5,hc5,hz5,hd5⟩ : ∃ W5,(Instr.endLoop (w.heap.size + 1)).run P W2 = .ok none W5 /\ (∀ M',KeepB M' w.heap.size W2 W5) /\ (∀ O3,KeepC O3 W2 W5) /\ W5.heap.size = W2.heap.size /\ W5.heap[w.heap.size]? = some (.deferred (some [])):=by
     have hr:=run_endLoop (P:=P) hl (by rw [hrec]; simp)
     refine ⟨_,by rw [hrec] at hr; exact hr,fun M'=>KeepB.put _ hl rfl (by omega),fun O3=>KeepC.put _ hl rfl,by simp,(World.putObj_heap_other (by omega)).trans hd⟩
    refine ⟨none,W5,hr,?_⟩
    exact hdone _ O2 W5 (lQ _) (fun b h=>(h1 b h).imp id fun h=>by omega) (fun b h=>by rw [hz5]; exact h2 b h) (((hkc1.wide fun b h=>.inl h).trans (fun b h=>.inl h) h3).trans (fun b h=>.inl h) (hc5 _))
     (hInv.keep O2 _ _ h4 h2 (keepB_mono (hb5 _) (Nat.zero_le _))) ((hI _).keep O2 _ _ hi h2 (hb5 _)) hd5
   ·obtain ⟨W5,hr,hb5,hc5,hz5,hd5⟩ : ∃ W5,(Instr.endLoop (w.heap.size + 1)).run P W2 = .ok (some c) W5 /\ (∀ M',KeepB M' w.heap.size W2 W5) /\ (∀ O3,KeepC O3 W2 W5) /\ W5.heap.size = W2.heap.size /\ W5.heap[w.heap.size]? = some (.deferred (some [])):=by
     have hr:=run_endLoop (P:=P) hl (by rw [hrec]; simp)
     refine ⟨_,by rw [hrec] at hr; exact hr,fun M'=>KeepB.put _ hl rfl (by omega),fun O3=>KeepC.put _ hl rfl,by simp,(World.putObj_heap_other (by omega)).trans hd⟩
    refine ⟨some c,W5,hr,?_⟩
    exact hstop _ c pre O2 W5 (lQ _) (fun b h=>(h1 b h).imp id fun h=>by omega) (fun b h=>by rw [hz5]; exact h2 b h) (((hkc1.wide fun b h=>.inl h).trans (fun b h=>.inl h) h3).trans (fun b h=>.inl h) (hc5 _))
     (hInv.keep O2 _ _ h4 h2 (keepB_mono (hb5 _) (Nat.zero_le _))) hpre ((hIx _ _).keep O2 _ _ hi h2 (hb5 _)) hd5
theorem range_N {α : Type} {g : Operand} {ps : Array Tmp} {assign body : Code} {Q : Exit -> Act -> World -> Prop} {a : Act} {w : World} {n : Nat}
  {l₀ : Nat} {r₀ : Loop} (hl₀ : w.heap[l₀]? = some (.loop r₀)) {gf : Nat} {lb : Array Value} (hg : a.eval g = .func (.func gf) #[] lb) (eg : ∀ args w,(callFunc gf args).run P w = .ok (.enter gf args) w)
  {M : Nat -> Prop} {Inv : (Nat -> Prop) -> World -> Prop} {V : (Nat -> Prop) -> α -> Array Value -> World -> Prop} {Pre : World -> Prop} {xs : List α} (hseq : SeqM P gf lb M Inv V Pre xs) (hp0 : Pre w) (hpk : ∀ A B,Pre A -> KeepB (fun _=>False) 0 A B -> Pre B)
  (hM : ∀ b,M b -> b < w.heap.size) (hInv : Still0 Inv) (hV : ∀ x vs,Still0 fun O W=>V O x vs W) (hps : ∀ O x vs W,V O x vs W -> vs.size = ps.size)
  (I : List α -> (Nat -> Prop) -> World -> Prop) (Ix : Code -> List α -> (Nat -> Prop) -> World -> Prop) (hI : ∀ pre,Calm M w.heap.size (I pre)) (hIx : ∀ c pre,Calm M w.heap.size (Ix c pre))
  (O : Nat -> Prop) (hO : ∀ b,O b -> b < w.heap.size) (hv0 : Inv O w) (h0 : I [] O w) (Ax : α -> Array Value -> (Nat -> Prop) -> Act -> World -> Prop) (hAx : ∀ x vs a',Calm M w.heap.size fun O W=>Ax x vs O a' W)
  (hassign : ∀ (l : Nat) (pre : List α) (x : α) (vs : Array Value) (O : Nat -> Prop) (W : World) (K : Act -> World -> Prop),I pre O W -> Inv O W -> V O x vs W -> (∀ b,O b -> b < W.heap.size) ->
   (∀ a' O' W',(∀ b,O' b -> O b \/ W.heap.size <= b) -> (∀ b,O' b -> b < W'.heap.size) -> KeepC O W W' -> Inv O' W' -> V O' x vs W' -> I pre O' W' -> (∀ k o,w.heap.size <= k -> W.heap[k]? = some o -> bookO o = true -> W'.heap[k]? = some o) -> Ax x vs O' a' W' -> K a' W') ->
   assign.wpIn (Fence.wide.inRound l) n P (Exit.then K (fun _ _ _=>False)) { tmps:=(ps.zip vs).foldl (fun t (p,v)=>t.setIfInBounds p v) a.tmps,defers:=[] } W)
  (hbody : ∀ (l : Nat) (pre : List α) (x : α) (vs : Array Value) (O : Nat -> Prop) (a' : Act) (W : World),Ax x vs O a' W -> w.heap.size <= l -> (∃ r,W.heap[l]? = some (.loop r)) -> (pre ++ [x]) <+: xs -> I pre O W -> Inv O W -> V O x vs W -> (∀ b,O b -> b < W.heap.size) ->
   body.wpIn (Fence.wide.inRound l) n P (postM w.heap.size Inv I Ix (pre ++ [x]) O W) a' W)
  (hdone : ∀ (O' : Nat -> Prop) (W : World),(∀ b,O' b -> O b \/ w.heap.size <= b) -> (∀ b,O' b -> b < W.heap.size) -> KeepC (fun b=>O b \/ M b) w W -> Inv O' W -> I xs O' W -> Q .normal a W)
  (hstop : ∀ (c : Code) (pre : List α) (O' : Nat -> Prop) (W : World),(∀ b,O' b -> O b \/ w.heap.size <= b) -> (∀ b,O' b -> b < W.heap.size) -> KeepC (fun b=>O b \/ M b) w W -> Inv O' W -> pre <+: xs -> Ix c pre O' W -> c.wpIn (Fence.wide.inRound l₀) n P Q a W) :
  (Code.rangeFunc g ps assign body).wpIn (Fence.wide.inRound l₀) n P Q a w:=by
 refine wpIn_rangeFunc ?_
 intro fn hfn
 obtain ⟨rec,hrec⟩ : ∃ rec : LoopState -> Option Code -> Loop,rec = fun st pe=>{ state:=st,pending:=pe,fn,tmps:=a.tmps,params:=ps,assign,body,defers:=r₀.defers }:=⟨_,rfl⟩
 obtain ⟨W1,hW1⟩ : ∃ W1,w.alloc (.loop (rec .ready none)) = W1:=⟨_,rfl⟩
 have hs1 : W1.heap.size = w.heap.size + 1:=by rw [<- hW1]; simp
 have hL1 : W1.heap[w.heap.size]? = some (.loop (rec .ready none)):=by
  rw [<- hW1]; exact World.alloc_heap_new w _
 have hkb1 : ∀ M' B0,KeepB M' B0 w W1:=fun M' B0=>by rw [<- hW1]; exact KeepB.alloc w _
 have hkc1 : KeepC O w W1:=by rw [<- hW1]; exact KeepC.alloc w _
 have hML : ∀ b,M b -> b ≠ w.heap.size:=fun b h=>by have:=hM b h; omega
 refine ⟨w.heap.size,[],W1,{ target:=.fn (.func gf) lb,args:=#[.func (.yield w.heap.size) #[] #[]] },W1,gf,
  #[.func (.yield w.heap.size) #[] #[]] ++ lb,W1,?_,?_,?_,?_,(fun h=>by cases h),?_⟩
 ·rw [<- hW1,hrec]; exact run_enterLoop_inner hl₀ _ _ _ _ _
 ·simp only [resolve,hg]
  simp [go_sem]
 ·intro f' _; trivial
 ·simp [invoke,go_sem,eg]
 ·refine CallsIn.inRound l₀ (callsIn_wide.2 ((hseq w.heap.size
   (fun pre O W=>I pre O W /\ W.heap[w.heap.size]? = some (.loop (rec .ready none)))
   (fun pre O W=>∃ c,Ix c pre O W /\ W.heap[w.heap.size]? = some (.loop (rec .done (some c))))
   O W1 (fun h=>hML _ h rfl) (by omega) (hInv.keep O w W1 hv0 hO (hkb1 _ _)) (hpk w W1 hp0 (hkb1 _ _)) (fun b h=>by have:=hO b h; omega)
   (fun pre O A B hs hb hk=>⟨(hI pre).keep O A B hs.1 hb (keepB_mono hk (by omega)),hk.same _ _ hs.2 (fun h=>hML _ h rfl) (fun h=>by omega)⟩)
   (fun pre O A B hs hb hk=>by
    obtain ⟨c,hc,hl⟩:=hs
    exact ⟨c,(hIx c pre).keep O A B hc hb (keepB_mono hk (by omega)),hk.same _ _ hl (fun h=>hML _ h rfl) (fun h=>by omega)⟩)
   ?_ ⟨(hI []).keep O w W1 h0 hO (hkb1 _ _),hL1⟩).mono ?_))
  ·
   rintro pre x vs O2 W hpre ⟨hi,hl⟩ hiv hvx hO2 hWs
   have hlt : w.heap.size < W.heap.size:=heap_lt hl
   have hy:=run_yield (P:=P) (args:=vs) hl (by rw [hrec]; exact hps _ x vs _ hvx)
   rw [hrec] at hy
   refine ⟨fn,_,assign,body,hy,roundIn_of_wpIn hfn (wpIn_any (hassign _ pre x vs O2 W _ hi hiv hvx hO2 ?_))⟩
   clear hy
   intro a' O4 Wa hOa hOa2 hkca hiva hvxa hia hbka hax
   replace hl:=hbka _ _ (by omega) hl rfl
   replace hlt:=heap_lt hl
   refine ⟨_,run_beginRound hl (by rw [hrec]),?_⟩
   obtain ⟨W2,hW2⟩ : ∃ W2,Wa.putObj w.heap.size (.loop { rec .ready none with state:=.busy }) = W2:=⟨_,rfl⟩
   rw [hW2]
   have hl2 : W2.heap[w.heap.size]? = some (.loop { rec .ready none with state:=.busy }):=by rw [<- hW2]; exact World.putObj_heap_same hlt
   have hkb2 : ∀ M',KeepB M' w.heap.size Wa W2:=fun M'=>by rw [<- hW2]; exact KeepB.put _ hl rfl (by omega)
   have hkc2 : ∀ O3,KeepC O3 Wa W2:=fun O3=>by rw [<- hW2]; exact KeepC.put _ hl rfl
   have hsz2 : W2.heap.size = Wa.heap.size:=by rw [<- hW2]; simp
   have hO3 : ∀ b,O4 b -> b < W2.heap.size:=fun b h=>by rw [hsz2]; exact hOa2 b h
   have hsza : W.heap.size <= Wa.heap.size:=hkca.size
   refine wpIn_any (wpIn_mono (hbody _ pre x vs O4 a' W2 ((hAx x vs a').keep O4 Wa W2 hax hOa2 (hkb2 _)) (by omega) ⟨_,hl2⟩ hpre ((hI pre).keep O4 Wa W2 hia hOa2 (hkb2 _)) (hInv.keep O4 Wa W2 hiva hOa2 (keepB_mono (hkb2 _) (Nat.zero_le _))) ((hV x vs).keep O4 Wa W2 hvxa hOa2 (keepB_mono (hkb2 _) (Nat.zero_le _))) hO3) ?_)
   have fin : ∀ (jump : Option Code) (W3 : World) (O3 : Nat -> Prop),(∀ k o,w.heap.size <= k -> W2.heap[k]? = some o -> bookO o = true -> W3.heap[k]? = some o) ->
     ∃ W4,(Instr.endRound w.heap.size jump).run P W3 = .ok (.bool jump.isNone) W4 /\ W4.heap.size = W3.heap.size /\ (∀ M',KeepB M' w.heap.size W3 W4) /\ KeepC O3 W3 W4 /\ (∀ k,k ≠ w.heap.size -> W4.heap[k]? = W3.heap[k]?) /\
      W4.heap[w.heap.size]? = some (.loop (rec (if jump.isNone then .ready else .done) jump)):=fun jump W3 O3 hk3=>by
    have hl3:=hk3 _ _ (by omega) hl2 rfl
    have hr:=run_endRound (P:=P) jump hl3
    refine ⟨_,hr,by simp,fun M'=>KeepB.put _ hl3 rfl (by omega),KeepC.put _ hl3 rfl,fun k hk=>World.putObj_heap_other hk,?_⟩
    rw [World.putObj_heap_same (heap_lt hl3),hrec]
   have hO13 : ∀ {O3 : Nat -> Prop},(∀ b,O3 b -> O4 b \/ W2.heap.size <= b) -> ∀ b,O3 b -> O2 b \/ W.heap.size <= b:=fun h1 b h=>by
    rcases h1 b h with h | h
    ·exact hOa b h
    ·exact .inr (by omega)
   have hkcx : ∀ {O3 : Nat -> Prop} {W3 W4 : World},(∀ b,O3 b -> O4 b \/ W2.heap.size <= b) -> KeepC O4 W2 W3 -> KeepC O3 W3 W4 -> KeepC O2 W W4:=fun {O3 W3 W4} h1 h3 hc4=>
    (hkca.trans hOa (((hkc2 O4).trans (fun b h=>.inl h) h3).trans (fun b h=>by have:=h1 b h; rwa [hsz2] at this) hc4))
   have hbk4 : ∀ {W3 W4 : World},(∀ k o,w.heap.size <= k -> W2.heap[k]? = some o -> bookO o = true -> W3.heap[k]? = some o) -> (∀ k,k ≠ w.heap.size -> W4.heap[k]? = W3.heap[k]?) -> ∀ k o,W1.heap.size <= k -> W.heap[k]? = some o -> bookO o = true -> W4.heap[k]? = some o:=fun h5 h6 k o hk ho hb=>by
    have h7:=hbka k o (by omega) ho hb
    have h8 : W2.heap[k]? = some o:=by rw [<- hW2]; exact (World.putObj_heap_other (by omega)).trans h7
    exact (h6 k (by omega)).trans (h5 k o (by omega) h8 hb)
   rintro e a3 W3 hp
   cases e with
   | normal=>
    obtain ⟨O3,h1,h2,h3,h4,h5,h6⟩:=hp
    obtain ⟨W4,hr,hsz,hb4,hc4,hbo4,hl4⟩:=fin none W3 O3 h5
    have h2' : ∀ b,O3 b -> b < W4.heap.size:=fun b h=>by rw [hsz]; exact h2 b h
    exact ⟨_,_,hr,O3,hO13 h1,h2',hkcx h1 h3 hc4,hInv.keep O3 W3 W4 h4 h2 (keepB_mono (hb4 _) (Nat.zero_le _)),hbk4 h5 hbo4,.inl ⟨rfl,(hI _).keep O3 W3 W4 h6 h2 (hb4 _),hl4⟩⟩
   | ret=>
    obtain ⟨O3,h1,h2,h3,h4,h5,h6⟩:=hp
    obtain ⟨W4,hr,hsz,hb4,hc4,hbo4,hl4⟩:=fin (some .ret) W3 O3 h5
    have h2' : ∀ b,O3 b -> b < W4.heap.size:=fun b h=>by rw [hsz]; exact h2 b h
    exact ⟨_,_,hr,O3,hO13 h1,h2',hkcx h1 h3 hc4,hInv.keep O3 W3 W4 h4 h2 (keepB_mono (hb4 _) (Nat.zero_le _)),hbk4 h5 hbo4,.inr ⟨rfl,.ret,(hIx _ _).keep O3 W3 W4 h6 h2 (hb4 _),hl4⟩⟩
   | exit id=>
    obtain ⟨O3,h1,h2,h3,h4,h5,h6⟩:=hp
    obtain ⟨W4,hr,hsz,hb4,hc4,hbo4,hl4⟩:=fin (some (.exit id)) W3 O3 h5
    have h2' : ∀ b,O3 b -> b < W4.heap.size:=fun b h=>by rw [hsz]; exact h2 b h
    exact ⟨_,_,hr,O3,hO13 h1,h2',hkcx h1 h3 hc4,hInv.keep O3 W3 W4 h4 h2 (keepB_mono (hb4 _) (Nat.zero_le _)),hbk4 h5 hbo4,.inr ⟨rfl,.exit id,(hIx _ _).keep O3 W3 W4 h6 h2 (hb4 _),hl4⟩⟩
   | goto t=>
    obtain ⟨O3,h1,h2,h3,h4,h5,h6⟩:=hp
    obtain ⟨W4,hr,hsz,hb4,hc4,hbo4,hl4⟩:=fin (some (.goto t)) W3 O3 h5
    have h2' : ∀ b,O3 b -> b < W4.heap.size:=fun b h=>by rw [hsz]; exact h2 b h
    exact ⟨_,_,hr,O3,hO13 h1,h2',hkcx h1 h3 hc4,hInv.keep O3 W3 W4 h4 h2 (keepB_mono (hb4 _) (Nat.zero_le _)),hbk4 h5 hbo4,.inr ⟨rfl,.goto t,(hIx _ _).keep O3 W3 W4 h6 h2 (hb4 _),hl4⟩⟩
   | panic ch=>exact hp.elim
   | outgrown=>exact hp.elim
  ·
   rintro e W2 ⟨⟨v,rfl⟩,O2,h1,h2,h3,h4,(⟨hi,hl⟩ | ⟨pre,hpre,c,hi,hl⟩)⟩
   ·obtain ⟨W5,hr,hb5,hc5,hz5⟩ : ∃ W5,(Instr.endLoop w.heap.size).run P W2 = .ok none W5 /\ (∀ M',KeepB M' w.heap.size W2 W5) /\ (∀ O3,KeepC O3 W2 W5) /\ W5.heap.size = W2.heap.size:=by
     have hr:=run_endLoop (P:=P) hl (by rw [hrec]; simp)
     refine ⟨_,by rw [hrec] at hr; exact hr,fun M'=>KeepB.put _ hl rfl (by omega),fun O3=>KeepC.put _ hl rfl,by simp⟩
    refine ⟨none,W5,hr,?_⟩
    exact hdone O2 W5 (fun b h=>(h1 b h).imp id fun h=>by omega) (fun b h=>by rw [hz5]; exact h2 b h) (((hkc1.wide fun b h=>.inl h).trans (fun b h=>.inl h) h3).trans (fun b h=>.inl h) (hc5 _))
     (hInv.keep O2 _ _ h4 h2 (keepB_mono (hb5 _) (Nat.zero_le _))) ((hI _).keep O2 _ _ hi h2 (hb5 _))
   ·obtain ⟨W5,hr,hb5,hc5,hz5⟩ : ∃ W5,(Instr.endLoop w.heap.size).run P W2 = .ok (some c) W5 /\ (∀ M',KeepB M' w.heap.size W2 W5) /\ (∀ O3,KeepC O3 W2 W5) /\ W5.heap.size = W2.heap.size:=by
     have hr:=run_endLoop (P:=P) hl (by rw [hrec]; simp)
     refine ⟨_,by rw [hrec] at hr; exact hr,fun M'=>KeepB.put _ hl rfl (by omega),fun O3=>KeepC.put _ hl rfl,by simp⟩
    refine ⟨some c,W5,hr,?_⟩
    exact hstop c pre O2 W5 (fun b h=>(h1 b h).imp id fun h=>by omega) (fun b h=>by rw [hz5]; exact h2 b h) (((hkc1.wide fun b h=>.inl h).trans (fun b h=>.inl h) h3).trans (fun b h=>.inl h) (hc5 _))
     (hInv.keep O2 _ _ h4 h2 (keepB_mono (hb5 _) (Nat.zero_le _))) hpre ((hIx _ _).keep O2 _ _ hi h2 (hb5 _))
end
section
open Go Go.RowKit
def noDefB (ops : Array Oper) : Bool:=ops.all fun o=>match o.op with | .defer _=>false | _=>true
section
variable {P : Program} {ops : Array Oper} {Q : Exit -> Act -> World -> Prop} {l n : Nat} {md : Region.Mode}
theorem noDef_at (h : noDefB ops = true) {i : Nat} {o : Oper} (hi : ops[i]? = some o) (c : Go.Call) : o.op ≠ .defer c:=fun e=>by
 unfold noDefB at h
 rw [Array.all_eq_true] at h
 obtain ⟨hlt,rfl⟩:=Array.getElem?_eq_some_iff.1 hi
 have:=h i hlt
 rw [e] at this
 cases this
theorem rowsIn_round {row : String} {args : Array Value} {w : World} {R : Value -> World -> Prop} (h : Rows P row args w R) : RowsIn (Fence.wide.inRound l) n P row args w R:=fun c cs _=>by
 obtain ⟨v,w',hr,hs⟩:=h c cs
 exact ⟨v,w',hr,stepsIn_wide.2 hs⟩
theorem upon_in {o : Oper} {a : Act} {K : Act -> World -> Prop} {r : Result Next} (h : o.upon P a K Q r) : o.uponIn (Fence.wide.inRound l) n P a K Q r:=by
 cases r with
 | ok x w'=>
  cases x <;> simp only [Oper.upon] at h <;> simp only [Oper.uponIn] <;>
   first
    | exact h
    | exact ⟨fun h'=>(by cases h'),CallsIn.inRound l (callsIn_wide.2 h)⟩
    | exact ⟨fun h'=>(by cases h'),rowsIn_round h⟩
    | exact h.elim
 | halt x w'=>cases x <;> simp only [Oper.upon] at h <;> simp only [Oper.uponIn] <;> exact h
theorem wpOp_in (hd : noDefB ops = true) (hQ : ¬ LetsOut Q) {i : Nat} {K K' : Act -> World -> Prop} {a : Act} {w : World} (hK : ∀ a w,K a w -> K' a w) (h : wpOp P ops Q i K a w) : wpOpIn (Fence.wide.inRound l) n P ops Q i K' a w:=by
 replace h:=wpOp_mono hK h
 unfold wpOp at h
 unfold wpOpIn
 split
 ·rename_i ho
  simpa [ho] using h
 ·rename_i o ho
  simp only [ho] at h
  split
  ·rename_i hw
   simp only [hw,if_true] at h
   rcases h with h | h
   ·refine ⟨fun f _=>trivial,?_⟩
    rw [Oper.semAt_eq _ _ _ (noDef_at hd ho)]
    exact upon_in h
   ·exact absurd h.2 hQ
  ·rename_i hw
   simp only [hw] at h
   exact ⟨fun f _=>trivial,h⟩
theorem wpAny_in (hd : noDefB ops = true) (hQ : ¬ LetsOut Q) : ∀ (f : Nat) (b : Array Bool) (a : Act) (w : World),wpAny P md ops Q f b a w -> wpAnyIn (Fence.wide.inRound l) n P md ops Q f b a w
 | 0,_,_,_,h=>h
 | f + 1,b,a,w,h=>⟨h.1,fun i hi=>wpOp_in hd hQ (fun a w h=>wpAny_in hd hQ f _ a w h) (h.2 i hi)⟩
theorem wpIn_region_of_any {id : Nat} {a : Act} {w : World} (hm : P.follows .mixedOrders = true) (hd : noDefB ops = true) (hQ : ¬ LetsOut Q)
  (h : wpAny P .any ops Q ops.size (Array.replicate ops.size false) a { w with drawn:=w.drawn + 1 }) : (Code.region id ops true).wpIn (Fence.wide.inRound l) n P Q a w:=
 wpIn_region_any hm (wpAny_in hd hQ _ _ _ _ h)
theorem wpIn_region_ups {id : Nat} {a : Act} {w : World} {L : List Oper} (hm : P.follows .mixedOrders = true) (hd : noDefB L.toArray = true) (hQ : ¬ LetsOut Q) (hB : Region.lexB .any L.toArray = true)
  (h : wpQuiet P L.toArray (fun w'=>∃ u : Ups w,w' = u.wld) (fun a'=>∀ w',(∃ u : Ups w,w' = u.wld) -> Q .normal a' w') L a) : (Code.region id L.toArray true).wpIn (Fence.wide.inRound l) n P Q a w:=by
 simp only [Region.lexB,Bool.and_eq_true] at hB
 refine wpIn_region_of_any hm hd hQ (wpAny_of_quiet (C:=fun w'=>∃ u : Ups w,w' = u.wld) (Q:=fun a'=>∀ w',(∃ u : Ups w,w' = u.wld) -> Q .normal a' w') (fun _ w' hw' h=>h w' hw') _ _ _ _ ⟨⟨_,(Below.refl _ _).drew⟩,rfl⟩ ?_)
 have:=wpAnyQ_lex (C:=fun w'=>∃ u : Ups w,w' = u.wld) (md:=.any) hB.1 L 0 (Array.replicate L.toArray.size false) a (by simp) (by simpa using hB.2) h
 simpa using this
theorem roundIn_in {l0 m m' : Nat} {f : FuncId} {tmps : Array Value} {assign body : Code} {w : World} {R : Ending -> World -> Prop} (h : RoundIn Fence.wide m P l0 f tmps assign body w R) : RoundIn (Fence.wide.inRound l) m' P l0 f tmps assign body w R:=
 ⟨h.1,fun c cs _=>h.2 c cs (room_wide _)⟩
end
end
section
open Go.RowKit
structure PItem where
 cls : Nat
 sym : Nat
 deriving DecidableEq
def PItem.zero : PItem:=⟨0,0⟩
structure PRule where
 left : Nat
 right : List PItem
 deriving DecidableEq
def PRule.zero : PRule:=⟨0,[]⟩
inductive PTree where
 | node (rule src dst : Int) (sub : List PTree)
def PTree.zero : PTree:=.node 0 0 0 []
def symTo (g : List PRule) (s : Nat) : Nat -> List Nat
 | 0=>[]
 | n + 1=>if (g.getD n PRule.zero).left = s then symTo g s n ++ [n] else symTo g s n
def symRules (g : List PRule) (s : Nat) : List Nat:=symTo g s g.length
def sumN : List Nat -> Nat
 | []=>0
 | a :: t=>a + sumN t
def restN (sy : Nat -> Nat -> Nat -> Nat) (tk : List Nat) : List PItem -> Nat -> Nat -> Nat
 | [],a,b=>if a < b then 0 else 1
 | i :: t,a,b=>
  if b - a < t.length + 1 then 0
  else if i.cls ≠ 0 then (if tk.getD a 0 &&& i.cls = 0 then 0 else restN sy tk t (a + 1) b)
  else if t = [] then sy i.sym a b
  else sumN ((List.range (b - a - t.length)).map fun k=>restN sy tk t (a + 1 + k) b * sy i.sym a (a + 1 + k))
def ruleOf (g : List PRule) (r : Nat) : List PItem:=(g.getD r PRule.zero).right
def symStep (g : List PRule) (tk : List Nat) (sy : Nat -> Nat -> Nat -> Nat) (s a b : Nat) : Nat:=sumN ((symRules g s).map fun r=>restN sy tk (ruleOf g r) a b)
def symN (g : List PRule) (tk : List Nat) : Nat -> Nat -> Nat -> Nat -> Nat
 | 0,_,_,_=>0
 | d + 1,s,a,b=>symStep g tk (symN g tk d) s a b
def Ranked (g : List PRule) (rk : Nat -> Nat) : Prop:=∀ r,r < g.length -> ∀ i ∈ ruleOf g r,i.cls = 0 -> rk i.sym < rk (g.getD r PRule.zero).left
theorem symTo_mem {g : List PRule} {s r : Nat} : ∀ {n : Nat},r ∈ symTo g s n -> r < n /\ (g.getD r PRule.zero).left = s
 | 0,h=>by cases h
 | n + 1,h=>by
  rw [symTo] at h
  split at h
  ·rcases List.mem_append.1 h with h | h
   ·have:=symTo_mem h; exact ⟨by omega,this.2⟩
   ·rw [mS.1 h]; exact ⟨by omega,by assumption⟩
  ·have:=symTo_mem h; exact ⟨by omega,this.2⟩
theorem restN_congr {sy sy' : Nat -> Nat -> Nat -> Nat} {tk : List Nat} : ∀ (its : List PItem) (a b : Nat),(∀ i ∈ its,i.cls = 0 -> ∀ a b,sy i.sym a b = sy' i.sym a b) -> restN sy tk its a b = restN sy' tk its a b
 | [],a,b,_=>rfl
 | i :: t,a,b,h=>by
  have ht:=fun a b=>restN_congr (tk:=tk) t a b fun j hj=>h j (List.mem_cons_of_mem _ hj)
  rw [restN,restN]
  split
  ·rfl
  ·split
   ·split
    ·rfl
    ·exact ht _ _
   ·have hi:=h i (List.mem_cons_self ..) (by simpa using (by assumption : ¬ i.cls ≠ 0))
    split
    ·exact hi _ _
    ·congr 1
     refine List.map_congr_left fun k _=>?_
     rw [ht,hi]
theorem symN_stable {g : List PRule} {tk : List Nat} {rk : Nat -> Nat} (hr : Ranked g rk) : ∀ (d d' s : Nat),rk s < d -> rk s < d' -> ∀ a b,symN g tk d s a b = symN g tk d' s a b
 | 0,_,_,h,_=>absurd h (by omega)
 | _ + 1,0,_,_,h=>absurd h (by omega)
 | d + 1,d' + 1,s,h,h'=>fun a b=>by
  rw [symN,symN,symStep,symStep]
  congr 1
  refine List.map_congr_left fun r hrm=>?_
  have hm:=symTo_mem hrm
  refine restN_congr _ _ _ fun i hi hc a b=>?_
  have:=hr r hm.1 i hi hc
  rw [hm.2] at this
  exact symN_stable hr d d' i.sym (by omega) (by omega) a b
theorem symN_step {g : List PRule} {tk : List Nat} {rk : Nat -> Nat} (hr : Ranked g rk) {D : Nat} (hD : ∀ s,rk s < D) (s a b : Nat) : symN g tk D s a b = symStep g tk (symN g tk D) s a b:=by
 rw [symN_stable hr D (D + 1) s (hD s) (by have:=hD s; omega) a b]
 rfl
def partsF (sy : Nat -> Nat -> Nat -> Nat) (tk : List Nat) (tr : Nat -> Nat -> Nat -> List PTree) : List PItem -> Nat -> Nat -> List (List PTree)
 | [],_,_=>[[]]
 | i :: t,a,b=>if i.cls ≠ 0 then partsF sy tk tr t (a + 1) b
  else (List.range (b - a - t.length)).flatMap fun k=>if restN sy tk t (a + 1 + k) b = 0 then [] else (tr i.sym a (a + 1 + k)).flatMap fun x=>(partsF sy tk tr t (a + 1 + k) b).map (x :: ·)
def treesStep (g : List PRule) (tk : List Nat) (sy : Nat -> Nat -> Nat -> Nat) (tr : Nat -> Nat -> Nat -> List PTree) (s a b : Nat) : List PTree:=
 (symRules g s).flatMap fun r=>if restN sy tk (ruleOf g r) a b = 0 then [] else (partsF sy tk tr (ruleOf g r) a b).map (PTree.node (r : Int) (a : Int) (b : Int))
def treesN (g : List PRule) (tk : List Nat) (sy : Nat -> Nat -> Nat -> Nat) : Nat -> Nat -> Nat -> Nat -> List PTree
 | 0,_,_,_=>[]
 | d + 1,s,a,b=>treesStep g tk sy (treesN g tk sy d) s a b
theorem partsF_congr {sy : Nat -> Nat -> Nat -> Nat} {tk : List Nat} {tr tr' : Nat -> Nat -> Nat -> List PTree} : ∀ (its : List PItem) (a b : Nat),(∀ i ∈ its,i.cls = 0 -> ∀ a b,tr i.sym a b = tr' i.sym a b) -> partsF sy tk tr its a b = partsF sy tk tr' its a b
 | [],_,_,_=>rfl
 | i :: t,a,b,h=>by
  have ht:=fun a b=>partsF_congr (sy:=sy) (tk:=tk) t a b fun j hj=>h j (List.mem_cons_of_mem _ hj)
  rw [partsF,partsF]
  split
  ·exact ht _ _
  ·have hi:=h i (List.mem_cons_self ..) (by simpa using (by assumption : ¬ i.cls ≠ 0))
   congr 1
   funext k
   rw [hi,ht]
theorem flatMap_same {α β : Type} {f f' : α -> List β} : ∀ (l : List α),(∀ a ∈ l,f a = f' a) -> l.flatMap f = l.flatMap f'
 | [],_=>rfl
 | a :: l,h=>by rw [List.flatMap_cons,List.flatMap_cons,h a (List.mem_cons_self ..),flatMap_same l fun b hb=>h b (List.mem_cons_of_mem _ hb)]
theorem treesN_stable {g : List PRule} {tk : List Nat} {sy : Nat -> Nat -> Nat -> Nat} {rk : Nat -> Nat} (hr : Ranked g rk) : ∀ (d d' s : Nat),rk s < d -> rk s < d' -> ∀ a b,treesN g tk sy d s a b = treesN g tk sy d' s a b
 | 0,_,_,h,_=>absurd h (by omega)
 | _ + 1,0,_,_,h=>absurd h (by omega)
 | d + 1,d' + 1,s,h,h'=>fun a b=>by
  rw [treesN,treesN,treesStep,treesStep]
  refine flatMap_same _ fun r hrm=>?_
  have hm:=symTo_mem hrm
  rw [partsF_congr (tr':=treesN g tk sy d') (ruleOf g r) a b fun i hi hc a b=>by
   have:=hr r hm.1 i hi hc
   rw [hm.2] at this
   exact treesN_stable hr d d' i.sym (by omega) (by omega) a b]
theorem treesN_step {g : List PRule} {tk : List Nat} {sy : Nat -> Nat -> Nat -> Nat} {rk : Nat -> Nat} (hr : Ranked g rk) {D : Nat} (hD : ∀ s,rk s < D) (s a b : Nat) : treesN g tk sy D s a b = treesStep g tk sy (treesN g tk sy D) s a b:=by
 rw [treesN_stable hr D (D + 1) s (hD s) (by have:=hD s; omega) a b]
 rfl
end
end Go.Proofs.YteclineblddpbaaGreatDoorR
