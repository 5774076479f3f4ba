import Derived.Test.YteclineblddpbaaGreatDoorRC01
import Derived.Test.YteclineblddpbaaGreatDoorRC29
import Derived.Test.YteclineblddpbaaGreatDoorRC30
import Derived.Deep.MidRow
set_option linter.all false
set_option maxRecDepth 100000
set_option maxHeartbeats 0
namespace Go.Proofs.YteclineblddpbaaGreatDoorR
section
open Go Go.RowKit Go.Maps
theorem CKp.wide {O O' : Nat -> Prop} {A B : World} (h : CKp O A B) (hO : ∀ b,O b -> O' b) : CKp O' A B:=⟨h.size,fun b o v hb hc=>h.cell b o v (fun h'=>hb (hO b h')) hc⟩
theorem row_same {w w' : World} {base e k n : Nat} {v : Value} {xs : List Value} (h : w.ownsRow base e k v n xs) (hb : ∀ g,v.ownBlock = some g -> w'.heap[g]? = w.heap[g]?) : w'.ownsRow base e k v n xs:=by
 obtain ⟨hl,h | ⟨g,cap,cur,rfl,h0,hg,h1,h2,h3,h4⟩⟩:=h
 ·exact ⟨hl,.inl h⟩
 ·exact ⟨hl,.inr ⟨g,cap,cur,rfl,h0,(hb g rfl).trans hg,h1,h2,h3,h4⟩⟩
theorem OwnTrees.keepB {M : Nat -> Prop} {B0 base : Nat} {A W : World} {v : Value} {ms : List MTree} (h : OwnTrees base A v ms) (hk : KeepB M B0 A W) (hM : ∀ k,base <= k -> ¬ M k) : OwnTrees base W v ms:=by
 refine ⟨row_same h.1 fun g hg=>?_,fun m hm=>?_⟩
 ·have hb:=h.1.lt g hg
  have hc : ∃ o,A.heap[g]? = some o /\ bookO o = false:=by
   rcases h.1.2 with ⟨rfl,_⟩ | ⟨g',cap,cur,rfl,_,hg',_⟩
   ·cases hg
   ·obtain rfl : g' = g:=by simpa [Value.ownBlock] using hg
    exact ⟨_,hg',rfl⟩
  obtain ⟨o,ho,hbk⟩:=hc
  rw [hk.same g o ho (hM g hb.1) (fun _=>hbk),ho]
 ·refine TrAt.keep (O:=fun b=>¬ (base <= b /\ some b ≠ v.ownBlock)) ⟨hk.size,fun b o u hb hc=>?_⟩ (fun b hb=>.inl hb) m.t m.agg (h.2 m hm)
  obtain ⟨o',h1,h2⟩:=cells_of_cell hc
  have h3:=hk.same b o' h1 (hM b (Classical.not_not.1 hb).1) (fun _=>by cases o' <;> first | rfl | simp [Obj.isCells] at h2)
  rw [World.cell?_of_block (h3.trans h1.symm)]
  exact hc
def set4 (w : World) (g o : Nat) (a b c d : Value) : World:=(((w.setCell ⟨g,o,none⟩ a).setCell ⟨g,o + 1,none⟩ b).setCell ⟨g,o + 2,none⟩ c).setCell ⟨g,o + 3,none⟩ d
theorem set4_size (w : World) (g o : Nat) (a b c d : Value) : (set4 w g o a b c d).heap.size = w.heap.size:=by simp only [set4,setCell_size]
theorem set4_far (w : World) {g o : Nat} {a b c d : Value} {k : Nat} (h : k ≠ g) : (set4 w g o a b c d).heap[k]? = w.heap[k]?:=by
 unfold set4
 rw [Below.heap_setCell _ _ _ _ h,Below.heap_setCell _ _ _ _ h,Below.heap_setCell _ _ _ _ h,Below.heap_setCell _ _ _ _ h]
theorem set4_row {w : World} {base n cap g : Nat} {xs : List Value} {z0 z1 z2 z3 : Value} (a b c d : Value) (h : w.ownsRow base 34 4 (.slice (some ⟨g,0,none⟩) (n + 1) cap) (n + 1) (xs ++ [z0,z1,z2,z3])) (hx : xs.length = n * 4) :
  (set4 w g (n * 4) a b c d).ownsRow base 34 4 (.slice (some ⟨g,0,none⟩) (n + 1) cap) (n + 1) (xs ++ [a,b,c,d]):=by
 have h0:=ownsRow_setAt (g:=g) (idx:=n * 4) a h rfl (by simp; omega)
 rw [List.set_append_right _ _ (by omega),hx,Nat.sub_self] at h0
 have h1:=ownsRow_setAt (g:=g) (idx:=n * 4 + 1) b h0 rfl (by simp; omega)
 rw [List.set_append_right _ _ (by omega),hx,Nat.add_sub_cancel_left] at h1
 have h2:=ownsRow_setAt (g:=g) (idx:=n * 4 + 2) c h1 rfl (by simp; omega)
 rw [List.set_append_right _ _ (by omega),hx,Nat.add_sub_cancel_left] at h2
 have h3:=ownsRow_setAt (g:=g) (idx:=n * 4 + 3) d h2 rfl (by simp; omega)
 rw [List.set_append_right _ _ (by omega),hx,Nat.add_sub_cancel_left] at h3
 exact h3
structure TailS (w0 : World) (base g n cap T : Nat) (xs zs : List Value) (bx : Value) (w : World) : Prop where
 size : w0.heap.size <= w.heap.size
 far : ∀ k,k < w0.heap.size -> k ≠ g -> k ≠ T -> w.heap[k]? = w0.heap[k]?
 io : IoSame w0 w
 row : w.ownsRow base 34 4 (.slice (some ⟨g,0,none⟩) (n + 1) cap) (n + 1) (xs ++ zs)
 box : Blk w T 30 #[bx]
section
variable {w0 w w' : World} {base g n cap T : Nat} {xs zs : List Value} {bx : Value}
theorem TailS.start (h : w.ownsRow base 34 4 (.slice (some ⟨g,0,none⟩) (n + 1) cap) (n + 1) (xs ++ zs)) (hb : Blk w T 30 #[bx]) : TailS w base g n cap T xs zs bx w:=⟨lQ _,fun _ _ _ _=>rfl,.refl _,h,hb⟩
theorem TailS.below (h : TailS w0 base g n cap T xs zs bx w) (hb : Below w.heap.size w w') : TailS w0 base g n cap T xs zs bx w':=
 ⟨Nat.le_trans h.size hb.size,fun k hk h1 h2=>(hb.block k (Nat.lt_of_lt_of_le hk h.size)).trans (h.far k hk h1 h2),h.io.trans ⟨hb.os,hb.tape,hb.output⟩,row_below h.row hb,h.box.below hb h.box.lt⟩
theorem TailS.put4 {z0 z1 z2 z3 : Value} (h : TailS w0 base g n cap T xs [z0,z1,z2,z3] bx w) (hgT : T ≠ g) (hx : xs.length = n * 4) (a b c d : Value) : TailS w0 base g n cap T xs [a,b,c,d] bx (set4 w g (n * 4) a b c d):=
 ⟨by rw [set4_size]; exact h.size,fun k hk h1 h2=>(set4_far w h1).trans (h.far k hk h1 h2),h.io.trans ⟨rfl,rfl,rfl⟩,set4_row a b c d h.row hx,(set4_far w hgT).trans h.box⟩
theorem TailS.putBox (h : TailS w0 base g n cap T xs zs bx w) (hgT : T ≠ g) (u : Value) : TailS w0 base g n cap T xs zs u (w.setCell ⟨T,0,none⟩ u):=
 ⟨by rw [setCell_size]; exact h.size,fun k hk h1 h2=>(Below.heap_setCell w _ _ k h2).trans (h.far k hk h1 h2),h.io.trans ⟨rfl,rfl,rfl⟩,row_same h.row fun k hk=>Below.heap_setCell w _ _ k (by
  simp only [Value.ownBlock,Option.some.injEq] at hk
  show k ≠ T
  rw [<- hk]
  exact Ne.symm hgT),by have:=h.box.set_ 0 u; simpa using this⟩
theorem TailS.there {z0 z1 z2 z3 : Value} (h : TailS w0 base g n cap T xs [z0,z1,z2,z3] bx w) (hx : xs.length = n * 4) : w.there g (n * 4) 4:=fun j hj=>by
 have h1:=h.row.cells (g:=g) rfl (n * 4 + j)
 have hadd : (⟨g,0,none⟩ : Addr).add (n * 4 + j) = ⟨g,n * 4 + j,none⟩:=by rw [Addr.add_mid,Nat.zero_add]
 rw [hadd] at h1
 refine ⟨?_,ownsRow_frozen h.row rfl _⟩
 have h2 : ∃ u,(xs ++ [z0,z1,z2,z3])[n * 4 + j]? = some u:=by
  rw [List.getElem?_append_right (by omega),hx,Nat.add_sub_cancel_left]
  match j,hj with
  | 0,_=>exact ⟨_,rfl⟩
  | 1,_=>exact ⟨_,rfl⟩
  | 2,_=>exact ⟨_,rfl⟩
  | 3,_=>exact ⟨_,rfl⟩
 obtain ⟨u,hu⟩:=h2
 rw [h1 u hu]
 rfl
end
theorem trees_put {base T g cap : Nat} {W wA w9 w12 : World} {cv z0 z1 z2 z3 : Value} {ms : List MTree} {m : MTree}
  (hb : Below W.heap.size W wA) (hown : OwnTrees base W cv ms) (hT : Blk W T 30 #[cv]) (hTb : T < base) (hbase : base <= W.heap.size) (hm : mtIn (fun b=>W.heap.size <= b) wA m)
  (hown9 : w9.ownsRow base 34 4 (.slice (some ⟨g,0,none⟩) (ms.length + 1) cap) (ms.length + 1) (ms.flatMap mtCells ++ [z0,z1,z2,z3])) (hgr9 : wA.grownBy w9 cv.ownBlock) (hat9 : cv.ownBlock = some g \/ wA.heap.size <= g)
  (ht : TailS w9 base g ms.length cap T (ms.flatMap mtCells) [m.v0,m.v1,m.v2,m.v3] (.slice (some ⟨g,0,none⟩) (ms.length + 1) cap) w12) :
  KeepM (boxO T cv) W w12 /\ Blk w12 T 30 #[.slice (some ⟨g,0,none⟩) (ms.length + 1) cap] /\ OwnTrees base w12 (.slice (some ⟨g,0,none⟩) (ms.length + 1) cap) (ms ++ [m]) /\
   (∀ b,boxO T (.slice (some ⟨g,0,none⟩) (ms.length + 1) cap) b -> boxO T cv b \/ W.heap.size <= b) /\ (∀ b,boxO T (.slice (some ⟨g,0,none⟩) (ms.length + 1) cap) b -> b < w12.heap.size):=by
 have hcv : ∀ h,cv.ownBlock = some h -> base <= h /\ h < W.heap.size:=hown.1.lt
 have hg9:=hown9.lt g rfl
 have hTl:=hT.lt
 have hA:=hb.size
 have h9:=hgr9.size
 have h10:=ht.size
 have hgT : T ≠ g:=by omega
 have hgW : ∀ k,k < W.heap.size -> some k ≠ cv.ownBlock -> k ≠ g:=fun k hk hn e=>by
  rcases hat9 with h | h
  ·exact hn (by rw [e,h])
  ·omega
 have hheap : ∀ k,k < wA.heap.size -> some k ≠ cv.ownBlock -> k ≠ g -> k ≠ T -> w12.heap[k]? = wA.heap[k]?:=fun k hk hn hkg hkT=>
  (ht.far k (Nat.lt_of_lt_of_le hk h9) hkg hkT).trans (hgr9.block k hk hn)
 have hio : IoSame W w12:=IoSame.trans (B:=wA) ⟨hb.os,hb.tape,hb.output⟩ (IoSame.trans (B:=w9) ⟨hgr9.os,hgr9.tape,hgr9.output⟩ ht.io)
 have hkeep : KeepM (boxO T cv) W w12:=⟨by omega,fun k hk hn=>by
  have hkT : k ≠ T:=fun e=>hn (.inl e)
  have hkc : some k ≠ cv.ownBlock:=fun e=>hn (.inr e.symm)
  exact (hheap k (by omega) hkc (hgW k hk hkc) hkT).trans (hb.block k hk),hio⟩
 have hT12:=ht.box
 have hrow:=ht.row
 have hT12l:=hT12.lt
 refine ⟨hkeep,hT12,⟨?_,fun p hp=>?_⟩,fun b h=>?_,fun b h=>?_⟩
 ·simpa [mtCells] using hrow
 ·rcases List.mem_append.1 hp with hp | hp
  ·refine TrAt.keep (O:=fun b=>¬ (base <= b /\ some b ≠ cv.ownBlock)) ((CKp.of_keepM_self hkeep).wide fun b hb' hn=>?_) (fun b hnb=>?_) p.t p.agg (hown.2 p hp)
   ·rcases hb' with rfl | e
    ·omega
    ·exact hn.2 e.symm
   ·by_cases hbb : base <= b
    ·have e : b = g:=by
      refine Classical.not_not.1 fun hne=>hnb ⟨hbb,fun e=>hne ?_⟩
      simpa [Value.ownBlock] using e
     rcases hat9 with h | h
     ·exact .inl fun hn=>hn.2 (by rw [e,h])
     ·exact .inr (by omega)
    ·exact .inl fun hn=>hbb hn.1
  ·obtain rfl:=mS.1 hp
   have h1 : TrAt (fun b=>¬ (W.heap.size <= b /\ b < wA.heap.size)) wA p.t p.agg:=TrAt.keep (CKp.refl _ _) (fun b hb'=>by
    by_cases h2 : W.heap.size <= b
    ·exact .inr (Nat.le_of_not_lt fun h3=>hb' ⟨h2,h3⟩)
    ·exact .inl h2) p.t p.agg hm
   refine TrAt.keep (O:=fun b=>¬ (W.heap.size <= b /\ b < wA.heap.size)) ⟨by omega,fun b o v hb' hc=>?_⟩ (fun b hnb=>?_) p.t p.agg h1
   ·obtain ⟨h2,h3⟩:=Classical.not_not.1 hb'
    have hnc : some b ≠ cv.ownBlock:=fun e=>by have:=hcv b e.symm; omega
    have hng : b ≠ g:=fun e=>by
     rcases hat9 with h | h
     ·have:=hcv g h; omega
     ·omega
    rw [World.cell?_of_block (hheap b h3 hnc hng (by omega))]
    exact hc
   ·by_cases hbb : base <= b
    ·have e : b = g:=by
      refine Classical.not_not.1 fun hne=>hnb ⟨hbb,fun e=>hne ?_⟩
      simpa [Value.ownBlock] using e
     rcases hat9 with h | h
     ·exact .inl fun hn=>by have:=hcv g h; omega
     ·exact .inr (by omega)
    ·exact .inl fun hn=>by omega
 ·rcases h with h | h
  ·exact .inl (.inl h)
  ·simp only [Value.ownBlock,Option.some.injEq] at h
   rcases hat9 with e | e
   ·exact .inl (.inr (by rw [e,h]))
   ·exact .inr (by omega)
 ·rcases h with h | h
  ·omega
  ·simp only [Value.ownBlock,Option.some.injEq] at h
   omega
end
end Go.Proofs.YteclineblddpbaaGreatDoorR
