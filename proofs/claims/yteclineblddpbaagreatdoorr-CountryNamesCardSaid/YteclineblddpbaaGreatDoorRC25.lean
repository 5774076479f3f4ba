import Derived.Test.YteclineblddpbaaGreatDoorRC01
import Derived.Test.YteclineblddpbaaGreatDoorRC24
set_option linter.all false
set_option maxRecDepth 100000
set_option maxHeartbeats 0
namespace Go.Proofs.YteclineblddpbaaGreatDoorR
section
open Go Go.RowKit Go.Maps
def TrsL (O : Nat -> Prop) (w : World) : List PTree -> List Value -> Prop
 | [],cs=>cs = []
 | t :: ts,cs=>∃ v0 v1 v2 v3 r,cs = v0 :: v1 :: v2 :: v3 :: r /\ TrAt O w t (.agg #[v0,v1,v2,v3]) /\ TrsL O w ts r
section
variable {O O' : Nat -> Prop} {w w' : World}
theorem TrsAt.cells : ∀ (ts : List PTree) (bl off : Nat),TrsAt O w ts bl off -> ∃ cs,TrsL O w ts cs /\ ∀ j u,cs[j]? = some u -> w.cell? ⟨bl,off + j,none⟩ = some u
 | [],_,_,_=>⟨[],rfl,fun j u h=>by simp at h⟩
 | t :: ts,bl,off,h=>by
  obtain ⟨⟨v0,v1,v2,v3,h0,h1,h2,h3,h4⟩,h5⟩:=h
  obtain ⟨cs,k1,k2⟩:=TrsAt.cells ts bl (off + 4) h5
  refine ⟨v0 :: v1 :: v2 :: v3 :: cs,⟨v0,v1,v2,v3,cs,rfl,h4,k1⟩,fun j u hu=>?_⟩
  match j,hu with
  | 0,hu=>simp at hu; subst hu; exact h0
  | 1,hu=>simp at hu; subst hu; exact h1
  | 2,hu=>simp at hu; subst hu; exact h2
  | 3,hu=>simp at hu; subst hu; exact h3
  | j + 4,hu=>
   have:=k2 j u (by simpa using hu)
   rwa [show off + 4 + j = off + (j + 4) by omega] at this
theorem TrsL.at_ : ∀ (ts : List PTree) (cs : List Value) (bl off : Nat),TrsL O w ts cs -> (∀ j u,cs[j]? = some u -> w.cell? ⟨bl,off + j,none⟩ = some u) -> TrsAt O w ts bl off
 | [],_,_,_,_,_=>trivial
 | t :: ts,_,bl,off,h,hc=>by
  obtain ⟨v0,v1,v2,v3,r,rfl,h1,h2⟩:=h
  refine ⟨⟨v0,v1,v2,v3,hc 0 v0 rfl,hc 1 v1 rfl,hc 2 v2 rfl,hc 3 v3 rfl,h1⟩,TrsL.at_ ts r bl (off + 4) h2 fun j u hu=>?_⟩
  have:=hc (j + 4) u (by simpa using hu)
  rwa [show off + (j + 4) = off + 4 + j by omega] at this
theorem TrsL.len : ∀ (ts : List PTree) (cs : List Value),TrsL O w ts cs -> cs.length = ts.length * 4
 | [],_,h=>by rw [show _ = [] from h]; rfl
 | t :: ts,_,h=>by
  obtain ⟨v0,v1,v2,v3,r,rfl,h1,h2⟩:=h
  have:=TrsL.len ts r h2
  simp only [List.length_cons]
  omega
theorem TrAt.one {t : PTree} {v0 v1 v2 v3 : Value} (h : TrAt O w t (.agg #[v0,v1,v2,v3])) : ∀ u ∈ [v0,v1,v2,v3],u.oneCell' = true:=by
 obtain ⟨r,a,b,sub,sv,_,e,A,c,rfl,_⟩:=h.sub
 simp only [Value.agg.injEq,Array.mk.injEq,List.cons.injEq,and_true] at e
 obtain ⟨rfl,rfl,rfl,rfl⟩:=e
 intro u hu
 simp only [List.mem_cons,List.not_mem_nil,or_false] at hu
 rcases hu with rfl | rfl | rfl | rfl <;> rfl
theorem TrsL.one : ∀ (ts : List PTree) (cs : List Value),TrsL O w ts cs -> ∀ u ∈ cs,u.oneCell' = true
 | [],_,h,u,hu=>by rw [show _ = [] from h] at hu; cases hu
 | t :: ts,_,h,u,hu=>by
  obtain ⟨v0,v1,v2,v3,r,rfl,h1,h2⟩:=h
  have h3 : u ∈ [v0,v1,v2,v3] ++ r:=by simpa using hu
  rcases List.mem_append.1 h3 with h3 | h3
  ·exact h1.one u h3
  ·exact TrsL.one ts r h2 u h3
theorem TrsL.keep (hk : CKp O w w') (hO : ∀ b,O' b -> O b \/ w.heap.size <= b) : ∀ (ts : List PTree) (cs : List Value),TrsL O w ts cs -> TrsL O' w' ts cs
 | [],_,h=>h
 | t :: ts,_,h=>by
  obtain ⟨v0,v1,v2,v3,r,rfl,h1,h2⟩:=h
  exact ⟨v0,v1,v2,v3,r,rfl,TrAt.keep hk hO t _ h1,TrsL.keep hk hO ts r h2⟩
theorem SubV.cells {ts : List PTree} {v : Value} (h : SubV O w ts v) : ∃ A c cs,v = .slice A ts.length c /\ (A = none -> c = 0 /\ ts = []) /\ TrsL O w ts cs /\ (0 < ts.length -> ∃ bl off,A = some ⟨bl,off,none⟩ /\ bl < w.heap.size /\ ∀ j u,cs[j]? = some u -> w.cell? ⟨bl,off + j,none⟩ = some u):=by
 obtain ⟨A,c,rfl,h1,h2,h3⟩:=h
 cases ts with
 | nil=>exact ⟨A,c,[],rfl,fun e=>⟨h2.2 e,rfl⟩,rfl,fun h=>absurd h (by simp)⟩
 | cons t ts=>
  obtain ⟨bl,off,rfl,h4,h5,h6⟩:=h3 (by simp)
  obtain ⟨cs,k1,k2⟩:=TrsAt.cells _ bl off h6
  exact ⟨_,c,cs,rfl,fun e=>(by cases e),k1,fun _=>⟨bl,off,rfl,h4,k2⟩⟩
theorem SubV.cons {x : PTree} {ys : List PTree} {v0 v1 v2 v3 : Value} {cs : List Value} {base g n cap : Nat} (hx : TrAt O w x (.agg #[v0,v1,v2,v3])) (hy : TrsL O w ys cs)
  (hown : w.ownsRow base 34 4 (.slice (some ⟨g,0,none⟩) n cap) n ([v0,v1,v2,v3] ++ cs)) (hn : n = 1 + ys.length) (hg : ¬ O g) : SubV O w (x :: ys) (.slice (some ⟨g,0,none⟩) n cap):=by
 subst hn
 have hcs:=hown.cells (g:=g) rfl
 have hlt:=(hown.lt g rfl).2
 have hle : 1 + ys.length <= cap /\ cap <= maxLen:=by
  rcases hown.2 with ⟨e,_⟩ | ⟨g',cap',cur,e,_,_,h1,h2,_⟩
  ·cases e
  ·cases e; exact ⟨h1,h2⟩
 refine ⟨some ⟨g,0,none⟩,cap,by rw [List.length_cons,Nat.add_comm],by rw [List.length_cons]; omega,⟨hle.2,fun e=>(by cases e)⟩,fun _=>⟨g,0,rfl,hlt,hg,?_⟩⟩
 refine TrsL.at_ (x :: ys) ([v0,v1,v2,v3] ++ cs) g 0 ⟨v0,v1,v2,v3,cs,rfl,hx,hy⟩ fun j u hu=>?_
 have h1:=hcs j u hu
 have h2 : (⟨g,0,none⟩ : Addr).add j = ⟨g,0 + j,none⟩:=by unfold Addr.add; split <;> simp_all
 rwa [h2] at h1
end
section
variable {d : ChartD} {O : Nat -> Prop} {w : World}
mutual
theorem TrAt.offM (hM : NoCells (MM d) w) : ∀ (t : PTree) (v : Value),TrAt O w t v -> TrAt (OM d O) w t v
 | .node r a b sub,v,h=>by
  obtain ⟨A,c,h1,h2,h3,h4⟩:=h
  refine ⟨A,c,h1,h2,h3,fun h0=>?_⟩
  obtain ⟨bl,off,e,h5,h6,h7⟩:=h4 h0
  refine ⟨bl,off,e,h5,fun hb=>hb.elim h6 fun hb=>?_,TrsAt.offM hM sub bl off h7⟩
  cases sub with
  | nil=>exact absurd h0 (by simp)
  | cons t ts=>
   obtain ⟨⟨v0,_,_,_,h8,_⟩,_⟩:=h7
   exact hM bl hb _ _ h8
theorem TrsAt.offM (hM : NoCells (MM d) w) : ∀ (ts : List PTree) (bl off : Nat),TrsAt O w ts bl off -> TrsAt (OM d O) w ts bl off
 | [],_,_,_=>trivial
 | t :: ts,bl,off,h=>by
  obtain ⟨⟨v0,v1,v2,v3,h0,h1,h2,h3,h4⟩,h5⟩:=h
  exact ⟨⟨v0,v1,v2,v3,h0,h1,h2,h3,TrAt.offM hM t _ h4⟩,TrsAt.offM hM ts bl _ h5⟩
end
theorem TrAt.on {t : PTree} {v : Value} (h : TrAt (OM d O) w t v) : TrAt O w t v:=TrAt.keep (CKp.refl _ _) (fun _ h=>.inl (.inl h)) t v h
end
end
end Go.Proofs.YteclineblddpbaaGreatDoorR
