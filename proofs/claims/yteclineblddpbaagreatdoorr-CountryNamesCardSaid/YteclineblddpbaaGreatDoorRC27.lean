import Derived.Test.YteclineblddpbaaGreatDoorRC01
import Derived.Test.YteclineblddpbaaGreatDoorRC12
import Derived.Test.YteclineblddpbaaGreatDoorRC18
import Derived.Test.YteclineblddpbaaGreatDoorRC26
set_option linter.all false
set_option maxRecDepth 100000
set_option maxHeartbeats 0
namespace Go.Proofs.YteclineblddpbaaGreatDoorR
section
open Go Go.RowKit Go.Maps
theorem parts_all {d : ChartD} {rk : Nat -> Nat} (ok : ChartOK d rk) {D : Nat} {tr : Nat -> Nat -> Nat -> List PTree} (htr : TreesC d rk D tr) : PartsC d rk D tr:=by
 intro its
 induction its with
 | nil=>intro n a b p1 p2 p3 p4 hn _ _ _ _; exact parts_nil hn
 | cons i t iht=>
  intro n a b p1 p2 p3 p4 hn hsuf hrk hab hbt
  simp only [List.length_cons] at hab
  have hsuft : ∃ r,r < d.g.length /\ t <:+ ruleOf d.g r:=by
   obtain ⟨r,h1,h2⟩:=hsuf
   exact ⟨r,h1,(List.suffix_cons i t).trans h2⟩
  have hrkt : ∀ j ∈ t,j.cls = 0 -> rk j.sym < D:=fun j hj=>hrk j (List.mem_cons_of_mem _ hj)
  have htl:=ok.tlen
  by_cases hc : i.cls = 0
  ·exact parts_sym ok htr hn hsuf hrk hc (by omega) hbt fun m q1 q2 q3 q4 _ hm2=>iht _ m b q1 q2 q3 q4 hn.2.2.2 hsuft hrkt hm2 hbt
  ·obtain ⟨r,hr1,hr2⟩:=hsuf
   exact parts_cls hn hc (ok.ecls r hr1 i (hr2.subset (List.mem_cons_self ..))).1 (by omega) ok.elen (by omega) fun q1 q2 q3 q4=>iht _ (a + 1) b q1 q2 q3 q4 hn.2.2.2 hsuft hrkt (by omega) hbt
theorem trees_all {d : ChartD} {rk : Nat -> Nat} (ok : ChartOK d rk) : ∀ D,TreesC d rk D (treesN d.g d.tk d.sy D)
 | 0=>fun s a b p1 p2 p3 p4 _ h=>absurd h (Nat.not_lt_zero _)
 | D + 1=>trees_step ok (parts_all ok (trees_all ok D))
end
section
open Go.RowKit Go.Maps
def PTree.to : PTree -> Int
 | .node _ _ d _=>d
mutual
def depthT : PTree -> Nat
 | .node _ _ _ sub=>depthTs sub + 1
def depthTs : List PTree -> Nat
 | []=>0
 | t :: ts=>max (depthT t) (depthTs ts)
end
theorem depthTs_mem : ∀ {ts : List PTree} {t : PTree},t ∈ ts -> depthT t <= depthTs ts
 | x :: ts,t,h=>by
  rw [depthTs]
  rcases List.mem_cons.1 h with rfl | h
  ·omega
  ·have:=depthTs_mem h
   omega
def isSub (rec : PTree -> Nat -> Nat -> Nat -> Bool) (tk : List Nat) (b : Nat) : List PItem -> Nat -> List PTree -> Bool
 | [],a,sub=>decide (a = b) && sub.isEmpty
 | i :: t,a,sub=>
  if b <= a then false
  else if i.cls ≠ 0 then (if tk.getD a 0 &&& i.cls = 0 then false else isSub rec tk b t (a + 1) sub)
  else match sub with
   | []=>false
   | x :: sub'=>if x.to <= (a : Int) \/ (b : Int) - (t.length : Int) < x.to then false else if rec x i.sym a x.to.toNat then isSub rec tk b t x.to.toNat sub' else false
def headOK (g : List PRule) (r src dst : Int) (s a b : Nat) : Bool:=decide (0 <= r) && decide (r < (g.length : Int)) && decide ((g.getD r.toNat PRule.zero).left = s) && decide (src = a) && decide (dst = b)
def isTreeF (g : List PRule) (tk : List Nat) : Nat -> PTree -> Nat -> Nat -> Nat -> Bool
 | 0,_,_,_,_=>false
 | n + 1,.node r src dst sub,s,a,b=>if headOK g r src dst s a b then isSub (isTreeF g tk n) tk b (ruleOf g r.toNat) a sub else false
def putText (fd : List ByteArray) (k : Nat) (x : ByteArray) : List ByteArray:=
 if k = 0 then fd else fd.set k (if (fd.getD k ⟨#[]⟩).size = 0 then x else fd.getD k ⟨#[]⟩ ++ ⟨#[32]⟩ ++ x)
def putTok (fd : List ByteArray) (cls k : Nat) (x : ByteArray) : List ByteArray:=
 if cls = 2 then putText (fd.set 2 (x.extract (x.size - 1) x.size)) k (x.extract 0 (x.size - 1)) else putText fd k x
def gatherI (rec : PTree -> List ByteArray -> List ByteArray) (s : List PTok) : List PItem -> List Nat -> Nat -> List PTree -> List ByteArray -> List ByteArray
 | [],_,_,_,fd=>fd
 | i :: t,ks,a,sub,fd=>if i.cls = 0 then (match sub with
   | []=>fd
   | x :: sub'=>gatherI rec s t ks.tail x.to.toNat sub' (rec x fd))
  else gatherI rec s t ks.tail (a + 1) sub (putTok fd i.cls (ks.headD 0) (s.getD a PTok.zero).text)
def gatherF (g : List PRule) (ps : List (List Nat)) (s : List PTok) : Nat -> PTree -> List ByteArray -> List ByteArray
 | 0,_,fd=>fd
 | n + 1,.node r src _ sub,fd=>gatherI (gatherF g ps s n) s (ruleOf g r.toNat) (ps.getD r.toNat []) src.toNat sub fd
def tokRightB (t : PTok) : Bool:=decide (t.cls = if t.text.size = 0 /\ t.cls.toNat &&& 16384 ≠ 0 then 16384 else (classesOf t.text : Int))
end
section
open Go Go.RowKit Go.Maps
mutual
def wideT : PTree -> Nat
 | .node _ _ _ sub=>max sub.length (wideTs sub)
def wideTs : List PTree -> Nat
 | []=>0
 | t :: ts=>max (wideT t) (wideTs ts)
end
theorem wideTs_mem : ∀ {ts : List PTree} {t : PTree},t ∈ ts -> wideT t <= wideTs ts
 | x :: ts,t,h=>by
  rw [wideTs]
  rcases List.mem_cons.1 h with rfl | h
  ·omega
  ·have:=wideTs_mem h
   omega
theorem wideTs_le {n : Nat} : ∀ {ts : List PTree},(∀ t ∈ ts,wideT t <= n) -> wideTs ts <= n
 | [],_=>Nat.zero_le _
 | x :: ts,h=>by
  rw [wideTs]
  have h1:=h x (List.mem_cons_self ..)
  have h2:=wideTs_le (ts:=ts) fun t ht=>h t (List.mem_cons_of_mem _ ht)
  omega
theorem depthTs_le {n : Nat} : ∀ {ts : List PTree},(∀ t ∈ ts,depthT t <= n) -> depthTs ts <= n
 | [],_=>Nat.zero_le _
 | x :: ts,h=>by
  rw [depthTs]
  have h1:=h x (List.mem_cons_self ..)
  have h2:=depthTs_le (ts:=ts) fun t ht=>h t (List.mem_cons_of_mem _ ht)
  omega
theorem partsF_mem {sy : Nat -> Nat -> Nat -> Nat} {tk : List Nat} {tr : Nat -> Nat -> Nat -> List PTree} {p : PTree -> Prop} (hp : ∀ s a b t,t ∈ tr s a b -> p t) : ∀ (its : List PItem) (a b : Nat) (ts : List PTree),ts ∈ partsF sy tk tr its a b -> ∀ t ∈ ts,p t
 | [],_,_,ts,h=>by
  rw [partsF,mS] at h
  rw [h]
  intro t ht
  cases ht
 | i :: t,a,b,ts,h=>by
  rw [partsF] at h
  split at h
  ·exact partsF_mem hp t _ _ ts h
  ·obtain ⟨k,_,h⟩:=List.mem_flatMap.1 h
   split at h
   ·cases h
   ·obtain ⟨x,hx,h⟩:=List.mem_flatMap.1 h
    obtain ⟨us,h1,rfl⟩:=List.mem_map.1 h
    intro y hy
    rcases List.mem_cons.1 hy with rfl | hy
    ·exact hp _ _ _ _ hx
    ·exact partsF_mem hp t _ _ us h1 y hy
theorem treesN_small {g : List PRule} {tk : List Nat} {sy : Nat -> Nat -> Nat -> Nat} {m : Nat} (hg : ∀ r,(ruleOf g r).length <= m) : ∀ (D s a b : Nat) (t : PTree),t ∈ treesN g tk sy D s a b -> depthT t <= D /\ wideT t <= m
 | 0,_,_,_,_,h=>by cases h
 | D + 1,s,a,b,t,h=>by
  rw [treesN,treesStep] at h
  obtain ⟨r,hr,h⟩:=List.mem_flatMap.1 h
  split at h
  ·cases h
  ·obtain ⟨ts,h1,rfl⟩:=List.mem_map.1 h
   have h2:=partsF_mem (p:=fun t=>depthT t <= D /\ wideT t <= m) (fun s a b t ht=>treesN_small hg D s a b t ht) _ _ _ ts h1
   have h3:=partsF_len _ _ _ ts h1
   have h4:=hg r
   have h5:=depthTs_le fun t ht=>(h2 t ht).1
   have h6:=wideTs_le fun t ht=>(h2 t ht).2
   rw [depthT,wideT]
   omega
structure MTree where
 t : PTree
 v0 : Value
 v1 : Value
 v2 : Value
 v3 : Value
def mtCells (m : MTree) : List Value:=[m.v0,m.v1,m.v2,m.v3]
def MTree.agg (m : MTree) : Value:=.agg #[m.v0,m.v1,m.v2,m.v3]
def mtIn (P : Nat -> Prop) (w : World) (m : MTree) : Prop:=TrAt (fun b=>¬ P b) w m.t m.agg
theorem CKp.of_keeps {P : Nat -> Prop} {w w' : World} (h : Keeps P w w') : CKp (fun b=>¬ P b) w w':=
 ⟨h.size,fun b o v hb hc=>(h.cell (cell_lt hc) (Classical.not_not.1 hb)).trans hc⟩
theorem mtIn_inner : Inner mtIn:=⟨fun {P Q w w' m} h hk hPQ=>TrAt.keep (CKp.of_keeps hk) (fun b hb=>by
 by_cases hp : P b
 ·by_cases hl : b < w.heap.size
  ·exact absurd (hPQ b hl hp) hb
  ·exact .inr (by omega)
 ·exact .inl hp) m.t m.agg h⟩
abbrev OwnTrees:=OwnL 34 4 mtCells mtIn
theorem OwnTrees.row {base : Nat} {w : World} {v : Value} {ms : List MTree} (h : OwnTrees base w v ms) {O : Nat -> Prop} (hO : ∀ b,O b -> b < base) : TrsL O w (ms.map (·.t)) (ms.flatMap mtCells):=by
 have key : ∀ l : List MTree,(∀ m ∈ l,mtIn (fun b=>base <= b /\ some b ≠ v.ownBlock) w m) -> TrsL O w (l.map (·.t)) (l.flatMap mtCells):=by
  intro l
  induction l with
  | nil=>intro _; rfl
  | cons m l ih=>
   intro hl
   refine ⟨m.v0,m.v1,m.v2,m.v3,l.flatMap mtCells,rfl,?_,ih fun x hx=>hl x (List.mem_cons_of_mem _ hx)⟩
   exact TrAt.keep (CKp.refl _ _) (fun b hb=>.inl (fun hn=>by have:=hO b hb; omega)) m.t _ (hl m (List.mem_cons_self ..))
 exact key ms h.2
theorem OwnTrees.sub {base : Nat} {w : World} {v : Value} {ms : List MTree} (h : OwnTrees base w v ms) {O : Nat -> Prop} (hO : ∀ b,O b -> b < base) : SubV O w (ms.map (·.t)) v:=by
 have hr:=h.row hO
 have hlen : (ms.map (·.t)).length = ms.length:=List.length_map ..
 rcases h.1.2 with ⟨rfl,h0⟩ | ⟨g,cap,cur,rfl,hb,hg,h1,h2,h3,h4⟩
 ·exact ⟨none,0,by rw [hlen,h0],by rw [hlen,h0]; exact lQ _,⟨Nat.zero_le _,fun _=>rfl⟩,fun hp=>by rw [hlen,h0] at hp; omega⟩
 ·have hcs:=h.1.cells (g:=g) rfl
  refine ⟨some ⟨g,0,none⟩,cap,by rw [hlen],by rw [hlen]; exact h1,⟨h2,fun e=>(by cases e)⟩,fun _=>⟨g,0,rfl,(h.1.lt g rfl).2,fun ho=>by have:=hO g ho; omega,?_⟩⟩
  refine TrsL.at_ _ _ g 0 hr fun j u hu=>?_
  have h5:=hcs j u hu
  have h6 : (⟨g,0,none⟩ : Addr).add j = ⟨g,0 + j,none⟩:=by unfold Addr.add; split <;> simp_all
  rwa [h6] at h5
theorem TrsL.nth {O : Nat -> Prop} {w : World} : ∀ (ts : List PTree) (cs : List Value) (k : Nat),TrsL O w ts cs -> k < ts.length -> ∃ v0 v1 v2 v3,cs[k * 4]? = some v0 /\ cs[k * 4 + 1]? = some v1 /\ cs[k * 4 + 2]? = some v2 /\ cs[k * 4 + 3]? = some v3 /\ TrAt O w (ts.getD k PTree.zero) (.agg #[v0,v1,v2,v3])
 | t :: ts,_,0,h,_=>by
  obtain ⟨v0,v1,v2,v3,r,rfl,h1,h2⟩:=h
  exact ⟨v0,v1,v2,v3,rfl,rfl,rfl,rfl,h1⟩
 | t :: ts,_,k + 1,h,hk=>by
  obtain ⟨v0,v1,v2,v3,r,rfl,h1,h2⟩:=h
  obtain ⟨u0,u1,u2,u3,k0,k1,k2,k3,k4⟩:=TrsL.nth ts r k h2 (by simpa using hk)
  exact ⟨u0,u1,u2,u3,by rw [show (k + 1) * 4 = k * 4 + 4 by omega]; simpa using k0,by rw [show (k + 1) * 4 + 1 = (k * 4 + 1) + 4 by omega]; simpa using k1,by rw [show (k + 1) * 4 + 2 = (k * 4 + 2) + 4 by omega]; simpa using k2,by rw [show (k + 1) * 4 + 3 = (k * 4 + 3) + 4 by omega]; simpa using k3,by simpa using k4⟩
theorem SubV.nth {O : Nat -> Prop} {w : World} {ts : List PTree} {v : Value} (h : SubV O w ts v) : ∃ A c,v = .slice A ts.length c /\ ts.length <= c /\ c <= maxLen /\ ∀ k,k < ts.length -> ∃ bl off v0 v1 v2 v3,A = some ⟨bl,off,none⟩ /\ ¬ O bl /\ w.cell? ⟨bl,off + k * 4,none⟩ = some v0 /\ w.cell? ⟨bl,off + k * 4 + 1,none⟩ = some v1 /\ w.cell? ⟨bl,off + k * 4 + 2,none⟩ = some v2 /\ w.cell? ⟨bl,off + k * 4 + 3,none⟩ = some v3 /\ TrAt O w (ts.getD k PTree.zero) (.agg #[v0,v1,v2,v3]):=by
 obtain ⟨A,c,rfl,h1,h2,h3⟩:=h
 refine ⟨A,c,rfl,h1,h2.1,fun k hk=>?_⟩
 obtain ⟨bl,off,e,h4,h5,h6⟩:=h3 (by omega)
 obtain ⟨cs,k1,k2⟩:=TrsAt.cells ts bl off h6
 obtain ⟨v0,v1,v2,v3,e0,e1,e2,e3,e4⟩:=k1.nth ts cs k hk
 exact ⟨bl,off,v0,v1,v2,v3,e,h5,k2 _ _ e0,by have:=k2 _ _ e1; rwa [<- Nat.add_assoc] at this,by have:=k2 _ _ e2; rwa [<- Nat.add_assoc] at this,by have:=k2 _ _ e3; rwa [<- Nat.add_assoc] at this,e4⟩
end
end Go.Proofs.YteclineblddpbaaGreatDoorR
