import Derived.Test.YteclineblddpbaaGreatDoorRC01
import Derived.Maps.Own
import Derived.Maps.OwnSet
import Derived.Maps.Views
import Derived.DeepKeys4
import Derived.KernelRfl
set_option linter.all false
set_option maxRecDepth 100000
set_option maxHeartbeats 0
namespace Go.Proofs.YteclineblddpbaaGreatDoorR
section
open Go.RowKit Go.Maps
def getA {α β : Type} [DecidableEq α] (a : α) : List (α × β) -> Option β
 | []=>none
 | p :: t=>if p.1 = a then some p.2 else getA a t
def asHeld (v : Value) : Option (DataW Value × List MemPlace):=some (.held v,[])
def orV {β : Type} (val : β -> Value) (z : Value) : Option β -> Value
 | some b=>val b
 | none=>z
def MapV {α β : Type} [DecidableEq α] (P : Program) (k : TypeId) (enc : α -> Value) (val : β -> Value) (w : World) (b n : Nat) (M : List (α × β)) : Prop:=
 ∃ D : DataW Value,w.ownsMap P k asHeld b n D /\ IsMap D /\ ∀ (a : α) (kl : Lit),keyOf P k (enc a) = some kl ->
  (∀ z,D.atKey kl (.held z) = .held (orV val z (getA a M))) /\ Maps.has D kl = (getA a M).isSome
section
variable {α β : Type} [DecidableEq α] {P : Program} {k e t : TypeId} {enc : α -> Value} {val : β -> Value} {w w' : World} {b n : Nat} {M : List (α × β)}
theorem MapV.made (P : Program) (k : TypeId) (enc : α -> Value) (val : β -> Value) (w : World) : MapV P k enc val (w.alloc (.map #[] 0)) w.heap.size 0 []:=
 ⟨.map [],World.ownsMap_made w P k _,⟨_,rfl⟩,fun _ _ _=>⟨fun _=>rfl,rfl⟩⟩
theorem MapV.made_at (P : Program) (k : TypeId) (enc : α -> Value) (val : β -> Value) (w : World) (b : Nat) (h : b = w.heap.size) : MapV P k enc val (w.alloc (.map #[] 0)) b 0 []:=by
 subst h; exact MapV.made P k enc val w
theorem MapV.lt (h : MapV P k enc val w b n M) : b < w.heap.size:=by
 obtain ⟨D,h1,_⟩:=h
 exact h1.lt
theorem MapV.same (h : MapV P k enc val w b n M) (hb : w'.heap[b]? = w.heap[b]?) : MapV P k enc val w' b n M:=by
 obtain ⟨D,⟨es,clock,h1,h2⟩,h3⟩:=h
 exact ⟨D,⟨es,clock,hb.trans h1,h2⟩,h3⟩
theorem MapV.kept {row : Option Nat} (h : MapV P k enc val w b n M) (hg : w.grownBy w' row) (hne : some b ≠ row) : MapV P k enc val w' b n M:=
 h.same (hg.block b h.lt hne)
theorem MapV.below {B : Nat} (h : MapV P k enc val w b n M) (hb : Below B w w') (hB : b < B) : MapV P k enc val w' b n M:=h.same (hb.block b hB)
theorem MapV.alloc (h : MapV P k enc val w b n M) (o : Obj) : MapV P k enc val (w.alloc o) b n M:=h.same (Below.heap_alloc w o b h.lt)
theorem MapV.set_ (h : MapV P k enc val w b n M) {p : Addr} (hp : b ≠ p.block) (u : Value) : MapV P k enc val (w.setCell p u) b n M:=h.same (Below.heap_setCell w p u b hp)
theorem MapV.mono {n' : Nat} (h : MapV P k enc val w b n M) (hn : n <= n') : MapV P k enc val w b n' M:=by
 obtain ⟨D,h1,h2⟩:=h
 exact ⟨D,h1.mono hn,h2⟩
theorem MapV.look (h : MapV P k enc val w b n M) (K : Keyed P k) (ht : P.underlying t = some (.map k e)) {z : Value} (hz : (zeroValue e).run P w = .ok z w)
  (a : α) {kl : Lit} (hk : keyOf P k (enc a) = some kl) : (Instr.lookup t (.map (some b)) (enc a) false).run P w = .ok (orV val z (getA a M)) w:=by
 obtain ⟨D,h1,h2,h3⟩:=h
 obtain ⟨v,ps,hrun,hv⟩:=h1.lookup K ht hz (zd:=.held z) (zp:=[]) rfl hk
 rw [(h3 a kl hk).1] at hv
 simp only [asHeld,Option.some.injEq,Prod.mk.injEq,DataW.held.injEq] at hv
 rw [hrun,hv.1]
theorem MapV.look_ok (h : MapV P k enc val w b n M) (K : Keyed P k) (ht : P.underlying t = some (.map k e)) {z : Value} (hz : (zeroValue e).run P w = .ok z w)
  (a : α) {kl : Lit} (hk : keyOf P k (enc a) = some kl) : (Instr.lookup t (.map (some b)) (enc a) true).run P w = .ok (.tuple #[orV val z (getA a M),.bool (getA a M).isSome]) w:=by
 obtain ⟨D,h1,h2,h3⟩:=h
 obtain ⟨v,ps,hrun,hv⟩:=h1.look_ok K ht hz (zd:=.held z) (zp:=[]) rfl hk
 rw [(h3 a kl hk).1] at hv
 simp only [asHeld,Option.some.injEq,Prod.mk.injEq,DataW.held.injEq] at hv
 rw [hrun,hv.1,(h3 a kl hk).2]
theorem MapV.put (h : MapV P k enc val w b n M) (K : Keyed P k) (ht : P.underlying t = some (.map k e)) (hn : n < maxLen) (hinj : ∀ x y,enc x = enc y -> x = y)
  (a : α) (d : β) {kl : Lit} (hk : keyOf P k (enc a) = some kl) :
  ∃ w',(Instr.mapUpdate t (.map (some b)) (enc a) (val d)).run P w = .ok () w' /\ MapV P k enc val w' b (n + 1) ((a,d) :: M) /\ w.grownBy w' (some b):=by
 obtain ⟨D,h1,h2,h3⟩:=h
 obtain ⟨w',hrun,h4,h5⟩:=h1.update K ht hn hk (d:=.held (val d)) (ps:=[]) rfl
 refine ⟨w',hrun,⟨_,h4,?_,fun a' kl' hk'=>?_⟩,h5⟩
 ·obtain ⟨es,rfl⟩:=h2
  exact ⟨_,rfl⟩
 ·by_cases hne : a = a'
  ·subst hne
   rw [hk] at hk'
   cases hk'
   refine ⟨fun z=>?_,?_⟩
   ·rw [atKey_put_same h2 (K.key hk)]; simp [getA,orV]
   ·rw [has_put_same h2 (K.key hk)]; simp [getA]
  ·have hkl : kl' ≠ kl:=fun e'=>by
    subst e'
    exact hne (hinj _ _ (K.inj hk hk'))
   refine ⟨fun z=>?_,?_⟩
   ·rw [atKey_put_other hkl,getA,if_neg hne]; exact (h3 a' kl' hk').1 z
   ·rw [has_put_other hkl,getA,if_neg hne]; exact (h3 a' kl' hk').2
end
end
end Go.Proofs.YteclineblddpbaaGreatDoorR
