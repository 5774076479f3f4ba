import Derived.Test.YteclineblddpbaaGreatDoorRC01
import Derived.Test.YteclineblddpbaaGreatDoorRC07
import Derived.Test.YteclineblddpbaaGreatDoorRC09
import Derived.Test.YteclineblddpbaaGreatDoorRC12
import Derived.Test.YteclineblddpbaaGreatDoorRC13
import Derived.WideKeyEntry
import Derived.Test.YteclineblddpbaaGreatDoorRProg
import Derived.KernelRfl
import Derived.StillTail
import Derived.Deep.Quiet
set_option linter.all false
set_option maxRecDepth 100000
set_option maxHeartbeats 0
namespace Go.Proofs.YteclineblddpbaaGreatDoorR
section
open Go.RowKit Go.Maps Go.WideElems Go.ChangeShapes Go.WideShapes Go.MapKept Go.ChangeMaps
open Go.WideMaps (KeyLaw)
section
variable {α β : Type} [DecidableEq α] {P : Program} {k e t : TypeId} {enc : α -> Value} {val : β -> Value} {w w' : World} {b n : Nat} {M : List (α × β)}
theorem grown_setBlock (w : World) (b : Nat) (o : Obj) : w.grownBy (setBlock w b o) (some b):=
 ⟨rfl,rfl,rfl,by simp [setBlock],fun i _ hi=>by
  have : i ≠ b:=fun e=>hi (by rw [e])
  simp [setBlock,Ne.symm this]⟩
theorem MapV.entry (h : MapV P k enc val w b n M) (L : KeyLaw P k) (ht : P.underlying t = some (.map k e)) {z : Value} (hz : ∀ u : World,(zeroValue e).run P u = .ok z u) (hn : n < maxLen)
  (hinj : ∀ x y,enc x = enc y -> x = y) (a : α) {kl : Lit} (hk : keyOf P k (enc a) = some kl) :
  ∃ (st : Nat) (W1 : World),(Instr.mapEntry t (.map (some b)) (enc a)).run P w = .ok (.tuple #[orV val z (getA a M),goInt st]) W1 /\ w.grownBy W1 (some b) /\
   ∀ (W2 : World) (d : β),W2.heap[b]? = W1.heap[b]? -> ∃ W3,(Instr.entryStore t (.map (some b)) (goInt st) (val d)).run P W2 = .ok () W3 /\ MapV P k enc val W3 b (n + 1) ((a,d) :: M) /\ W2.grownBy W3 (some b):=by
 have K:=Keyed.of_law L
 have hlook:=h.look K ht (hz w) a hk
 have hput:=fun d=>h.put K ht hn hinj a d hk
 obtain ⟨D,⟨es,clock,hb,hF⟩,-⟩:=h
 obtain ⟨v0,st,es1,clock1,he,-,hst⟩:=entry_then_store L ht hz hb hF.1 hk
 have hv : v0 = orV val z (getA a M):=by
  rcases L.find w hk es.toList hF.1.keys with ⟨h1,h2⟩ | ⟨j,e0,h1,h2,h3⟩
  ·have hl : (Instr.lookup t (.map (some b)) (enc a) false).run P w = .ok z w:=by simp [Instr.lookup,run_underlying ht,MapKept.run_getObj_map hb,K.check w _ hk,h1,hz,Result.andThen]
   have hm : (Instr.mapEntry t (.map (some b)) (enc a)).run P w = .ok (.tuple #[z,goInt clock]) (setBlock w b (.map (es.push ⟨enc a,z,clock⟩) (clock + 1))):=by
    simp [Instr.mapEntry,run_underlying ht,MapKept.run_getObj_map hb,L.check w false hk,h1,hz,MapKept.run_setObj_map _ hb,Result.andThen,setBlock]
   rw [hlook] at hl
   rw [he] at hm
   injection hl with hl
   injection hm with hm _
   rw [hl]
   simp at hm
   exact hm.1
  ·have hj : es[j]? = some e0:=by simpa using h2
   have hl : (Instr.lookup t (.map (some b)) (enc a) false).run P w = .ok e0.val w:=by simp [Instr.lookup,run_underlying ht,MapKept.run_getObj_map hb,K.check w _ hk,h1,Result.andThen]
   have hsame : es.modify j (fun e=>{ e with key:=enc a }) = es:=by
    apply Array.ext'
    rw [Array.toList_modify,modify_eq_set _ _ _ _ h2]
    have : ({ e0 with key:=enc a } : MapEntry) = e0:=by rw [<- h3]
    rw [this]
    exact set_self _ _ _ h2
   have hm : (Instr.mapEntry t (.map (some b)) (enc a)).run P w = .ok (.tuple #[e0.val,goInt e0.born]) (setBlock w b (.map es clock)):=by
    simp [Instr.mapEntry,run_underlying ht,MapKept.run_getObj_map hb,L.check w false hk,h1,hj,h3,L.stays w hk,hsame,MapKept.run_setObj_map _ hb,Result.andThen,setBlock]
   rw [hlook] at hl
   rw [he] at hm
   injection hl with hl
   injection hm with hm _
   rw [hl]
   simp at hm
   exact hm.1
 subst hv
 refine ⟨st,_,he,grown_setBlock _ _ _,fun W2 d hW2=>?_⟩
 obtain ⟨es',clock',h1,h2⟩:=hst W2 (val d) (hW2.trans (heap_setBlock_same hb _))
 obtain ⟨w5,h3,h4,h5⟩:=hput d
 rw [h2] at h3
 cases h3
 refine ⟨_,h1,h4.same ?_,grown_setBlock _ _ _⟩
 rw [heap_setBlock_same (hW2.trans (heap_setBlock_same hb _)),heap_setBlock_same hb]
end
end
section
open Go.RowKit Go.Maps
open Go.WideMaps (KeyLaw)
theorem laidOutT : laidOutB Tryz.prog = true:=by kernel_rfl
theorem law268 : KeyLaw Tryz.prog 268:=deep_law_laid laidOutT (m:=3) (by omega) (of_decide_eq_true (by kernel_rfl)) (by kernel_rfl) (by kernel_rfl)
theorem law243 : KeyLaw Tryz.prog 243:=deep_law_laid laidOutT (m:=3) (by omega) (of_decide_eq_true (by kernel_rfl)) (by kernel_rfl) (by kernel_rfl)
theorem keyed3 : Keyed Tryz.prog 3:=int_keyed Tryz.underlying3
theorem keyed268 : Keyed Tryz.prog 268:=Keyed.of_law law268
theorem keyed243 : Keyed Tryz.prog 243:=Keyed.of_law law243
def Fit64 (n : Int) : Prop:=-9223372036854775808 <= n /\ n <= 9223372036854775807
theorem wf64 {n : Int} (h : Fit64 n) : (Lit.int .i64 n).wf = true:=by
 unfold Fit64 at h
 simp [Lit.wf,IntKind.min,IntKind.max,IntKind.signed,IntKind.bits]
 omega
theorem c3 : Tryz.prog.cellsOf 3 = 1:=by kernel_rfl
theorem typesN : Tryz.prog.types.size = 297:=by kernel_rfl
theorem kl_int (a : Int) (h : Fit64 a) : Tryz.prog.keyLits 297 3 [Value.int .i64 a] = some [.int .i64 a]:=by
 unfold Program.keyLits
 simp only [Tryz.underlying3]
 rw [if_pos ⟨trivial,wf64 h⟩]
structure PSpan where
 of : Int
 src : Int
 dst : Int
deriving DecidableEq
def encSpan (x : PSpan) : Value:=.agg #[.int .i64 x.of,.int .i64 x.src,.int .i64 x.dst]
theorem encSpan_inj (x y : PSpan) (h : encSpan x = encSpan y) : x = y:=by
 obtain ⟨a1,a2,a3⟩:=x
 obtain ⟨b1,b2,b3⟩:=y
 simp [encSpan] at h
 obtain ⟨rfl,rfl,rfl⟩:=h
 rfl
theorem keyOf_span (x : PSpan) (h1 : Fit64 x.of) (h2 : Fit64 x.src) (h3 : Fit64 x.dst) : ∃ kl,keyOf Tryz.prog 268 (encSpan x) = some kl:=by
 obtain ⟨a1,a2,a3⟩:=x
 have hkt : Tryz.prog.keyType 268 = true:=by kernel_rfl
 have c268 : Tryz.prog.cellsOf 268 = 3:=by kernel_rfl
 unfold keyOf encSpan
 simp only [Tryz.underlying268,typesN]
 rw [if_pos (by simp [hkt,Value.formed,Tryz.underlying268,c268])]
 unfold Program.keyLits
 simp only [Tryz.underlying268,Value.cells]
 rw [if_pos ⟨by simp [c268],by kernel_rfl⟩]
 simp only [List.mapM_cons,List.mapM_nil,c3,dZ,tS,tZ,dS,kl_int _ h1,kl_int _ h2,kl_int _ h3]
 exact ⟨_,rfl⟩
theorem zero3 (w : World) : (zeroValue 3).run Tryz.prog w = .ok (.int .i64 0) w:=by kernel_rfl
end
section
open Go.RowKit Go.Maps Go.ChangeMaps
theorem filter_lt {α : Type} {p : α -> Bool} : ∀ (l : List α),l.any (fun x=>!p x) = true -> (l.filter p).length + 1 <= l.length
 | [],h=>by simp at h
 | a :: l,h=>by
  simp only [List.any_cons,Bool.or_eq_true] at h
  cases hp : p a
  ·rw [List.filter_cons_of_neg (by simp [hp])]
   have:=List.length_filter_le p l
   simp only [List.length_cons]
   omega
  ·rw [List.filter_cons_of_pos hp]
   have:=filter_lt l (h.resolve_left (by simp [hp]))
   simp only [List.length_cons]
   omega
section
variable {α β : Type} [DecidableEq α] {P : Program} {k e t : TypeId} {enc : α -> Value} {val : β -> Value} {w w' : World} {b n : Nat} {M : List (α × β)}
theorem MapV.put_again (h : MapV P k enc val w b n M) (K : Keyed P k) (ht : P.underlying t = some (.map k e)) (hn : n < maxLen) (hinj : ∀ x y,enc x = enc y -> x = y)
  (a : α) (d : β) {kl : Lit} (hk : keyOf P k (enc a) = some kl) (hin : (getA a M).isSome = true) :
  ∃ w',(Instr.mapUpdate t (.map (some b)) (enc a) (val d)).run P w = .ok () w' /\ MapV P k enc val w' b n ((a,d) :: M) /\ w.grownBy w' (some b):=by
 obtain ⟨w',hrun,hmap,hgr⟩:=h.put K ht hn hinj a d hk
 refine ⟨w',hrun,?_,hgr⟩
 obtain ⟨D,⟨es,clock,hb,F,hs,rfl⟩,h2,h3⟩:=h
 obtain ⟨es',clock',hrun',F',hput,_⟩:=Maps.fit_store (R':=asHeld) K ht hb F (Nat.lt_of_le_of_lt hs hn) (fun _ _ _ _ hz=>hz) hk (show asHeld (val d) = some (.held (val d),[]) from rfl)
 rw [hrun] at hrun'
 cases hrun'
 obtain ⟨D',⟨es2,clock2,hb2,F2,hs2,rfl⟩,k2,k3⟩:=hmap
 rw [heap_setBlock_same hb] at hb2
 cases hb2
 refine ⟨_,⟨es',clock',heap_setBlock_same hb _,F',?_,rfl⟩,k2,k3⟩
 have hh:=(h3 a kl hk).2
 rw [hin] at hh
 have e1 : es'.size = ((es'.toList.map (WideElems.rg P k asHeld)).foldr DataW.insert []).length:=by rw [length_sorted]; simp
 rw [e1,hput]
 unfold putKey
 rw [length_insert]
 have e2:=filter_lt (p:=notKey kl) ((es.toList.map (WideElems.rg P k asHeld)).foldr DataW.insert []) (by
  simpa [Maps.has,notKey] using hh)
 rw [length_sorted] at e2
 simp at e2
 omega
end
end
section
open Go.RowKit Go.Maps
structure CKp (O : Nat -> Prop) (W W' : World) : Prop where
 size : W.heap.size <= W'.heap.size
 cell : ∀ b o v,¬ O b -> W.cell? ⟨b,o,none⟩ = some v -> W'.cell? ⟨b,o,none⟩ = some v
theorem CKp.refl (O : Nat -> Prop) (W : World) : CKp O W W:=⟨lQ _,fun _ _ _ _ h=>h⟩
theorem cell_lt {W : World} {b o : Nat} {v : Value} (h : W.cell? ⟨b,o,none⟩ = some v) : b < W.heap.size:=by
 obtain ⟨o',h1,_⟩:=cells_of_cell h
 exact heap_lt h1
theorem CKp.of_keepC {O : Nat -> Prop} {W W' : World} (h : KeepC O W W') : CKp O W W':=⟨h.size,fun b _ _ hb hc=>by
 obtain ⟨o',h1,h2⟩:=cells_of_cell hc
 have h3:=h.cells b o' h1 h2 hb
 rw [World.cell?_of_block (h3.trans h1.symm)]
 exact hc⟩
def NoCells (M : Nat -> Prop) (W : World) : Prop:=∀ b,M b -> ∀ o v,W.cell? ⟨b,o,none⟩ ≠ some v
theorem CKp.of_keepM {M : Nat -> Prop} {W W' : World} (h : KeepM M W W') (hM : NoCells M W) (O : Nat -> Prop) : CKp O W W':=⟨h.1,fun b o v _ hc=>by
 have hn : ¬ M b:=fun hb=>hM b hb o v hc
 rw [World.cell?_of_block (h.2 b (cell_lt hc) hn)]
 exact hc⟩
theorem CKp.of_below {W W' : World} (h : Below W.heap.size W W') (O : Nat -> Prop) : CKp O W W':=⟨h.size,fun b o v _ hc=>(h.cell (p:=⟨b,o,none⟩) (cell_lt hc)).trans hc⟩
theorem KeepM.refl (M : Nat -> Prop) (W : World) : KeepM M W W:=⟨lQ _,fun _ _ _=>rfl,.refl _⟩
theorem KeepM.trans {M : Nat -> Prop} {A B C : World} (h : KeepM M A B) (k : KeepM M B C) : KeepM M A C:=⟨Nat.le_trans h.1 k.1,fun b hb hn=>(k.2 b (Nat.lt_of_lt_of_le hb h.1) hn).trans (h.2 b hb hn),h.io.trans k.io⟩
theorem KeepM.of_below {M : Nat -> Prop} {A B : World} (h : Below A.heap.size A B) : KeepM M A B:=⟨h.size,fun b hb _=>h.block b hb,h.os,h.tape,h.output⟩
theorem KeepM.of_grown {M : Nat -> Prop} {A B : World} {m : Nat} (h : A.grownBy B (some m)) (hm : M m) : KeepM M A B:=⟨h.size,fun b hb hn=>h.block b hb (fun e=>by cases e; exact hn hm),h.os,h.tape,h.output⟩
def LimO (O : Nat -> Prop) (w : World) (v : Value) (n : Nat) : Prop:=
 (n = 0 /\ ∃ A c,v = .slice A 0 c /\ c <= maxLen) \/ (n ≠ 0 /\ n < 4294967296 /\ ∃ b off c,v = .slice (some ⟨b,off,none⟩) 1 c /\ 1 <= c /\ c <= maxLen /\ ¬ O b /\ w.cell? ⟨b,off,none⟩ = some (.int .u32 (n : Int)))
theorem LimO.lim {O : Nat -> Prop} {w : World} {v : Value} {n : Nat} (h : LimO O w v n) : IsLim w v n:=by
 rcases h with h | ⟨h1,h2,b,off,c,e,h3,h4,_,h6⟩
 ·exact .inl h
 ·exact .inr ⟨h1,h2,b,off,c,e,h3,h4,cell_lt h6,h6⟩
theorem LimO.of_new {O : Nat -> Prop} {B : Nat} {w' : World} {v : Value} {n : Nat} (h : IsLim w' v n) (hO : ∀ b,O b -> b < B) (hn : NewS B v) : LimO O w' v n:=by
 rcases h with h | ⟨h1,h2,b,off,c,rfl,h3,h4,_,h6⟩
 ·exact .inl h
 ·exact .inr ⟨h1,h2,b,off,c,rfl,h3,h4,fun hb=>by have:=hO b hb; have : B <= b:=hn; omega,h6⟩
theorem LimO.keep {O O' : Nat -> Prop} {w w' : World} {v : Value} {n : Nat} (h : LimO O w v n) (hk : CKp O w w') (hO : ∀ b,O' b -> O b \/ w.heap.size <= b) : LimO O' w' v n:=by
 rcases h with h | ⟨h1,h2,b,off,c,e,h3,h4,h5,h6⟩
 ·exact .inl h
 ·exact .inr ⟨h1,h2,b,off,c,e,h3,h4,fun hb=>(hO b hb).elim h5 fun hge=>by have:=cell_lt h6; omega,hk.cell b off _ h5 h6⟩
def NatsO (k : IntKind) (O : Nat -> Prop) (w : World) (v : Value) (l : List Nat) : Prop:=SlP (fun b=>¬ O b) w v l.length fun b off i=>w.cell? ⟨b,off + i,none⟩ = some (.int k ((l.getD i 0 : Nat) : Int))
structure PEnd where
 item : PItem
 next : Nat
 items : Nat
 deriving DecidableEq
def PEnd.zero : PEnd:=⟨PItem.zero,0,0⟩
structure EndAt (w : World) (b o : Nat) (e : PEnd) : Prop where
 c0 : w.cell? ⟨b,o,none⟩ = some (.int .u16 (e.item.cls : Int))
 c1 : w.cell? ⟨b,o + 1,none⟩ = some (.int .i64 (e.item.sym : Int))
 c2 : w.cell? ⟨b,o + 2,none⟩ = some (.int .i64 (e.next : Int))
 c3 : w.cell? ⟨b,o + 3,none⟩ = some (.int .i64 (e.items : Int))
def EndsO (O : Nat -> Prop) (w : World) (v : Value) (l : List PEnd) : Prop:=SlP (fun b=>¬ O b) w v l.length fun b off i=>EndAt w b (off + i * 4) (l.getD i PEnd.zero)
section
variable {O O' : Nat -> Prop} {w w' : World}
theorem notO (hO : ∀ b,O' b -> O b \/ w.heap.size <= b) {b : Nat} (hb : b < w.heap.size) (h : ¬ O b) : ¬ O' b:=fun h'=>(hO b h').elim h fun hge=>by omega
theorem NatsO.keep {k : IntKind} {v : Value} {l : List Nat} (h : NatsO k O w v l) (hk : CKp O w w') (hO : ∀ b,O' b -> O b \/ w.heap.size <= b) : NatsO k O' w' v l:=
 SlP.map h hk.size (fun _ hb hp=>notO hO hb hp) fun _ _ _ _ hp _ hc=>hk.cell _ _ _ hp hc
theorem EndAt.keep {b o : Nat} {e : PEnd} (h : EndAt w b o e) (hk : CKp O w w') (hp : ¬ O b) : EndAt w' b o e:=⟨hk.cell _ _ _ hp h.c0,hk.cell _ _ _ hp h.c1,hk.cell _ _ _ hp h.c2,hk.cell _ _ _ hp h.c3⟩
theorem EndsO.keep {v : Value} {l : List PEnd} (h : EndsO O w v l) (hk : CKp O w w') (hO : ∀ b,O' b -> O b \/ w.heap.size <= b) : EndsO O' w' v l:=
 SlP.map h hk.size (fun _ hb hp=>notO hO hb hp) fun _ _ _ _ hp _ hc=>hc.keep hk hp
end
def Chain (E : List PEnd) : List PItem -> Nat -> Prop
 | [],n=>n < E.length /\ (E.getD n PEnd.zero).items = 0
 | i :: t,n=>n < E.length /\ (E.getD n PEnd.zero).item = i /\ (E.getD n PEnd.zero).items = t.length + 1 /\ Chain E t (E.getD n PEnd.zero).next
theorem Chain.lt {E : List PEnd} {its : List PItem} {n : Nat} (h : Chain E its n) : n < E.length:=by
 cases its <;> exact h.1
theorem Chain.items {E : List PEnd} {its : List PItem} {n : Nat} (h : Chain E its n) : (E.getD n PEnd.zero).items = its.length:=by
 cases its
 ·exact h.2
 ·exact h.2.2.1
theorem Chain.uniq {E : List PEnd} : ∀ {a b : List PItem} {n : Nat},Chain E a n -> Chain E b n -> a = b
 | [],[],_,_,_=>rfl
 | [],_ :: _,_,h,k=>by have:=h.items; have:=k.items; simp at *; omega
 | _ :: _,[],_,h,k=>by have:=h.items; have:=k.items; simp at *; omega
 | i :: a,j :: b,n,h,k=>by rw [h.2.1.symm.trans k.2.1,Chain.uniq h.2.2.2 k.2.2.2]
structure ChartD where
 C : Nat
 S : Nat
 R : Nat
 g : List PRule
 tk : List Nat
 E : List PEnd
 bg : List Nat
 sy : Nat -> Nat -> Nat -> Nat
structure ChartOK (d : ChartD) (rk : Nat -> Nat) : Prop where
 ne : d.S ≠ d.R
 glen : d.g.length <= 200
 tlen : d.tk.length <= 40
 elen : d.E.length <= 2000
 tcls : ∀ i,d.tk.getD i 0 < 65536
 ecls : ∀ r,r < d.g.length -> ∀ i ∈ ruleOf d.g r,i.cls < 65536 /\ i.sym < 64
 blen : d.bg.length = d.g.length
 chain : ∀ r,r < d.g.length -> Chain d.E (ruleOf d.g r) (d.bg.getD r 0)
 ranked : Ranked d.g rk
 step : ∀ s a b,d.sy s a b = symStep d.g d.tk d.sy s a b
 small : ∀ s a b,s < 64 -> a <= b -> b <= d.tk.length -> d.sy s a b < 4294967296
 smallR : ∀ r,r < d.g.length -> ∀ its,its <:+ ruleOf d.g r -> ∀ a b,a <= b -> b <= d.tk.length -> restN d.sy d.tk its a b < 4294967296
structure ChartAt (d : ChartD) (O : Nat -> Prop) (w : World) : Prop where
 hC : ¬ O d.C
 ctok : ∃ v,w.cell? ⟨d.C,0,none⟩ = some v /\ NatsO .u16 O w v d.tk
 crul : ∀ s,s < 64 -> ∃ v,w.cell? ⟨d.C,1 + s,none⟩ = some v /\ NatsO .i64 O w v (symRules d.g s)
 cbeg : ∃ v,w.cell? ⟨d.C,65,none⟩ = some v /\ NatsO .i64 O w v d.bg
 cend : ∃ v,w.cell? ⟨d.C,66,none⟩ = some v /\ EndsO O w v d.E
 csym : w.cell? ⟨d.C,67,none⟩ = some (.map (some d.S))
 cres : w.cell? ⟨d.C,68,none⟩ = some (.map (some d.R))
theorem ChartAt.keep {d : ChartD} {O O' : Nat -> Prop} {w w' : World} (h : ChartAt d O w) (hk : CKp O w w') (hO : ∀ b,O' b -> O b \/ w.heap.size <= b) : ChartAt d O' w' where
 hC:=notO hO (cell_lt h.csym) h.hC
 ctok:=let ⟨v,h1,h2⟩:=h.ctok; ⟨v,hk.cell _ _ _ h.hC h1,h2.keep hk hO⟩
 crul:=fun s hs=>let ⟨v,h1,h2⟩:=h.crul s hs; ⟨v,hk.cell _ _ _ h.hC h1,h2.keep hk hO⟩
 cbeg:=let ⟨v,h1,h2⟩:=h.cbeg; ⟨v,hk.cell _ _ _ h.hC h1,h2.keep hk hO⟩
 cend:=let ⟨v,h1,h2⟩:=h.cend; ⟨v,hk.cell _ _ _ h.hC h1,h2.keep hk hO⟩
 csym:=hk.cell _ _ _ h.hC h.csym
 cres:=hk.cell _ _ _ h.hC h.cres
abbrev MapS:=MapV Tryz.prog 268 encSpan (fun v : Value=>v)
theorem MapS.noCell {w : World} {b n : Nat} {M : List (PSpan × Value)} (h : MapS w b n M) (o : Nat) (v : Value) : w.cell? ⟨b,o,none⟩ ≠ some v:=fun hc=>by
 obtain ⟨o',h1,h2⟩:=cells_of_cell hc
 obtain ⟨D,⟨es,clock,h3,_⟩,_⟩:=h
 rw [h3] at h1
 cases h1
 cases h2
def dom : List (PSpan × Value) -> List PSpan
 | []=>[]
 | p :: t=>if (getA p.1 t).isSome then dom t else p.1 :: dom t
theorem getA_dom {M : List (PSpan × Value)} {k : PSpan} (h : getA k M = none) : k ∉ dom M:=by
 induction M with
 | nil=>simp [dom]
 | cons p t ih=>
  rw [getA] at h
  by_cases e : p.1 = k
  ·rw [if_pos e] at h; cases h
  ·rw [if_neg e] at h
   rw [dom]
   split
   ·exact ih h
   ·simp only [List.mem_cons,not_or]
    exact ⟨fun e'=>e e'.symm,ih h⟩
theorem dom_nodup : ∀ M : List (PSpan × Value),(dom M).Nodup
 | []=>List.nodup_nil
 | p :: t=>by
  rw [dom]
  split
  ·exact dom_nodup t
  ·rename_i h
   refine List.nodup_cons.2 ⟨getA_dom ?_,dom_nodup t⟩
   cases hg : getA p.1 t
   ·rfl
   ·rw [hg] at h; exact absurd rfl h
def MemoK (K : Nat) (M : List (PSpan × Value)) : Prop:=∀ k ∈ dom M,∃ n a b : Nat,k = ⟨n,a,b⟩ /\ n < K /\ a <= b /\ b <= 40
theorem MemoK.cons {K : Nat} {M : List (PSpan × Value)} (h : MemoK K M) {n a b : Nat} (hn : n < K) (ha : a <= b) (hb : b <= 40) (v : Value) : MemoK K ((⟨n,a,b⟩,v) :: M):=by
 intro k hk
 rw [dom] at hk
 split at hk
 ·exact h k hk
 ·rcases List.mem_cons.1 hk with rfl | hk
  ·exact ⟨n,a,b,rfl,hn,ha,hb⟩
  ·exact h k hk
structure Memo (d : ChartD) (O : Nat -> Prop) (w : World) (MS MR : List (PSpan × Value)) : Prop where
 hS : MapS w d.S (dom MS).length MS
 hR : MapS w d.R (dom MR).length MR
 kS : MemoK 64 MS
 kR : MemoK 2000 MR
 vS : ∀ s a b v,getA (⟨(s : Nat),(a : Nat),(b : Nat)⟩ : PSpan) MS = some v -> LimO O w v (d.sy s a b)
 vR : ∀ n a b v,getA (⟨(n : Nat),(a : Nat),(b : Nat)⟩ : PSpan) MR = some v -> ∀ its,Chain d.E its n -> LimO O w v (restN d.sy d.tk its a b)
def ChartInv (d : ChartD) (O : Nat -> Prop) (w : World) : Prop:=ChartAt d O w /\ ∃ MS MR,Memo d O w MS MR
def MM (d : ChartD) (b : Nat) : Prop:=b = d.S \/ b = d.R
theorem ChartInv.noCells {d : ChartD} {O : Nat -> Prop} {w : World} (h : ChartInv d O w) : NoCells (MM d) w:=by
 obtain ⟨_,MS,MR,hm⟩:=h
 intro b hb
 rcases hb with rfl | rfl
 ·exact hm.hS.noCell
 ·exact hm.hR.noCell
theorem ChartInv.MM_lt {d : ChartD} {O : Nat -> Prop} {w : World} (h : ChartInv d O w) {b : Nat} (hb : MM d b) : b < w.heap.size:=by
 obtain ⟨_,MS,MR,hm⟩:=h
 rcases hb with rfl | rfl
 ·exact hm.hS.lt
 ·exact hm.hR.lt
theorem Memo.keep {d : ChartD} {O O' : Nat -> Prop} {w w' : World} {MS MR : List (PSpan × Value)} (h : Memo d O w MS MR) (hk : CKp O w w') (hO : ∀ b,O' b -> O b \/ w.heap.size <= b) (hS : w'.heap[d.S]? = w.heap[d.S]?) (hR : w'.heap[d.R]? = w.heap[d.R]?) : Memo d O' w' MS MR where
 hS:=h.hS.same hS
 hR:=h.hR.same hR
 kS:=h.kS
 kR:=h.kR
 vS:=fun s a b v hv=>(h.vS s a b v hv).keep hk hO
 vR:=fun n a b v hv its hc=>(h.vR n a b v hv its hc).keep hk hO
theorem ChartInv.below {d : ChartD} {O : Nat -> Prop} {w w' : World} (h : ChartInv d O w) (hb : Below w.heap.size w w') : ChartInv d O w':=by
 obtain ⟨h1,MS,MR,hm⟩:=h
 have hk:=CKp.of_below hb O
 exact ⟨h1.keep hk fun b h=>.inl h,MS,MR,hm.keep hk (fun b h=>.inl h) (hb.block _ hm.hS.lt) (hb.block _ hm.hR.lt)⟩
theorem pigeon : ∀ (K : Nat) (l : List Nat),l.Nodup -> (∀ x ∈ l,x < K) -> l.length <= K
 | 0,[],_,_=>lQ _
 | 0,a :: _,_,h=>absurd (h a (List.mem_cons_self ..)) (by omega)
 | K + 1,l,hn,h=>by
  by_cases hk : K ∈ l
  ·have:=pigeon K (l.erase K) (hn.erase K) fun x hx=>by
    have h1:=h x (List.mem_of_mem_erase hx)
    have h2 : x ≠ K:=fun e=>by subst e; exact absurd hx (List.Nodup.not_mem_erase hn)
    omega
   rw [List.length_erase_of_mem hk] at this
   have : 0 < l.length:=List.length_pos_of_mem hk
   omega
  ·have:=pigeon K l hn fun x hx=>by
    have h1:=h x hx
    have h2 : x ≠ K:=fun e=>by subst e; exact hk hx
    omega
   omega
def codeSpan (k : PSpan) : Nat:=(k.of.toNat * 41 + k.src.toNat) * 41 + k.dst.toNat
theorem MemoK.len {K : Nat} {M : List (PSpan × Value)} (h : MemoK K M) : (dom M).length <= K * 1681:=by
 have hnd : ((dom M).map codeSpan).Nodup:=by
  refine List.Pairwise.map _ (R:=fun a b=>a ≠ b /\ a ∈ dom M /\ b ∈ dom M) ?_ ?_
  ·rintro x y ⟨hne,hx,hy⟩ e
   obtain ⟨n,a,b,rfl,h1,h2,h3⟩:=h x hx
   obtain ⟨n',a',b',rfl,k1,k2,k3⟩:=h y hy
   simp only [codeSpan,Int.toNat_natCast] at e
   refine hne ?_
   have e1 : b = b':=by omega
   have e2 : a = a':=by omega
   have e3 : n = n':=by omega
   rw [e1,e2,e3]
  ·exact List.Pairwise.imp_of_mem (fun hx hy hr=>⟨hr,hx,hy⟩) (dom_nodup M)
 have:=pigeon (K * 1681) _ hnd fun x hx=>by
  obtain ⟨k,hk,rfl⟩:=List.mem_map.1 hx
  obtain ⟨n,a,b,rfl,h1,h2,h3⟩:=h k hk
  simp only [codeSpan,Int.toNat_natCast]
  omega
 simpa using this
end
section
open Go Go.RowKit
attribute [local go_sem] Oper.semAt_some
def piecesF (c : UInt8) : Nat -> ByteArray -> List ByteArray
 | 0,s=>[s]
 | f + 1,s=>if Lib.indexByte s.data.toList c < 0 then [s] else s.extract 0 (Lib.indexByte s.data.toList c).toNat :: piecesF c f (s.extract ((Lib.indexByte s.data.toList c).toNat + 1) s.size)
def pieces (s : ByteArray) (c : UInt8) : List ByteArray:=piecesF c s.size s
def InvS (c : UInt8) (Bp Bs Bv : Nat) (O : Nat -> Prop) (W : World) : Prop:=(¬ O Bp /\ ¬ O Bs /\ ¬ O Bv) /\ Blk W Bp 9 #[.string ⟨#[c]⟩] /\ Blk W Bv 3 #[.int .i64 0] /\ ∃ s : ByteArray,Blk W Bs 9 #[.string s] /\ s.size <= 1000000
def VS (_ : Nat -> Prop) (x : ByteArray) (vs : Array Value) (_ : World) : Prop:=vs = #[.string x]
def strAt (w : World) (b : Nat) : Nat:=match w.cell? ⟨b,0,none⟩ with | some (.string s)=>s.size | _=>0
theorem KeepC.blk {O : Nat -> Prop} {W W' : World} {b : Nat} {t : TypeId} {cs : Array Value} (h : KeepC O W W') (hb : ¬ O b) (hk : Blk W b t cs) : Blk W' b t cs:=h.cells b _ hk rfl hb
theorem splitSeq1 (c : UInt8) (s : ByteArray) (Bp Bs Bv : Nat) (hne : Bp ≠ Bs /\ Bv ≠ Bs) (hs : s.size <= 1000000) :
  SeqM Tryz.prog 198 #[.pointer (some ⟨Bp,0,none⟩),.pointer (some ⟨Bs,0,none⟩),.pointer (some ⟨Bv,0,none⟩)] (fun b=>b = Bs) (InvS c Bp Bs Bv) VS (fun W=>Blk W Bs 9 #[.string s]) (pieces s c):=by
 intro l J Jx O W hMl hl hinv hpre hO hJ hJx hY h0
 refine callsIn_wide.1 (callsIn_of_wp (n:=0) Tryz.func198 rfl trivial ?_)
 simp only [Tryz.ntmps198,List.size_toArray,List.length_cons,List.length_nil,Nat.reduceAdd,Nat.reduceSub,Array.replicate_succ,Array.replicate_zero,List.push_toArray,List.append_toArray,List.nil_append,List.cons_append]
 have y0:=hinv.2.1.cell 0
 simp at y0
 gi_wp2
 gi_loopw [7] (fun _ wr=>∃ (k : Nat) (pre : List ByteArray) (cur : ByteArray) (O2 : Nat -> Prop),cur.size <= k /\ pieces s c = pre ++ piecesF c k cur /\ Blk wr Bs 9 #[.string cur] /\ cur.size <= 1000000 /\ InvS c Bp Bs Bv O2 wr /\ J pre O2 wr /\
   (∀ b,O2 b -> O b \/ W.heap.size <= b) /\ (∀ b,O2 b -> b < wr.heap.size) /\ KeepC (fun b=>O b \/ b = Bs) W wr) (fun _ wr=>strAt wr Bs)
 case atStart=>exact ⟨s.size,[],s,O,lQ _,rfl,hpre,hs,hinv,h0,fun b h=>.inl h,hO,KeepC.refl _ _⟩
 case round=>
  obtain ⟨k,pre,cur,O2,hk,hps,hbs,hcs,hiv,hj,hO2,hO2b,hkc⟩:=hrel
  have z0:=hbs.cell 0
  have z1:=hiv.2.1.cell 0
  have z2:=hiv.2.2.1.cell 0
  have f0:=hbs.frozen 0
  simp at z0 z1 z2
  have hil:=indexByte_lt cur.data.toList c
  have hcall:=Hd (Sh.strings_Index_one cur c wr)
  have hWs:=hkc.size
  have hsz : cur.data.toList.length = cur.size:=by simp
  rw [hsz] at hil
  have hpc : Hid (piecesF c k cur = if Lib.indexByte cur.data.toList c < 0 then [cur] else cur.extract 0 (Lib.indexByte cur.data.toList c).toNat :: piecesF c (k - 1) (cur.extract ((Lib.indexByte cur.data.toList c).toNat + 1) cur.size)):=Hd (by
   cases k with
   | zero=>
    have : Lib.indexByte cur.data.toList c < 0:=by omega
    rw [if_pos this,piecesF]
   | succ k=>rw [piecesF]; rfl)
  generalize Lib.indexByte cur.data.toList c = i at *
  gi_wp2_with (fail)
  refine ⟨trivial,rfl,(callsIn_wide.2 hcall.out).mono ?_⟩
  rintro e w1 ⟨rfl,hw⟩
  obtain rfl:=hw.symm
  clear hcall
  by_cases hi : i < 0
  ·have hpc' : Hid (piecesF c k cur = [cur]):=Hd (by rw [hpc.out,if_pos hi])
   rw [hpc'.out] at hps
   have hy:=hY pre cur #[.string cur] O2 _ (by rw [hps]; exact List.prefix_rfl) hj hiv rfl hO2b hWs
   obtain ⟨fn,tmps,assign,body,hy,hR⟩:=hy
   gi_wp2_with (fail)
   refine ⟨rfl,hR.mono ?_⟩
   clear hR hy
   rintro e w3 ⟨O3,h1,h2,h3,h4,_,hcase⟩
   have hO3 : ∀ b,O3 b -> O b \/ W.heap.size <= b:=fun b h=>(h1 b h).elim (hO2 b) fun h=>.inr (by omega)
   have hkc3 : KeepC (fun b=>O b \/ b = Bs) W w3:=hkc.trans (fun b h=>(hO2 b h).imp .inl id) h3
   rcases hcase with ⟨rfl,hj3⟩ | ⟨rfl,hj3⟩
   ·gi_wp2_with (fail)
    go_end0
    exact ⟨⟨_,rfl⟩,O3,hO3,h2,hkc3,h4,.inl (by rw [hps]; exact hj3)⟩
   ·gi_wp2_with (fail)
    go_end0
    exact ⟨⟨_,rfl⟩,O3,hO3,h2,hkc3,h4,.inr ⟨_,by rw [hps]; exact List.prefix_rfl,hj3⟩⟩
  ·have hpc' : Hid (piecesF c k cur = cur.extract 0 i.toNat :: piecesF c (k - 1) (cur.extract (i.toNat + 1) cur.size)):=Hd (by rw [hpc.out,if_neg hi])
   clear hpc
   obtain ⟨j,rfl⟩ : ∃ j : Nat,i = (j : Int):=⟨i.toNat,by omega⟩
   have hjl : j < cur.size:=by omega
   rw [show ((j : Int)).toNat = j from rfl] at hpc'
   have hpre1 : (pre ++ [cur.extract 0 j]) <+: pieces s c:=⟨piecesF c (k - 1) (cur.extract (j + 1) cur.size),by rw [hps,hpc'.out]; simp⟩
   have hy:=hY pre (cur.extract 0 j) #[.string (cur.extract 0 j)] O2 _ hpre1 hj hiv rfl hO2b hWs
   obtain ⟨fn,tmps,assign,body,hy,hR⟩:=hy
   have hil' : (j : Int) <= (cur.size : Int):=by omega
   have hw0 : IntKind.i64.wrap ((j : Int) + 1) = ((j + 1 : Nat) : Int):=by simp [IntKind.wrap,IntKind.bits,IntKind.signed]; omega
   have hil2 : ((j + 1 : Nat) : Int) <= (cur.size : Int):=by omega
   have hps':=Hd hps
   clear hps
   gi_wp2_with (fail)
   refine ⟨rfl,hR.mono ?_⟩
   clear hR hy
   rintro e w3 ⟨O3,h1,h2,h3,h4,_,hcase⟩
   have hO3 : ∀ b,O3 b -> O b \/ W.heap.size <= b:=fun b h=>(h1 b h).elim (hO2 b) fun h=>.inr (by omega)
   have hkc3 : KeepC (fun b=>O b \/ b = Bs) W w3:=hkc.trans (fun b h=>(hO2 b h).imp .inl id) h3
   rcases hcase with ⟨rfl,hj3⟩ | ⟨rfl,hj3⟩
   ·have hbs3:=h3.blk hiv.1.2.1 hbs
    clear z0 z1 z2 f0
    have z0:=hbs3.cell 0
    have z1:=h4.2.1.cell 0
    have f0:=hbs3.frozen 0
    have hbl:=hbs3.lt
    simp at z0 z1
    gi_wp2_with (fail)
    have hbn : Blk (w3.setCell ⟨Bs,0,none⟩ (.string (cur.extract (j + 1) cur.size))) Bs 9 #[.string (cur.extract (j + 1) cur.size)]:=by
     have:=hbs3.set_ 0 (.string (cur.extract (j + 1) cur.size))
     simpa using this
    have hsz3 : (w3.setCell ⟨Bs,0,none⟩ (.string (cur.extract (j + 1) cur.size))).heap.size = w3.heap.size:=by simp [World.setCell]
    have hexs : (cur.extract (j + 1) cur.size).size = cur.size - (j + 1):=by rw [ByteArray.size_extract]; omega
    refine ⟨⟨k - 1,pre ++ [cur.extract 0 j],_,O3,?_,?_,hbn,?_,⟨h4.1,h4.2.1.far hne.1 _,h4.2.2.1.far hne.2 _,_,hbn,?_⟩,?_,hO3,?_,?_⟩,?_⟩
    ·omega
    ·rw [hps'.out,hpc'.out]; simp
    ·omega
    ·omega
    ·exact hJ _ O3 w3 _ hj3 h2 ⟨by rw [hsz3]; exact lQ _,fun k o hk hkn _=>(Below.heap_setCell w3 ⟨Bs,0,none⟩ _ k hkn).trans hk,rfl,rfl,rfl⟩
    ·intro b h; rw [hsz3]; exact h2 b h
    ·exact ⟨by rw [hsz3]; exact hkc3.size,fun k o hk hc hn=>(Below.heap_setCell w3 ⟨Bs,0,none⟩ _ k (fun e=>hn (.inr e))).trans (hkc3.cells k o hk hc hn),hkc3.io.trans ⟨rfl,rfl,rfl⟩⟩
    ·have e1 : strAt (w3.setCell ⟨Bs,0,none⟩ (.string (cur.extract (j + 1) cur.size))) Bs = (cur.extract (j + 1) cur.size).size:=by
      unfold strAt; rw [hbn.cell 0]; rfl
     have e2 : strAt wr Bs = cur.size:=by unfold strAt; rw [hbs.cell 0]; rfl
     rw [e1,e2]
     omega
   ·gi_wp2_with (fail)
    refine bodyPost_ret (results_none rfl _ _ _) rfl ?_
    exact ⟨⟨_,rfl⟩,O3,hO3,h2,hkc3,h4,.inr ⟨_,hpre1,hj3⟩⟩
end
section
open Go Go.RowKit
structure SplitAt (c : UInt8) (s : ByteArray) (B Bp Bs Bv : Nat) (w : World) : Prop where
 ne : Bp ≠ Bs /\ Bv ≠ Bs
 ge : B <= Bp /\ B <= Bs /\ B <= Bv
 p : Blk w Bp 9 #[.string ⟨#[c]⟩]
 s : Blk w Bs 9 #[.string s]
 v : Blk w Bv 3 #[.int .i64 0]
theorem splitSeq0 (s : ByteArray) (c : UInt8) (w : World) : Calls Tryz.prog 179 #[.string s,.string ⟨#[c]⟩,.int .i64 0] w fun e w'=>∃ Bp Bs Bv,
  e = .returned (.func (.func 198) #[] #[.pointer (some ⟨Bp,0,none⟩),.pointer (some ⟨Bs,0,none⟩),.pointer (some ⟨Bv,0,none⟩)]) /\ SplitAt c s w.heap.size Bp Bs Bv w' /\ Below w.heap.size w w':=by
 have h1:=Blk.new w 9 #[.string s]
 have h2:=Blk.new (w.alloc (.cells #[.string s] 9)) 9 #[.string ⟨#[c]⟩]
 have h3:=Blk.new ((w.alloc (.cells #[.string s] 9)).alloc (.cells #[.string ⟨#[c]⟩] 9)) 3 #[.int .i64 0]
 have hb : Below w.heap.size w (((w.alloc (.cells #[.string s] 9)).alloc (.cells #[.string ⟨#[c]⟩] 9)).alloc (.cells #[.int .i64 0] 3)):=
  (((Below.refl _ w).alloc (lQ _) _).alloc (by simp) _).alloc (by simp; omega) _
 have hS : SplitAt c s w.heap.size (w.heap.size + 1) w.heap.size (w.heap.size + 2) (((w.alloc (.cells #[.string s] 9)).alloc (.cells #[.string ⟨#[c]⟩] 9)).alloc (.cells #[.int .i64 0] 3)):=
  ⟨⟨by omega,by omega⟩,⟨by omega,by omega,by omega⟩,by simpa using h2.alloc (.cells #[.int .i64 0] 3),(h1.alloc _).alloc _,by simpa using h3⟩
 have hS':=Hd hS
 have hb':=Hd hb
 clear h1 h2 h3 hS hb
 go_enter Tryz.func179,Tryz.ntmps179
 go_wp2
 go_ret
 exact ⟨_,_,_,rfl,hS'.out,hb'.out⟩
theorem splitSeq_any (s : ByteArray) (c : UInt8) (w : World) : Calls Tryz.prog 118 #[.string s,.string ⟨#[c]⟩] w fun e w'=>∃ Bp Bs Bv,
  e = .returned (.func (.func 198) #[] #[.pointer (some ⟨Bp,0,none⟩),.pointer (some ⟨Bs,0,none⟩),.pointer (some ⟨Bv,0,none⟩)]) /\ SplitAt c s w.heap.size Bp Bs Bv w' /\ Below w.heap.size w w':=by
 have h:=Hd (splitSeq0 s c w)
 go_enter Tryz.func118,Tryz.ntmps118
 go_wp2_with fail
 refine h.out.mono ?_
 rintro e w' ⟨Bp,Bs,Bv,rfl,h1,h2⟩
 clear h
 replace h1:=Hd h1
 replace h2:=Hd h2
 go_wp2
 go_ret
 exact ⟨_,_,_,rfl,h1.out,h2.out⟩
theorem SplitAt.inv {c : UInt8} {s : ByteArray} {B Bp Bs Bv : Nat} {w : World} (h : SplitAt c s B Bp Bs Bv w) {O : Nat -> Prop} (hO : ∀ b,O b -> b < B) (hs : s.size <= 1000000) : InvS c Bp Bs Bv O w:=
 ⟨⟨fun h'=>by have:=hO _ h'; have:=h.ge.1; omega,fun h'=>by have:=hO _ h'; have:=h.ge.2.1; omega,fun h'=>by have:=hO _ h'; have:=h.ge.2.2; omega⟩,h.p,h.v,s,h.s,hs⟩
theorem KeepB.blk {M : Nat -> Prop} {B0 : Nat} {A B : World} {b : Nat} {t : TypeId} {cs : Array Value} (h : KeepB M B0 A B) (hb : ¬ M b) (hk : Blk A b t cs) : Blk B b t cs:=h.same b _ hk hb fun _=>rfl
theorem InvS.still (c : UInt8) (Bp Bs Bv : Nat) : Still0 (InvS c Bp Bs Bv):=
 ⟨fun _ _ _ ⟨h1,h2,h3,s,h4,h5⟩ _ hk=>⟨h1,hk.blk (fun h=>h) h2,hk.blk (fun h=>h) h3,s,hk.blk (fun h=>h) h4,h5⟩⟩
theorem VS.still (x : ByteArray) (vs : Array Value) : Still0 fun O W=>VS O x vs W:=⟨fun _ _ _ h _ _=>h⟩
theorem leave_mark {P : Program} {fn : Func} {R : Ending -> World -> Prop} {tmps : Array Value} {D : Nat} {W : World} {v : Value} (hD : W.heap[D]? = some (.deferred (some []))) (hr : (results fn tmps).run P (W.putObj D (.deferred none)) = .ok v (W.putObj D (.deferred none)))
  (hR : R (.returned v) (W.putObj D (.deferred none))) : bodyPostM Fence.wide 0 P fn R .ret { tmps:=tmps,defers:=[{ target:=.collected D,args:=#[] }] } W:=
 ⟨by simp,.inl ⟨_,_,rfl,run_takeDeferred hD,⟨_,hr,hR⟩⟩⟩
end
section
open Go Go.RowKit
section
variable {P : Program} {ops : Array Oper} {md : Region.Mode} {C : World -> Prop}
def headQ (P : Program) (md : Region.Mode) (ops : Array Oper) (C : World -> Prop) (n : Nat) (L : Array Bool -> Act -> Prop) : Nat -> Array Bool -> Act -> Prop
 | 0,l,a=>L l a
 | f + 1,l,a=>Region.ready md ops l ≠ [] /\ ∀ i ∈ Region.ready md ops l,i < n /\ qOp P ops C i (headQ P md ops C n L f (l.setIfInBounds i true)) a
theorem headQ.any {n g : Nat} {L : Array Bool -> Act -> Prop} {Q' : Exit -> Act -> World -> Prop} (hL : ∀ l a w,C w -> L l a -> wpAny P md ops Q' g l a w) :
  ∀ (f : Nat) (l : Array Bool) (a : Act) (w : World),C w -> headQ P md ops C n L f l a -> wpAny P md ops Q' (f + g) l a w
 | 0,_,_,_,hw,h=>by rw [Nat.zero_add]; exact hL _ _ _ hw h
 | f + 1,_,_,_,hw,h=>by
  rw [show f + 1 + g = (f + g) + 1 by omega]
  exact ⟨fun h0=>absurd h0 h.1,fun i hi=>wpOp_of_qOp hw (fun a' w' hw' h'=>headQ.any hL f _ a' w' hw' h') (h.2 i hi).2⟩
theorem headQ.first {n i : Nat} {oi : Oper} {v : Value} {L : Array Bool -> Act -> Prop} (hi : ops[i]? = some oi) (hsel : ∀ (j : Nat) (o : Oper) cs b,ops[j]? = some o -> o.op ≠ .select cs b)
  (hs : Region.sinkB md ops n = true) (hc : Region.chainB md ops n = true) (hn : n < ops.size) (hin : i < n) (hL : ∀ l a,L l a -> ∀ j ∈ Region.ready md ops l,n <= j) :
  ∀ (f : Nat) (l : Array Bool) (a : Act),HeadInv md ops n l ->
   (∀ j oj,ops[j]? = some oj -> j ≠ i -> l.getD j true = false -> (∀ e ∈ oj.after,Region.binds md e = true -> e.on ≠ i) -> oi.apart ops oj = true) ->
   i ∈ Region.ready md ops l -> YieldsIn P ops C oi v a -> headQ P md ops C n L f (l.setIfInBounds i true) (a.put oi.dst v) -> headQ P md ops C n L (f + 1) l a:=by
 intro f
 induction f with
 | zero=>
  intro l a inv _ hr hy H
  refine ⟨fun h=>(by rw [h] at hr; cases hr),fun j hj=>?_⟩
  have hjn : j < n:=by
   rcases Nat.lt_or_ge j n with h | h
   ·exact h
   ·exact absurd hj (tail_waits hs hc hn inv _ i rfl hin (mem_ready.1 hr).1 j h)
  rcases Decidable.em (j = i) with rfl | hne
  ·exact ⟨hjn,hy.qOp hi H⟩
  ·have:=hL _ _ H j (ready_mono hj hne)
   omega
 | succ f ih=>
  intro l a inv hfree hr hy H
  have hun:=(mem_ready.1 hr).1
  refine ⟨fun h=>(by rw [h] at hr; cases hr),fun j hj=>?_⟩
  have hjn : j < n:=by
   rcases Nat.lt_or_ge j n with h | h
   ·exact h
   ·exact absurd hj (tail_waits hs hc hn inv _ i rfl hin hun j h)
  refine ⟨hjn,?_⟩
  rcases Decidable.em (j = i) with rfl | hne
  ·exact hy.qOp hi H
  ·have h1:=(H.2 j (ready_mono hj hne)).2
   obtain ⟨hjun,oj,hoj,hall⟩:=mem_ready.1 hj
   have hno : ∀ e ∈ oj.after,Region.binds md e = true -> e.on ≠ i:=fun e he hb heq=>by
    have h2:=hall e he hb
    rw [heq,getD_both hun] at h2
    cases h2
   refine qOp_mono (fun a' h3=>ih (l.setIfInBounds j true) a' (inv.set hj hjn) (fun k ok hk hki hku hk2=>hfree k ok hk hki ?_ hk2) (ready_mono hr (Ne.symm hne)) h3.1 ?_)
    (qOp_put hoj (hfree j oj hoj hne hjun hno) (fun cs b=>hsel i oi cs b hi) (fun cs b=>hsel j oj cs b hoj) hy h1)
   ·rcases Decidable.em (j = k) with rfl | hjk
    ·exact hjun
    ·rw [getD_set_ne true hjk] at hku; exact hku
   ·rw [Array.setIfInBounds_comm _ _ hne]
    exact h3.2
theorem headQ.lex {n g : Nat} {Lq : Act -> Prop} (hsel : Region.noSelect ops = true) (hs : Region.sinkB md ops n = true) (hc : Region.chainB md ops n = true) (hn : n < ops.size) :
  ∀ (l : List Oper) (k : Nat) (b : Array Bool) (a : Act),(∀ j,j < l.length -> l[j]? = ops[k + j]?) -> k + l.length = n -> HeadInv md ops n b ->
  Region.lexHead md ops g l.length k b = true -> wpQuiet P ops C Lq l a ->
  headQ P md ops C n (fun b' a'=>Region.seqB md ops g n b' = true /\ Lq a') l.length b a
 | [],k,b,a,_,hk,_,hB,h=>by
  obtain rfl : k = n:=by simpa using hk
  exact ⟨by simpa [Region.lexHead] using hB,h⟩
 | o :: l,k,b,a,hl,hk,inv,hB,h=>by
  have h0 : ops[k]? = some o:=by simpa using (hl 0 (by simp)).symm
  simp only [List.length_cons,Region.lexHead,Bool.and_eq_true] at hB
  obtain ⟨⟨hr,hf⟩,hB'⟩:=hB
  have hkn : k < n:=by simp only [List.length_cons] at hk; omega
  have hr' : k ∈ Region.ready md ops b:=by simpa using hr
  have hst : qOp P ops C k (wpQuiet P ops C Lq l) a:=by unfold qOp; simp only [h0]; exact h
  obtain ⟨v,hy,hK⟩:=yieldsIn_of_qOp h0 hst
  exact headQ.first h0 (Region.noSelect_spec hsel) hs hc hn hkn (fun b' a' hL=>seqB_ready hL.1) l.length b a inv (Region.free_spec h0 hf) hr' hy
   (headQ.lex hsel hs hc hn l (k + 1) _ _ (fun j hj=>by have:=hl (j + 1) (by simp; omega); simpa [Nat.add_assoc,Nat.add_comm 1 j] using this) (by simp only [List.length_cons] at hk; omega) (inv.set hr' hkn) hB' hK)
theorem wp_region_qtail {id : Nat} {Q : Exit -> Act -> World -> Prop} {a : Act} {w : World} {l : List Oper} (n : Nat) (hm : P.follows .mixedOrders = true) (hB : Region.lexTailB .any l.toArray n = true) (hC : C { w with drawn:=w.drawn + 1 })
  (h : wpQuiet P l.toArray C (fun a'=>∀ w',C w' -> wpList P l.toArray Q (l.drop n) a' w') (l.take n) a) : (Code.region id l.toArray true).wp P Q a w:=by
 simp only [Region.lexTailB,Bool.and_eq_true,decide_eq_true_eq] at hB
 obtain ⟨⟨⟨⟨hsel,hn⟩,hs⟩,hc⟩,hlex⟩:=hB
 have hn' : n < l.length:=by simpa using hn
 have htl : (l.take n).length = n:=by simp; omega
 have hdl : (l.drop n).length = l.toArray.size - n:=by simp
 have inv0 : HeadInv .any l.toArray n (Array.replicate l.toArray.size false):=
  ⟨by simp,fun j oj _ hl=>(by rw [getD_replicate_false] at hl; cases hl),fun t _ ht=>getD_in (by simpa using ht) (getD_replicate_false _ _)⟩
 have H:=headQ.lex (md:=.any) (g:=l.toArray.size - n) hsel hs hc hn (l.take n) 0 _ a (fun j hj=>by
  have hj' : j < n:=by rw [htl] at hj; exact hj
  simp [hj']) (by simpa using htl) inv0 (by rw [htl]; exact hlex) h
 refine wp_region_any hm ?_
 have H2:=headQ.any (Q':=Q) (g:=l.toArray.size - n) (fun b a' w' hw' hL=>by
  have:=wpAny_of_seq (md:=.any) (Q':=Q) (l.drop n) n b a' w' (fun j=>by simp [List.getElem?_drop]) (by rw [hdl]; exact hL.1) (hL.2 w' hw')
  rwa [hdl] at this) _ _ _ _ hC H
 rw [htl,show n + (l.toArray.size - n) = l.toArray.size by omega] at H2
 exact H2
theorem wp_region_upst {id : Nat} {Q : Exit -> Act -> World -> Prop} {a : Act} {w : World} {l : List Oper} (n : Nat) (hm : P.follows .mixedOrders = true) (hB : Region.lexTailB .any l.toArray n = true)
  (h : wpQuiet P l.toArray (fun w'=>∃ u : Ups w,w' = u.wld) (fun a'=>∀ w',(∃ u : Ups w,w' = u.wld) -> wpList P l.toArray Q (l.drop n) a' w') (l.take n) a) : (Code.region id l.toArray true).wp P Q a w:=
 wp_region_qtail (C:=fun w'=>∃ u : Ups w,w' = u.wld) n hm hB ⟨⟨_,(Below.refl _ _).drew⟩,rfl⟩ h
end
end
end Go.Proofs.YteclineblddpbaaGreatDoorR
