import Derived.Test.YteclineblddpbaaGreatDoorRC01
import Derived.Test.YteclineblddpbaaGreatDoorRC16
import Derived.Test.YteclineblddpbaaGreatDoorRC18
import Derived.Test.YteclineblddpbaaGreatDoorRC19
import Derived.Laws.MakeOwn
set_option linter.all false
set_option maxRecDepth 100000
set_option maxHeartbeats 0
namespace Go.Proofs.YteclineblddpbaaGreatDoorR
section
open Go Go.RowKit Go.Maps
def encEnd (e : PEnd) : Value:=.agg #[.int .u16 (e.item.cls : Int),.int .i64 (e.item.sym : Int),.int .i64 (e.next : Int),.int .i64 (e.items : Int)]
theorem encEnd_inj (x y : PEnd) (h : encEnd x = encEnd y) : x = y:=by
 obtain ⟨⟨a1,a2⟩,a3,a4⟩:=x
 obtain ⟨⟨b1,b2⟩,b3,b4⟩:=y
 simp [encEnd] at h
 obtain ⟨h1,h2,h3,h4⟩:=h
 have e1 : a1 = b1:=by omega
 have e2 : a2 = b2:=by omega
 have e3 : a3 = b3:=by omega
 have e4 : a4 = b4:=by omega
 subst e1 e2 e3 e4
 rfl
theorem wfu16 {n : Nat} (h : n < 65536) : (Lit.int .u16 (n : Int)).wf = true:=by
 simp [Lit.wf,IntKind.min,IntKind.max,IntKind.signed,IntKind.bits]
 omega
theorem c37 : Tryz.prog.cellsOf 37 = 1:=by kernel_rfl
theorem c76 : Tryz.prog.cellsOf 76 = 2:=by kernel_rfl
theorem kl296_int (a : Int) (h : Fit64 a) : Tryz.prog.keyLits 296 3 [Value.int .i64 a] = some [.int .i64 a]:=by
 unfold Program.keyLits
 simp only [Tryz.underlying3]
 rw [if_pos ⟨trivial,wf64 h⟩]
theorem kl296_u16 (a : Nat) (h : a < 65536) : Tryz.prog.keyLits 296 37 [Value.int .u16 (a : Int)] = some [.int .u16 (a : Int)]:=by
 unfold Program.keyLits
 simp only [Tryz.underlying37]
 rw [if_pos ⟨trivial,wfu16 h⟩]
theorem keyOf_end (x : PEnd) (h0 : x.item.cls < 65536) (h1 : x.item.sym <= 1000000) (h2 : x.next <= 1000000) (h3 : x.items <= 1000000) : ∃ kl,keyOf Tryz.prog 243 (encEnd x) = some kl:=by
 obtain ⟨⟨a1,a2⟩,a3,a4⟩:=x
 simp only at h0 h1 h2 h3
 have hkt : Tryz.prog.keyType 243 = true:=by kernel_rfl
 have c243 : Tryz.prog.cellsOf 243 = 4:=by kernel_rfl
 have k76 : Tryz.prog.keyLits 297 76 [Value.int .u16 (a1 : Int),Value.int .i64 (a2 : Int)] = some [.int .u16 (a1 : Int),.int .i64 (a2 : Int)]:=by
  unfold Program.keyLits
  simp only [Tryz.underlying76]
  rw [if_pos ⟨by simp [c76],by kernel_rfl⟩]
  simp only [List.mapM_cons,List.mapM_nil,c3,c37,dZ,tS,tZ,dS,kl296_int _ (fit_nat h1),kl296_u16 _ h0]
  rfl
 unfold keyOf encEnd
 simp only [Tryz.underlying243,typesN]
 rw [if_pos (by simp [hkt,Value.formed,Tryz.underlying243,c243])]
 unfold Program.keyLits
 simp only [Tryz.underlying243,Value.cells]
 rw [if_pos ⟨by simp [c243],by kernel_rfl⟩]
 simp only [List.mapM_cons,List.mapM_nil,c3,c76,dZ,tS,tZ,dS,kl_int _ (fit_nat h2),kl_int _ (fit_nat h3),k76]
 exact ⟨_,rfl⟩
abbrev MapN:=MapV Tryz.prog 243 encEnd (fun n : Nat=>Value.int .i64 (n : Int))
theorem MapN.ask {w : World} {m n : Nat} {M : List (PEnd × Nat)} (h : MapN w m n M) (e : PEnd) (h0 : e.item.cls < 65536) (h1 : e.item.sym <= 1000000) (h2 : e.next <= 1000000) (h3 : e.items <= 1000000) :
  (Instr.lookup 248 (.map (some m)) (encEnd e) true).run Tryz.prog w = .ok (.tuple #[orV (fun n : Nat=>Value.int .i64 (n : Int)) (.int .i64 0) (getA e M),.bool (getA e M).isSome]) w:=by
 obtain ⟨kl,hk⟩:=keyOf_end e h0 h1 h2 h3
 exact h.look_ok keyed243 Tryz.underlying248 (zero3 w) e hk
theorem MapN.write {w : World} {m n : Nat} {M : List (PEnd × Nat)} (h : MapN w m n M) (e : PEnd) (v : Nat) (h0 : e.item.cls < 65536) (h1 : e.item.sym <= 1000000) (h2 : e.next <= 1000000) (h3 : e.items <= 1000000) (hlt : n <= 1000000) :
  ∃ w',(Instr.mapUpdate 248 (.map (some m)) (encEnd e) (.int .i64 (v : Int))).run Tryz.prog w = .ok () w' /\ MapN w' m (n + 1) ((e,v) :: M) /\ w.grownBy w' (some m):=by
 obtain ⟨kl,hk⟩:=keyOf_end e h0 h1 h2 h3
 exact h.put keyed243 Tryz.underlying248 (by unfold maxLen; omega) encEnd_inj e v hk
def NumOK (E : List PEnd) (M : List (PEnd × Nat)) : Prop:=∀ e n,getA e M = some n -> n < E.length /\ E.getD n PEnd.zero = e
def natCells (n : Nat) : List Value:=[.int .i64 (n : Int)]
abbrev OwnNats:=OwnL 3 1 natCells anyIn
def endCells (e : PEnd) : List Value:=[.int .u16 (e.item.cls : Int),.int .i64 (e.item.sym : Int),.int .i64 (e.next : Int),.int .i64 (e.items : Int)]
abbrev OwnEnds:=OwnL 243 4 endCells anyIn
theorem any_far {α : Type} : ∀ (P Q : Nat -> Prop) (w w' : World) (a : α),anyIn P w a -> anyIn Q w' a:=fun _ _ _ _ _ h=>h
def ChartC (w : World) (C : Nat) (tv bv ev : Value) (S R : Nat) (rv : Nat -> Value) : Prop:=
 ∃ cs : Array Value,Blk w C 247 cs /\ cs.size = 69 /\ cs[0]? = some tv /\ (∀ s,s < 64 -> cs[1 + s]? = some (rv s)) /\ cs[65]? = some bv /\ cs[66]? = some ev /\ cs[67]? = some (.map (some S)) /\ cs[68]? = some (.map (some R))
section
variable {w w' : World} {C : Nat} {tv bv ev : Value} {S R : Nat} {rv : Nat -> Value}
theorem ChartC.same (h : ChartC w C tv bv ev S R rv) (hb : w'.heap[C]? = w.heap[C]?) : ChartC w' C tv bv ev S R rv:=by
 obtain ⟨cs,h0,h1⟩:=h
 exact ⟨cs,hb.trans h0,h1⟩
theorem ChartC.lt (h : ChartC w C tv bv ev S R rv) : C < w.heap.size:=by
 obtain ⟨cs,h0,h1⟩:=h
 exact h0.lt
theorem ChartC.setRule (h : ChartC w C tv bv ev S R rv) {s : Nat} (hs : s < 64) (v : Value) : ChartC (w.setCell ⟨C,1 + s,none⟩ v) C tv bv ev S R (fun i=>if i = s then v else rv i):=by
 obtain ⟨cs,h0,h1,h2,h3,h4,h5,h6,h7⟩:=h
 refine ⟨cs.setIfInBounds (1 + s) v,h0.set_ _ _,by simp [h1],?_,fun i hi=>?_,?_,?_,?_,?_⟩
 ·rw [Array.getElem?_setIfInBounds_ne (by omega)]; exact h2
 ·simp only
  by_cases e : i = s
  ·subst e
   rw [if_pos rfl,Array.getElem?_setIfInBounds_self_of_lt (by omega)]
  ·rw [if_neg e,Array.getElem?_setIfInBounds_ne (by omega)]; exact h3 i hi
 ·rw [Array.getElem?_setIfInBounds_ne (by omega)]; exact h4
 ·rw [Array.getElem?_setIfInBounds_ne (by omega)]; exact h5
 ·rw [Array.getElem?_setIfInBounds_ne (by omega)]; exact h6
 ·rw [Array.getElem?_setIfInBounds_ne (by omega)]; exact h7
theorem ChartC.setEnd (h : ChartC w C tv bv ev S R rv) (v : Value) : ChartC (w.setCell ⟨C,66,none⟩ v) C tv bv v S R rv:=by
 obtain ⟨cs,h0,h1,h2,h3,h4,h5,h6,h7⟩:=h
 refine ⟨cs.setIfInBounds 66 v,h0.set_ _ _,by simp [h1],?_,fun i hi=>?_,?_,?_,?_,?_⟩
 ·rw [Array.getElem?_setIfInBounds_ne (by omega)]; exact h2
 ·rw [Array.getElem?_setIfInBounds_ne (by omega)]; exact h3 i hi
 ·rw [Array.getElem?_setIfInBounds_ne (by omega)]; exact h4
 ·rw [Array.getElem?_setIfInBounds_self_of_lt (by omega)]
 ·rw [Array.getElem?_setIfInBounds_ne (by omega)]; exact h6
 ·rw [Array.getElem?_setIfInBounds_ne (by omega)]; exact h7
theorem ChartC.cell_rule (h : ChartC w C tv bv ev S R rv) {s : Nat} (hs : s < 64) : w.cell? ⟨C,1 + s,none⟩ = some (rv s):=by
 obtain ⟨cs,h0,h1,h2,h3,_⟩:=h
 rw [h0.cell]; exact h3 s hs
theorem ChartC.cell_beg (h : ChartC w C tv bv ev S R rv) : w.cell? ⟨C,65,none⟩ = some bv:=by
 obtain ⟨cs,h0,h1,h2,h3,h4,_⟩:=h
 rw [h0.cell]; exact h4
theorem ChartC.cell_end (h : ChartC w C tv bv ev S R rv) : w.cell? ⟨C,66,none⟩ = some ev:=by
 obtain ⟨cs,h0,h1,h2,h3,h4,h5,_⟩:=h
 rw [h0.cell]; exact h5
theorem ChartC.frozen (h : ChartC w C tv bv ev S R rv) (i : Nat) : w.frozen? ⟨C,i,none⟩ = false:=by
 obtain ⟨cs,h0,_⟩:=h
 exact h0.frozen i
theorem ChartC.ne_row {base e k n : Nat} {v : Value} {xs : List Value} (h : ChartC w C tv bv ev S R rv) (hr : w.ownsRow base e k v n xs) (he : e ≠ 247) : v.ownBlock ≠ some C:=by
 obtain ⟨cs,h0,_⟩:=h
 intro ho
 rcases hr.2 with ⟨rfl,_⟩ | ⟨g,cap,cur,rfl,_,hg,_⟩
 ·cases ho
 ·simp only [Value.ownBlock,Option.some.injEq] at ho
  subst ho
  rw [show w.heap[g]? = _ from h0] at hg
  simp only [Option.some.injEq,Obj.cells.injEq] at hg
  exact he hg.2.1.symm
end
theorem row_ne_row {w : World} {base base' e e' k k' n n' : Nat} {v v' : Value} {xs xs' : List Value} (h : w.ownsRow base e k v n xs) (h' : w.ownsRow base' e' k' v' n' xs') (he : e ≠ e') : ∀ b,v.ownBlock = some b -> v'.ownBlock ≠ some b:=by
 intro b hb hb'
 rcases h.2 with ⟨rfl,_⟩ | ⟨g,cap,cur,rfl,_,hg,_⟩
 ·cases hb
 ·rcases h'.2 with ⟨rfl,_⟩ | ⟨g',cap',cur',rfl,_,hg',_⟩
  ·cases hb'
  ·simp only [Value.ownBlock,Option.some.injEq] at hb hb'
   subst hb hb'
   rw [hg] at hg'
   simp only [Option.some.injEq,Obj.cells.injEq] at hg'
   exact he hg'.2.1
structure RulesR (B : Nat) (w : World) (rv : Nat -> Value) (ls : Nat -> List Nat) : Prop where
 own : ∀ s,s < 64 -> OwnNats B w (rv s) (ls s)
 ne : ∀ s s',s < 64 -> s' < 64 -> s ≠ s' -> ∀ h,(rv s).ownBlock = some h -> (rv s').ownBlock ≠ some h
theorem RulesR.far {B : Nat} {w w' : World} {rv : Nat -> Value} {ls : Nat -> List Nat} (h : RulesR B w rv ls) (hs : ∀ s g,s < 64 -> (rv s).ownBlock = some g -> w'.heap[g]? = w.heap[g]?) : RulesR B w' rv ls:=
 ⟨fun s hl=>(h.own s hl).far any_far (fun g hg=>hs s g hl hg),h.ne⟩
theorem RulesR.add {B : Nat} {w w' : World} {rv : Nat -> Value} {ls : Nat -> List Nat} (h : RulesR B w rv ls) {L k g m cap : Nat} (hL : L < 64) (hown : w'.ownsRow B 3 1 (.slice (some ⟨g,0,none⟩) m cap) m ((ls L).flatMap natCells ++ natCells k)) (hm : m = (ls L).length + 1)
  (hgr : w.grownBy w' (rv L).ownBlock) (hat : (rv L).ownBlock = some g \/ w.heap.size <= g) : RulesR B w' (fun i=>if i = L then .slice (some ⟨g,0,none⟩) m cap else rv i) (fun s=>if s = L then ls s ++ [k] else ls s):=by
 subst hm
 refine ⟨fun s hs=>?_,fun s s' hs hs' hne b hb hb'=>?_⟩
 ·by_cases e : s = L
  ·subst e
   simp only [if_true]
   exact (h.own s hs).append anyIn_inner trivial hown hgr (hat.imp (fun e=>by rw [e]; rfl) fun e=>⟨g,rfl,e⟩)
  ·simp only [if_neg e]
   exact (h.own s hs).far any_far fun b hb=>hgr.block b ((h.own s hs).1.lt b hb).2 fun e2=>h.ne L s hL hs (Ne.symm e) b e2.symm hb
 ·by_cases e : s = L
  ·subst e
   rw [if_pos rfl] at hb
   rw [if_neg (Ne.symm hne)] at hb'
   simp only [Value.ownBlock,Option.some.injEq] at hb
   subst hb
   rcases hat with e | e
   ·exact h.ne s s' hs hs' hne _ e hb'
   ·have:=((h.own s' hs').1.lt _ hb').2; omega
  ·rw [if_neg e] at hb
   by_cases e' : s' = L
   ·subst e'
    rw [if_pos rfl] at hb'
    simp only [Value.ownBlock,Option.some.injEq] at hb'
    subst hb'
    rcases hat with e2 | e2
    ·exact h.ne s s' hs hs' hne _ hb e2
    ·have:=((h.own s hs).1.lt _ hb).2; omega
   ·rw [if_neg e'] at hb'
    exact h.ne s s' hs hs' hne b hb hb'
theorem symTo_succ (g : List PRule) (s k : Nat) : symTo g s (k + 1) = if s = (g.getD k PRule.zero).left then symTo g s k ++ [k] else symTo g s k:=by
 rw [symTo]
 by_cases h : s = (g.getD k PRule.zero).left
 ·rw [if_pos h,if_pos h.symm]
 ·rw [if_neg h,if_neg (fun e=>h e.symm)]
theorem Chain.mono {E E' : List PEnd} (hE : ∀ i,i < E.length -> E'.getD i PEnd.zero = E.getD i PEnd.zero) (hl : E.length <= E'.length) : ∀ {its : List PItem} {n : Nat},Chain E its n -> Chain E' its n
 | [],n,h=>⟨Nat.lt_of_lt_of_le h.1 hl,by rw [hE n h.1]; exact h.2⟩
 | i :: t,n,h=>⟨Nat.lt_of_lt_of_le h.1 hl,by rw [hE n h.1]; exact h.2.1,by rw [hE n h.1]; exact h.2.2.1,by rw [hE n h.1]; exact Chain.mono hE hl h.2.2.2⟩
theorem getD_snoc_lt {α : Type} (l : List α) (a d : α) (i : Nat) (h : i < l.length) : (l ++ [a]).getD i d = l.getD i d:=by
 rw [List.getD_eq_getElem?_getD,List.getD_eq_getElem?_getD,List.getElem?_append_left h]
theorem getD_snoc_last {α : Type} (l : List α) (a d : α) : (l ++ [a]).getD l.length d = a:=by
 rw [List.getD_eq_getElem?_getD,List.getElem?_append_right (lQ _)]
 simp
theorem Chain.snoc {E : List PEnd} {e : PEnd} {its : List PItem} {n : Nat} (h : Chain E its n) : Chain (E ++ [e]) its n:=Chain.mono (fun i hi=>getD_snoc_lt E e _ i hi) (by simp) h
end
section
open Go Go.RowKit Go.Maps
def RulesP (P : Nat -> Prop) (w : World) (v : Value) (g : List PRule) : Prop:=
 SlP P w v g.length fun b off i=>w.cell? ⟨b,off + i * 2,none⟩ = some (.int .i64 ((g.getD i PRule.zero).left : Int)) /\ ∃ iv,w.cell? ⟨b,off + i * 2 + 1,none⟩ = some iv /\ ItemsP P w iv (g.getD i PRule.zero).right
theorem RulesP.below {P : Nat -> Prop} {w w' : World} {v : Value} {g : List PRule} (h : RulesP P w v g) (hb : Below w.heap.size w w') : RulesP P w' v g:=
 SlP.map h hb.size (fun _ _ h=>h) fun b off i hlt _ _ hr=>⟨(hb.cell (p:=⟨b,off + i * 2,none⟩) hlt).trans hr.1,let ⟨iv,h1,h2⟩:=hr.2; ⟨iv,(hb.cell (p:=⟨b,off + i * 2 + 1,none⟩) hlt).trans h1,h2.keep hb.size (fun b o v _ hc=>(hb.cell (p:=⟨b,o,none⟩) (cell_lt hc)).trans hc) fun _ _ h=>h⟩⟩
theorem ItemsP.below {P : Nat -> Prop} {w w' : World} {v : Value} {l : List PItem} (h : ItemsP P w v l) (hb : Below w.heap.size w w') : ItemsP P w' v l:=h.keep hb.size (fun b o v _ hc=>(hb.cell (p:=⟨b,o,none⟩) (cell_lt hc)).trans hc) fun _ _ h=>h
theorem OwnEnds.sl_ {base : Nat} {w : World} {v : Value} {l : List PEnd} (h : OwnEnds base w v l) {P : Nat -> Prop} (hP : ∀ b,base <= b -> v.ownBlock = some b -> P b) : SlP P w v l.length fun b off i=>EndAt w b (off + i * 4) (l.getD i PEnd.zero):=by
 have hsl:=OwnL.sl h (fun _=>rfl)
 obtain ⟨A,c,hv,hn,hc,hA⟩:=hsl
 refine ⟨A,c,hv,hn,hc,fun h0=>?_⟩
 obtain ⟨b,off,e,hb,hp,hi⟩:=hA h0
 refine ⟨b,off,e,hb,hP b hp (hi 0 h0).2.1.symm,fun i hil=>?_⟩
 have h0:=(hi i hil).2.2 hil 0 (by omega)
 have h1:=(hi i hil).2.2 hil 1 (by omega)
 have h2:=(hi i hil).2.2 hil 2 (by omega)
 have h3:=(hi i hil).2.2 hil 3 (by omega)
 show EndAt w b (off + i * 4) (l.getD i PEnd.zero)
 rw [getD_at _ _ _ hil]
 exact ⟨h0,h1,h2,h3⟩
theorem OwnNats.sl_ {base : Nat} {w : World} {v : Value} {l : List Nat} (h : OwnNats base w v l) {P : Nat -> Prop} (hP : ∀ b,base <= b -> v.ownBlock = some b -> P b) : SlP P w v l.length fun b off i=>w.cell? ⟨b,off + i,none⟩ = some (.int .i64 ((l.getD i 0 : Nat) : Int)):=by
 have hsl:=OwnL.sl h (fun _=>rfl)
 obtain ⟨A,c,hv,hn,hc,hA⟩:=hsl
 refine ⟨A,c,hv,hn,hc,fun h0=>?_⟩
 obtain ⟨b,off,e,hb,hp,hi⟩:=hA h0
 refine ⟨b,off,e,hb,hP b hp (hi 0 h0).2.1.symm,fun i hil=>?_⟩
 have h0:=(hi i hil).2.2 hil 0 (by omega)
 show w.cell? ⟨b,off + i,none⟩ = some (.int .i64 ((l.getD i 0 : Nat) : Int))
 rw [getD_at _ _ _ hil]
 simpa [natCells] using h0
structure NewC (w0 : World) (B : Nat) (C S R N Bg : Nat) (tv : Value) (g : List PRule) (j k : Nat) (E : List PEnd) (n : Nat) (M : List (PEnd × Nat)) (bg : List Nat) (rv : Nat -> Value) (ev : Value) (w : World) : Prop where
 chart : ChartC w C tv (.slice (some ⟨Bg,0,none⟩) g.length g.length) ev S R rv
 rules : RulesR B w rv (fun s=>symTo g s j)
 ends : OwnEnds w0.heap.size w ev E
 endsF : ∀ b,ev.ownBlock = some b -> b ≠ C /\ b ≠ S /\ b ≠ R /\ b ≠ N /\ b ≠ Bg /\ ∀ s,s < 64 -> (rv s).ownBlock ≠ some b
 nums : MapN w N n M
 numOK : NumOK E M
 begs : Blk w Bg 3 (bg.map fun n : Nat=>Value.int .i64 (n : Int)).toArray
 blen : bg.length = g.length
 chn : ∀ r,r < k -> Chain E (ruleOf g r) (bg.getD r 0)
 e0 : 0 < E.length /\ (E.getD 0 PEnd.zero).items = 0
 mS : MapS w S 0 []
 mR : MapS w R 0 []
 below : Below w0.heap.size w0 w
 ge : w0.heap.size <= C /\ w0.heap.size <= S /\ w0.heap.size <= R /\ w0.heap.size <= N /\ w0.heap.size <= Bg
 lt : C < B /\ S < B /\ R < B /\ N < B /\ Bg < B
 Bge : w0.heap.size <= B /\ B <= w.heap.size
 ne : S ≠ R /\ N ≠ S /\ N ≠ R /\ C ≠ Bg /\ C ≠ S /\ C ≠ R /\ C ≠ N /\ N ≠ Bg /\ S ≠ Bg /\ R ≠ Bg
section
variable {w0 : World} {B C S R N Bg : Nat} {tv : Value} {g : List PRule} {j k : Nat} {E : List PEnd} {n : Nat} {M : List (PEnd × Nat)} {bg : List Nat} {rv : Nat -> Value} {ev : Value} {w w' : World}
theorem NewC.keep (h : NewC w0 B C S R N Bg tv g j k E n M bg rv ev w) (hb : Below w.heap.size w w') :
  NewC w0 B C S R N Bg tv g j k E n M bg rv ev w':=
 { h with
  chart:=h.chart.same (hb.block _ h.chart.lt)
  rules:=h.rules.far fun s b hs e=>hb.block b ((h.rules.own s hs).1.lt b e).2
  ends:=h.ends.far any_far fun b e=>hb.block b (h.ends.1.lt b e).2
  nums:=h.nums.same (hb.block _ h.nums.lt)
  begs:=h.begs.below hb h.begs.lt
  mS:=h.mS.same (hb.block _ h.mS.lt)
  mR:=h.mR.same (hb.block _ h.mR.lt)
  below:=h.below.trans (hb.mono h.below.size)
  Bge:=⟨h.Bge.1,Nat.le_trans h.Bge.2 hb.size⟩ }
theorem below_grown {B0 : Nat} {row : Option Nat} (hb : Below B0 w0 w) (h0 : B0 <= w0.heap.size) (hg : w.grownBy w' row) (hr : ∀ b,row = some b -> B0 <= b) : Below B0 w0 w':=
 hb.trans ⟨hg.os,hg.tape,hg.output,hg.size,fun i hi=>hg.block i (Nat.lt_of_lt_of_le hi (Nat.le_trans h0 hb.size)) fun e=>by have:=hr i e.symm; omega⟩
theorem below_setc {B0 : Nat} (hb : Below B0 w0 w) {b i : Nat} (h : B0 <= b) (v : Value) : Below B0 w0 (w.setCell ⟨b,i,none⟩ v):=
 hb.trans ⟨rfl,rfl,rfl,by simp [World.setCell],fun k hk=>Below.heap_setCell w ⟨b,i,none⟩ v k (by show k ≠ b; omega)⟩
theorem NewC.rule_ne (h : NewC w0 B C S R N Bg tv g j k E n M bg rv ev w) {s : Nat} (hs : s < 64) : ∀ b,(rv s).ownBlock = some b -> B <= b:=fun b e=>((h.rules.own s hs).1.lt b e).1
theorem NewC.addRule (h : NewC w0 B C S R N Bg tv g j k E n M bg rv ev w) {L : Nat} (hL : L < 64) (hLe : (g.getD j PRule.zero).left = L) {g9 m cap : Nat}
  (hown : w'.ownsRow B 3 1 (.slice (some ⟨g9,0,none⟩) m cap) m ((symTo g L j).flatMap natCells ++ natCells j)) (hm : m = (symTo g L j).length + 1)
  (hgr : w.grownBy w' (rv L).ownBlock) (hat : (rv L).ownBlock = some g9 \/ w.heap.size <= g9) :
  NewC w0 B C S R N Bg tv g (j + 1) k E n M bg (fun i=>if i = L then .slice (some ⟨g9,0,none⟩) m cap else rv i) ev (w'.setCell ⟨C,1 + L,none⟩ (.slice (some ⟨g9,0,none⟩) m cap)):=by
 have hB:=h.lt
 have hr : ∀ b,(rv L).ownBlock = some b -> B <= b:=h.rule_ne hL
 have hfar : ∀ b,b < w.heap.size -> (rv L).ownBlock ≠ some b -> b ≠ C -> (w'.setCell ⟨C,1 + L,none⟩ (.slice (some ⟨g9,0,none⟩) m cap)).heap[b]? = w.heap[b]?:=fun b hb h1 h2=>
  (Below.heap_setCell w' ⟨C,1 + L,none⟩ _ b h2).trans (hgr.block b hb (fun e=>h1 e.symm))
 have hlow : ∀ b,b < B -> b ≠ C -> (w'.setCell ⟨C,1 + L,none⟩ (.slice (some ⟨g9,0,none⟩) m cap)).heap[b]? = w.heap[b]?:=fun b hb h2=>
  hfar b (Nat.lt_of_lt_of_le hb h.Bge.2) (fun e=>by have:=hr b e; omega) h2
 have hrl:=h.rules.add hL hown hm hgr hat
 refine { h with chart:=?_,rules:=?_,ends:=?_,endsF:=?_,nums:=?_,begs:=?_,mS:=?_,mR:=?_,below:=?_,Bge:=?_ }
 ·exact (h.chart.same (hgr.block C h.chart.lt (fun e=>by have:=hr C e.symm; omega))).setRule hL _
 ·have e : (fun s=>symTo g s (j + 1)) = fun s=>if s = L then symTo g s j ++ [j] else symTo g s j:=by
   funext s
   rw [symTo_succ,hLe]
  rw [e]
  refine RulesR.far hrl fun s b hs hb=>Below.heap_setCell w' ⟨C,1 + L,none⟩ _ b ?_
  have:=((hrl.own s hs).1.lt b hb).1
  show b ≠ C
  omega
 ·exact h.ends.far any_far fun b hb=>hfar b (h.ends.1.lt b hb).2 ((h.endsF b hb).2.2.2.2.2 L hL) (h.endsF b hb).1
 ·intro b hb
  obtain ⟨f1,f2,f3,f4,f5,f6⟩:=h.endsF b hb
  refine ⟨f1,f2,f3,f4,f5,fun s hs=>?_⟩
  by_cases e : s = L
  ·rw [if_pos e]
   intro e2
   simp only [Value.ownBlock,Option.some.injEq] at e2
   subst e2
   rcases hat with e3 | e3
   ·exact f6 L hL e3
   ·have:=(h.ends.1.lt _ hb).2; omega
  ·rw [if_neg e]; exact f6 s hs
 ·exact h.nums.same (hlow N hB.2.2.2.1 (fun e=>h.ne.2.2.2.2.2.2.1 e.symm))
 ·exact (hlow Bg hB.2.2.2.2 (fun e=>h.ne.2.2.2.1 e.symm)).trans h.begs
 ·exact h.mS.same (hlow S hB.2.1 (fun e=>h.ne.2.2.2.2.1 e.symm))
 ·exact h.mR.same (hlow R hB.2.2.1 (fun e=>h.ne.2.2.2.2.2.1 e.symm))
 ·exact below_setc (below_grown h.below (lQ _) hgr fun b e=>Nat.le_trans h.Bge.1 (hr b e)) h.ge.1 _
 ·refine ⟨h.Bge.1,Nat.le_trans h.Bge.2 ?_⟩
  simp [World.setCell]
  exact hgr.size
theorem NewC.addEnd (h : NewC w0 B C S R N Bg tv g j k E n M bg rv ev w) {e : PEnd} {g9 m cap : Nat}
  (hown : w'.ownsRow w0.heap.size 243 4 (.slice (some ⟨g9,0,none⟩) m cap) m (E.flatMap endCells ++ endCells e)) (hm : m = E.length + 1)
  (hgr : w.grownBy w' ev.ownBlock) (hat : ev.ownBlock = some g9 \/ w.heap.size <= g9) :
  NewC w0 B C S R N Bg tv g j k (E ++ [e]) n M bg rv (.slice (some ⟨g9,0,none⟩) m cap) (w'.setCell ⟨C,66,none⟩ (.slice (some ⟨g9,0,none⟩) m cap)):=by
 subst hm
 have hB:=h.lt
 have hfar : ∀ b,b < w.heap.size -> ev.ownBlock ≠ some b -> b ≠ C -> (w'.setCell ⟨C,66,none⟩ (.slice (some ⟨g9,0,none⟩) (E.length + 1) cap)).heap[b]? = w.heap[b]?:=fun b hb h1 h2=>
  (Below.heap_setCell w' ⟨C,66,none⟩ _ b h2).trans (hgr.block b hb (fun e=>h1 e.symm))
 have hF : ∀ b,b = C \/ b = S \/ b = R \/ b = N \/ b = Bg -> ev.ownBlock ≠ some b:=fun b hb e=>by
  have:=h.endsF b e
  omega
 have hG : g9 ≠ C /\ g9 ≠ S /\ g9 ≠ R /\ g9 ≠ N /\ g9 ≠ Bg /\ ∀ s,s < 64 -> (rv s).ownBlock ≠ some g9:=by
  rcases hat with e3 | e3
  ·exact h.endsF _ e3
  ·have:=h.Bge.2
   refine ⟨by omega,by omega,by omega,by omega,by omega,fun s hs e4=>?_⟩
   have:=((h.rules.own s hs).1.lt _ e4).2
   omega
 have hsz:=h.Bge.2
 have hown2:=h.ends.append anyIn_inner trivial hown hgr (hat.imp (fun e=>by rw [e]; rfl) fun e=>⟨g9,rfl,e⟩)
 refine { h with chart:=?_,rules:=?_,ends:=?_,endsF:=?_,nums:=?_,numOK:=?_,begs:=?_,chn:=?_,e0:=?_,mS:=?_,mR:=?_,below:=?_,Bge:=?_ }
 ·exact (h.chart.same (hgr.block C h.chart.lt (fun e=>hF C (.inl rfl) e.symm))).setEnd _
 ·refine h.rules.far fun s b hs hb=>hfar b ((h.rules.own s hs).1.lt b hb).2 (fun e=>(h.endsF b e).2.2.2.2.2 s hs hb) ?_
  have:=h.rule_ne hs b hb
  omega
 ·exact hown2.far any_far fun b hb=>Below.heap_setCell w' ⟨C,66,none⟩ _ b (by
   simp only [Value.ownBlock,Option.some.injEq] at hb
   subst hb
   exact hG.1)
 ·intro b hb
  simp only [Value.ownBlock,Option.some.injEq] at hb
  subst hb
  exact hG
 ·exact h.nums.same (hfar N (by omega) (hF N (by simp)) (fun e=>h.ne.2.2.2.2.2.2.1 e.symm))
 ·intro x i hx
  have:=h.numOK x i hx
  exact ⟨by simp; omega,by rw [getD_snoc_lt _ _ _ _ this.1]; exact this.2⟩
 ·exact (hfar Bg (by omega) (hF Bg (by simp)) (fun e=>h.ne.2.2.2.1 e.symm)).trans h.begs
 ·exact fun r hr=>(h.chn r hr).snoc
 ·exact ⟨by simp,by rw [getD_snoc_lt _ _ _ _ h.e0.1]; exact h.e0.2⟩
 ·exact h.mS.same (hfar S (by omega) (hF S (by simp)) (fun e=>h.ne.2.2.2.2.1 e.symm))
 ·exact h.mR.same (hfar R (by omega) (hF R (by simp)) (fun e=>h.ne.2.2.2.2.2.1 e.symm))
 ·exact below_setc (below_grown h.below (lQ _) hgr fun b e=>(h.ends.1.lt b e).1) h.ge.1 _
 ·refine ⟨h.Bge.1,Nat.le_trans h.Bge.2 ?_⟩
  simp [World.setCell]
  exact hgr.size
theorem NewC.addNum (h : NewC w0 B C S R N Bg tv g j k E n M bg rv ev w) {e : PEnd} {i n' : Nat} (hn : MapN w' N n' ((e,i) :: M)) (hg : w.grownBy w' (some N)) (hi : i < E.length) (he : E.getD i PEnd.zero = e) :
  NewC w0 B C S R N Bg tv g j k E n' ((e,i) :: M) bg rv ev w':=by
 have hB:=h.lt
 have hsz:=h.Bge.2
 have hfar : ∀ b,b < w.heap.size -> b ≠ N -> w'.heap[b]? = w.heap[b]?:=fun b hb h1=>hg.block b hb (fun e=>h1 (Option.some.inj e))
 refine { h with chart:=?_,rules:=?_,ends:=?_,nums:=hn,numOK:=?_,begs:=?_,mS:=?_,mR:=?_,below:=?_,Bge:=?_ }
 ·exact h.chart.same (hfar C (by omega) h.ne.2.2.2.2.2.2.1)
 ·refine h.rules.far fun s b hs hb=>hfar b ((h.rules.own s hs).1.lt b hb).2 ?_
  have:=h.rule_ne hs b hb
  omega
 ·exact h.ends.far any_far fun b hb=>hfar b (h.ends.1.lt b hb).2 (h.endsF b hb).2.2.2.1
 ·intro x i' hx
  unfold getA at hx
  split at hx
  ·rename_i e1
   simp only [Option.some.injEq] at hx
   subst hx
   exact ⟨hi,by rw [he]; first | exact e1 | exact e1.symm⟩
  ·exact h.numOK x i' hx
 ·exact (hfar Bg (by omega) (fun e=>h.ne.2.2.2.2.2.2.2.1 e.symm)).trans h.begs
 ·exact h.mS.same (hfar S (by omega) (fun e=>h.ne.2.1 e.symm))
 ·exact h.mR.same (hfar R (by omega) (fun e=>h.ne.2.2.1 e.symm))
 ·exact below_grown h.below (lQ _) hg fun b e=>by have:=Option.some.inj e; have:=h.ge; omega
 ·exact ⟨h.Bge.1,Nat.le_trans h.Bge.2 hg.size⟩
theorem NewC.setBeg (h : NewC w0 B C S R N Bg tv g j k E n M bg rv ev w) {nx : Nat} (hk : k < g.length) (hc : Chain E (ruleOf g k) nx) :
  NewC w0 B C S R N Bg tv g j (k + 1) E n M (bg.set k nx) rv ev (w.setCell ⟨Bg,k,none⟩ (.int .i64 (nx : Int))):=by
 have hB:=h.lt
 have hsz:=h.Bge.2
 have hfar : ∀ b,b ≠ Bg -> (w.setCell ⟨Bg,k,none⟩ (.int .i64 (nx : Int))).heap[b]? = w.heap[b]?:=fun b h1=>Below.heap_setCell w ⟨Bg,k,none⟩ _ b h1
 refine { h with chart:=?_,rules:=?_,ends:=?_,nums:=?_,begs:=?_,blen:=?_,chn:=?_,mS:=?_,mR:=?_,below:=?_,Bge:=?_ }
 ·exact h.chart.same (hfar C h.ne.2.2.2.1)
 ·refine h.rules.far fun s b hs hb=>hfar b ?_
  have:=h.rule_ne hs b hb
  omega
 ·exact h.ends.far any_far fun b hb=>hfar b (h.endsF b hb).2.2.2.2.1
 ·exact h.nums.same (hfar N h.ne.2.2.2.2.2.2.2.1)
 ·have:=h.begs.set_ k (.int .i64 (nx : Int))
  rw [List.map_set]
  simpa using this
 ·simp [h.blen]
 ·intro r hr
  by_cases e : r = k
  ·subst e
   rw [List.getD_eq_getElem?_getD,List.getElem?_set_self (by rw [h.blen]; exact hk)]
   exact hc
  ·rw [List.getD_eq_getElem?_getD,List.getElem?_set_ne (by omega),<- List.getD_eq_getElem?_getD]
   exact h.chn r (by omega)
 ·exact h.mS.same (hfar S h.ne.2.2.2.2.2.2.2.2.1)
 ·exact h.mR.same (hfar R h.ne.2.2.2.2.2.2.2.2.2)
 ·exact below_setc h.below h.ge.2.2.2.2 _
 ·exact ⟨h.Bge.1,by simp [World.setCell]; exact h.Bge.2⟩
end
end
end Go.Proofs.YteclineblddpbaaGreatDoorR
