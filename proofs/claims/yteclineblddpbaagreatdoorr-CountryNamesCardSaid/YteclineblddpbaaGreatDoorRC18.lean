import Derived.Test.YteclineblddpbaaGreatDoorRC01
import Derived.Test.YteclineblddpbaaGreatDoorRC11
import Derived.Test.YteclineblddpbaaGreatDoorRC12
import Derived.Test.YteclineblddpbaaGreatDoorRC14
import Derived.Test.YteclineblddpbaaGreatDoorRC17
import Derived.Lib.IndexBytes
set_option linter.all false
set_option maxRecDepth 100000
set_option maxHeartbeats 0
namespace Go.Proofs.YteclineblddpbaaGreatDoorR
section
open Go Go.RowKit
def lineRule (l : List PWord) : PRule:=⟨(l.getD 0 PWord.zero).sym,l.tail.map fun w=>⟨w.cls,w.sym⟩⟩
def lineParts (l : List PWord) : List Nat:=l.tail.map (·.part)
structure ItemAt (w : World) (b o : Nat) (i : PItem) : Prop where
 c0 : w.cell? ⟨b,o,none⟩ = some (.int .u16 (i.cls : Int))
 c1 : w.cell? ⟨b,o + 1,none⟩ = some (.int .i64 (i.sym : Int))
def ItemsP (P : Nat -> Prop) (w : World) (v : Value) (l : List PItem) : Prop:=SlP P w v l.length fun b off i=>ItemAt w b (off + i * 2) (l.getD i PItem.zero)
def BytesP (P : Nat -> Prop) (w : World) (v : Value) (l : List Nat) : Prop:=SlP P w v l.length fun b off i=>w.cell? ⟨b,off + i,none⟩ = some (.int .u8 ((l.getD i 0 : Nat) : Int))
def itemCells (i : PItem) : List Value:=[.int .u16 (i.cls : Int),.int .i64 (i.sym : Int)]
def byteCells (n : Nat) : List Value:=[.int .u8 (n : Int)]
def anyIn {α : Type} (_ : Nat -> Prop) (_ : World) (_ : α) : Prop:=True
theorem anyIn_inner {α : Type} : Inner (anyIn (α:=α)):=⟨fun h _ _=>h⟩
abbrev OwnItems:=OwnL 76 2 itemCells anyIn
abbrev OwnBytes:=OwnL 5 1 byteCells anyIn
theorem OwnItems.sl_ {base : Nat} {w : World} {v : Value} {l : List PItem} (h : OwnItems base w v l) {P : Nat -> Prop} (hP : ∀ b,base <= b -> v.ownBlock = some b -> P b) : ItemsP P w v l:=by
 have hsl:=OwnL.sl h (fun _=>rfl)
 obtain ⟨A,c,hv,hn,hc,hA⟩:=hsl
 refine ⟨A,c,hv,hn,hc,fun h0=>?_⟩
 obtain ⟨b,off,e,hb,hp,hi⟩:=hA h0
 refine ⟨b,off,e,hb,hP b hp (hi 0 h0).2.1.symm,fun i hil=>?_⟩
 have h0:=(hi i hil).2.2 hil 0 (by omega)
 have h1:=(hi i hil).2.2 hil 1 (by omega)
 show ItemAt w b (off + i * 2) (l.getD i PItem.zero)
 rw [getD_at _ _ _ hil]
 exact ⟨h0,h1⟩
theorem OwnBytes.sl_ {base : Nat} {w : World} {v : Value} {l : List Nat} (h : OwnBytes base w v l) {P : Nat -> Prop} (hP : ∀ b,base <= b -> v.ownBlock = some b -> P b) : BytesP P w v l:=by
 have hsl:=OwnL.sl h (fun _=>rfl)
 obtain ⟨A,c,hv,hn,hc,hA⟩:=hsl
 refine ⟨A,c,hv,hn,hc,fun h0=>?_⟩
 obtain ⟨b,off,e,hb,hp,hi⟩:=hA h0
 refine ⟨b,off,e,hb,hP b hp (hi 0 h0).2.1.symm,fun i hil=>?_⟩
 have h0:=(hi i hil).2.2 hil 0 (by omega)
 show w.cell? ⟨b,off + i,none⟩ = some (.int .u8 ((l.getD i 0 : Nat) : Int))
 rw [getD_at _ _ _ hil]
 simpa [byteCells] using h0
theorem SlP.cellKeep {P Q : Nat -> Prop} {w w' : World} {v : Value} {n : Nat} {R R' : Nat -> Nat -> Nat -> Prop} (h : SlP P w v n R) (hs : w.heap.size <= w'.heap.size) (hq : ∀ b,b < w.heap.size -> P b -> Q b) (hR : ∀ b off i,P b -> R b off i -> R' b off i) : SlP Q w' v n R':=
 SlP.map h hs hq fun b off i _ hp _ hr=>hR b off i hp hr
theorem ItemsP.keep {P Q : Nat -> Prop} {w w' : World} {v : Value} {l : List PItem} (h : ItemsP P w v l) (hs : w.heap.size <= w'.heap.size) (hc : ∀ b o v,P b -> w.cell? ⟨b,o,none⟩ = some v -> w'.cell? ⟨b,o,none⟩ = some v) (hq : ∀ b,b < w.heap.size -> P b -> Q b) : ItemsP Q w' v l:=
 SlP.cellKeep h hs hq fun b _ _ hp hr=>⟨hc b _ _ hp hr.c0,hc b _ _ hp hr.c1⟩
theorem BytesP.keep {P Q : Nat -> Prop} {w w' : World} {v : Value} {l : List Nat} (h : BytesP P w v l) (hs : w.heap.size <= w'.heap.size) (hc : ∀ b o v,P b -> w.cell? ⟨b,o,none⟩ = some v -> w'.cell? ⟨b,o,none⟩ = some v) (hq : ∀ b,b < w.heap.size -> P b -> Q b) : BytesP Q w' v l:=
 SlP.cellKeep h hs hq fun b _ _ hp hr=>hc b _ _ hp hr
structure MRule where
 left : Nat
 v : Value
 right : List PItem
structure MPart where
 v : Value
 ks : List Nat
def mrCells (r : MRule) : List Value:=[.int .i64 (r.left : Int),r.v]
def mpCells (r : MPart) : List Value:=[r.v]
abbrev OwnMR:=OwnL 74 2 mrCells anyIn
abbrev OwnMP:=OwnL 77 1 mpCells anyIn
def MRule.rule (r : MRule) : PRule:=⟨r.left,r.right⟩
def offRows (B : Nat) (rv pv : Value) (b : Nat) : Prop:=B <= b /\ some b ≠ rv.ownBlock /\ some b ≠ pv.ownBlock
structure GramAt (B : Nat) (w : World) (rv pv : Value) (rs : List MRule) (ps : List MPart) : Prop where
 own : OwnMR B w rv rs
 ownp : OwnMP B w pv ps
 ne : ∀ h,rv.ownBlock = some h -> pv.ownBlock ≠ some h
 inr : ∀ r ∈ rs,ItemsP (offRows B rv pv) w r.v r.right
 inp : ∀ p ∈ ps,BytesP (offRows B rv pv) w p.v p.ks
theorem GramAt.keep {B : Nat} {w w' : World} {rv pv : Value} {rs : List MRule} {ps : List MPart} (h : GramAt B w rv pv rs ps) (hk : Keeps (fun b=>B <= b) w w') : GramAt B w' rv pv rs ps:=
 ⟨h.own.keep anyIn_inner hk,h.ownp.keep anyIn_inner hk,h.ne,fun r hr=>(h.inr r hr).keep hk.size (fun b o v hp hc=>(hk.cell (cell_lt hc) hp.1).trans hc) fun _ _ h=>h,
  fun p hp=>(h.inp p hp).keep hk.size (fun b o v hp hc=>(hk.cell (cell_lt hc) hp.1).trans hc) fun _ _ h=>h⟩
theorem grown_cell {w w' : World} {row : Option Nat} (hg : w.grownBy w' row) {b o : Nat} {v : Value} (hb : some b ≠ row) (hc : w.cell? ⟨b,o,none⟩ = some v) : w'.cell? ⟨b,o,none⟩ = some v:=
 (World.cell?_of_block (hg.block b (cell_lt hc) hb)).trans hc
theorem GramAt.addRule {B : Nat} {w w' : World} {rv pv : Value} {rs : List MRule} {ps : List MPart} (h : GramAt B w rv pv rs ps) {g m cap : Nat} {r : MRule} (hr : ItemsP (offRows B rv pv) w r.v r.right)
  (hown : w'.ownsRow B 74 2 (.slice (some ⟨g,0,none⟩) m cap) m (rs.flatMap mrCells ++ mrCells r)) (hm : m = rs.length + 1) (hgr : w.grownBy w' rv.ownBlock) (hat : rv.ownBlock = some g \/ w.heap.size <= g) :
  GramAt B w' (.slice (some ⟨g,0,none⟩) m cap) pv (rs ++ [r]) ps:=by
 subst hm
 have hpl : ∀ h',pv.ownBlock = some h' -> B <= h' /\ h' < w.heap.size:=fun h' e=>h.ownp.1.lt h' e
 have hq : ∀ b,b < w.heap.size -> offRows B rv pv b -> offRows B (.slice (some ⟨g,0,none⟩) (rs.length + 1) cap) pv b:=fun b hb hp=>⟨hp.1,fun e=>by
  simp only [Value.ownBlock,Option.some.injEq] at e
  rcases hat with e' | e'
  ·exact hp.2.1 (by rw [e',e])
  ·omega,hp.2.2⟩
 refine ⟨h.own.append anyIn_inner trivial hown hgr (hat.imp (fun e=>by rw [e]; rfl) fun e=>⟨g,rfl,e⟩),?_,fun h' e e2=>?_,fun x hx=>?_,fun x hx=>?_⟩
 ·exact h.ownp.far (fun _ _ _ _ _ h=>h) fun h' e=>hgr.block h' (hpl h' e).2 fun e2=>h.ne h' e2.symm e
 ·simp only [Value.ownBlock,Option.some.injEq] at e
  subst e
  rcases hat with e' | e'
  ·exact h.ne _ e' e2
  ·have:=hpl _ e2; omega
 ·rcases List.mem_append.1 hx with hx | hx
  ·exact (h.inr x hx).keep hgr.size (fun b o v hp hc=>grown_cell hgr hp.2.1 hc) hq
  ·rw [mS.1 hx]
   exact hr.keep hgr.size (fun b o v hp hc=>grown_cell hgr hp.2.1 hc) hq
 ·exact (h.inp x hx).keep hgr.size (fun b o v hp hc=>grown_cell hgr hp.2.1 hc) hq
theorem GramAt.addPart {B : Nat} {w w' : World} {rv pv : Value} {rs : List MRule} {ps : List MPart} (h : GramAt B w rv pv rs ps) {g m cap : Nat} {r : MPart} (hr : BytesP (offRows B rv pv) w r.v r.ks)
  (hown : w'.ownsRow B 77 1 (.slice (some ⟨g,0,none⟩) m cap) m (ps.flatMap mpCells ++ mpCells r)) (hm : m = ps.length + 1) (hgr : w.grownBy w' pv.ownBlock) (hat : pv.ownBlock = some g \/ w.heap.size <= g) :
  GramAt B w' rv (.slice (some ⟨g,0,none⟩) m cap) rs (ps ++ [r]):=by
 subst hm
 have hpl : ∀ h',rv.ownBlock = some h' -> B <= h' /\ h' < w.heap.size:=fun h' e=>h.own.1.lt h' e
 have hq : ∀ b,b < w.heap.size -> offRows B rv pv b -> offRows B rv (.slice (some ⟨g,0,none⟩) (ps.length + 1) cap) b:=fun b hb hp=>⟨hp.1,hp.2.1,fun e=>by
  simp only [Value.ownBlock,Option.some.injEq] at e
  rcases hat with e' | e'
  ·exact hp.2.2 (by rw [e',e])
  ·omega⟩
 refine ⟨?_,h.ownp.append anyIn_inner trivial hown hgr (hat.imp (fun e=>by rw [e]; rfl) fun e=>⟨g,rfl,e⟩),fun h' e e2=>?_,fun x hx=>?_,fun x hx=>?_⟩
 ·exact h.own.far (fun _ _ _ _ _ h=>h) fun h' e=>hgr.block h' (hpl h' e).2 fun e2=>h.ne h' e e2.symm
 ·simp only [Value.ownBlock,Option.some.injEq] at e2
  subst e2
  rcases hat with e' | e'
  ·exact h.ne _ e e'
  ·have:=hpl _ e; omega
 ·exact (h.inr x hx).keep hgr.size (fun b o v hp hc=>grown_cell hgr hp.2.2 hc) hq
 ·rcases List.mem_append.1 hx with hx | hx
  ·exact (h.inp x hx).keep hgr.size (fun b o v hp hc=>grown_cell hgr hp.2.2 hc) hq
  ·rw [mS.1 hx]
   exact hr.keep hgr.size (fun b o v hp hc=>grown_cell hgr hp.2.2 hc) hq
def LinesP (P : Nat -> Prop) (w : World) (v : Value) (ls : List (Value × List PWord)) : Prop:=SlP P w v ls.length fun b off i=>w.cell? ⟨b,off + i,none⟩ = some (ls.getD i (.slice none 0 0,[])).1 /\ WordsP P w (ls.getD i (.slice none 0 0,[])).1 (ls.getD i (.slice none 0 0,[])).2
theorem OwnWL.sl_ {base : Nat} {w : World} {v : Value} {l : List (Value × List PWord)} (h : OwnWL base w v l) {P : Nat -> Prop} (hP : ∀ b,base <= b -> P b) : LinesP P w v l:=by
 have hsl:=OwnL.sl h (fun _=>rfl)
 exact SlP.map hsl (lQ _) (fun b _ hb=>hP b hb) fun b off i _ _ hi hr=>by
  have h0:=hr.2.2 hi 0 (by omega)
  have h1:=h.2 l[i] (List.getElem_mem hi)
  rw [getD_at _ _ _ hi]
  refine ⟨by simpa [wlCells] using h0,wlIn_innerC.keep (a:=l[i]) h1 (lQ _) (fun _ _ _ _ h=>h) fun b _ hb=>hP b hb.1⟩
theorem WordsP.below {P : Nat -> Prop} {w w' : World} {v : Value} {l : List PWord} (h : WordsP P w v l) (hb : Below w.heap.size w w') : WordsP P w' v l:=wlIn_innerC.inner.keep (a:=(v,l)) h (Keeps.of_below hb _) fun _ _ h=>h
theorem LinesP.below {P : Nat -> Prop} {w w' : World} {v : Value} {l : List (Value × List PWord)} (h : LinesP P w v l) (hb : Below w.heap.size w w') : LinesP P w' v l:=
 SlP.map h hb.size (fun _ _ h=>h) fun _ _ _ hb' _ _ hr=>⟨(hb.cell (p:=⟨_,_,none⟩) hb').trans hr.1,WordsP.below hr.2 hb⟩
end
section
open Go Go.RowKit
def splitL (c : UInt8) : List UInt8 -> List (List UInt8)
 | []=>[[]]
 | b :: t=>if b = c then [] :: splitL c t else match splitL c t with
  | []=>[[b]]
  | h :: r=>(b :: h) :: r
theorem splitL_pos (c : UInt8) : ∀ l,splitL c l ≠ []
 | []=>by simp [splitL]
 | b :: t=>by
  rw [splitL]
  split
  ·simp
  ·split <;> simp
theorem splitL_none {c : UInt8} : ∀ {l : List UInt8},Lib.indexByte l c < 0 -> splitL c l = [l]
 | [],_=>rfl
 | b :: t,h=>by
  rw [Lib.indexByte] at h
  split at h
  ·omega
  ·rename_i hb
   have hge:=Lib.indexByte_ge t c
   split at h
   ·rename_i h1
    have h1' : Lib.indexByte t c = -1:=by simpa using h1
    rw [splitL,if_neg (by simpa using hb),splitL_none (by omega)]
   ·rename_i h1
    have h1' : ¬ Lib.indexByte t c = -1:=by simpa using h1
    omega
theorem splitL_some {c : UInt8} : ∀ {l : List UInt8},¬ Lib.indexByte l c < 0 -> splitL c l = l.take (Lib.indexByte l c).toNat :: splitL c (l.drop ((Lib.indexByte l c).toNat + 1))
 | [],h=>absurd (show (-1 : Int) < 0 by decide) h
 | b :: t,h=>by
  rw [Lib.indexByte] at h ⊢
  by_cases hb : b = c
  ·subst hb
   simp [splitL]
  ·have hb' : (b == c) = false:=by simpa using hb
   rw [hb'] at h ⊢
   simp only [Bool.false_eq_true,if_false] at h ⊢
   have hge:=Lib.indexByte_ge t c
   by_cases h1 : Lib.indexByte t c = -1
   ·rw [h1] at h; simp at h
   ·have h1' : (Lib.indexByte t c == -1) = false:=by simpa using h1
    rw [h1']
    simp only [Bool.false_eq_true,if_false]
    have hpos : ¬ Lib.indexByte t c < 0:=by omega
    have ih:=splitL_some hpos
    rw [splitL,if_neg hb,ih]
    have e : (Lib.indexByte t c + 1).toNat = (Lib.indexByte t c).toNat + 1:=by omega
    rw [e]
    rfl
def mkB (l : List UInt8) : ByteArray:=⟨l.toArray⟩
theorem mkB_data (s : ByteArray) : mkB s.data.toList = s:=by cases s; simp [mkB]
theorem extract_mk (s : ByteArray) (i j : Nat) : s.extract i j = mkB ((s.data.toList.take j).drop i):=by
 apply ByteArray.ext
 rw [ByteArray.data_extract]
 apply Array.ext'
 rw [Array.toList_extract]
 simp [mkB,List.extract,List.drop_take]
theorem piecesF_split (c : UInt8) : ∀ (k : Nat) (s : ByteArray),s.size <= k -> piecesF c k s = (splitL c s.data.toList).map mkB
 | 0,s,h=>by
  have : s.data.toList = []:=by
   apply List.eq_nil_of_length_eq_zero
   have : s.data.toList.length = s.size:=by simp
   omega
  rw [piecesF,this]
  simp only [splitL,List.map_cons,List.map_nil]
  rw [<- this,mkB_data]
 | k + 1,s,h=>by
  rw [piecesF]
  have hsz : s.data.toList.length = s.size:=by simp
  by_cases hi : Lib.indexByte s.data.toList c < 0
  ·rw [if_pos hi,splitL_none hi,List.map_cons,List.map_nil,mkB_data]
  ·rw [if_neg hi,splitL_some hi,List.map_cons]
   have hlt:=indexByte_lt s.data.toList c
   congr 1
   ·rw [extract_mk,dZ]
   ·have e : (s.extract ((Lib.indexByte s.data.toList c).toNat + 1) s.size).data.toList = s.data.toList.drop ((Lib.indexByte s.data.toList c).toNat + 1):=by
     rw [extract_mk,<- hsz,List.take_length]
     simp [mkB]
    rw [piecesF_split c k _ (by rw [ByteArray.size_extract]; omega),e]
theorem pieces_split (s : ByteArray) (c : UInt8) : pieces s c = (splitL c s.data.toList).map mkB:=piecesF_split c _ s (lQ _)
def findLTo (l : List UInt8) : List PWord -> PWord
 | []=>PWord.zero
 | w :: t=>if w.text.data.toList = l then w else findLTo l t
theorem findTo_list (s : ByteArray) : ∀ t,findTo s t = findLTo s.data.toList t
 | []=>rfl
 | w :: t=>by
  rw [findTo,findLTo,findTo_list s t]
  have : (w.text = s) ↔ (w.text.data.toList = s.data.toList):=⟨fun h=>by rw [h],fun h=>by rw [<- mkB_data w.text,<- mkB_data s,h]⟩
  by_cases h : w.text = s
  ·rw [if_pos h,if_pos (this.1 h)]
  ·rw [if_neg h,if_neg (fun h'=>h (this.2 h'))]
theorem mkB_list (l : List UInt8) : (mkB l).data.toList = l:=by simp [mkB]
theorem lines_list (s : ByteArray) : (pieces s 59).map lineW = (splitL 59 s.data.toList).map fun x=>(splitL 32 x).map fun y=>findLTo y wtable:=by
 rw [pieces_split,List.map_map]
 refine List.map_congr_left fun x _=>?_
 show lineW (mkB x) = _
 unfold lineW
 rw [pieces_split,mkB_list,List.map_map]
 refine List.map_congr_left fun y _=>?_
 show findTo (mkB y) wtable = _
 rw [findTo_list,mkB_list]
end
section
open Go.RowKit Go.Maps
theorem occ_index {s sub : List UInt8} (q : Nat) : Lib.occAt s sub q = true -> q <= s.length -> ∃ j : Nat,Lib.index s sub = j /\ j <= q /\ Lib.occAt s sub j = true:=by
 induction q using Nat.strongRecOn with
 | ind q ih=>
  intro h hq
  by_cases hex : ∃ i,i < q /\ Lib.occAt s sub i = true
  ·obtain ⟨i,hi,ho⟩:=hex
   obtain ⟨j,h1,h2,h3⟩:=ih i hi ho (by omega)
   exact ⟨j,h1,by omega,h3⟩
  ·exact ⟨q,Lib.index_first hq h (fun j hj=>by
    cases hb : Lib.occAt s sub j
    ·rfl
    ·exact absurd ⟨j,hj,hb⟩ hex),lQ _,h⟩
def Placed (s : ByteArray) : Nat -> List ByteArray -> Nat -> Prop
 | a,[],e=>a <= e
 | a,x :: t,e=>∃ p,a <= p /\ p + x.size <= s.size /\ s.extract p (p + x.size) = x /\ Placed s (p + x.size) t e
theorem Placed.mono {s : ByteArray} : ∀ {l : List ByteArray} {a e e' : Nat},Placed s a l e -> e <= e' -> Placed s a l e'
 | [],_,_,_,h,k=>Nat.le_trans h k
 | _ :: _,_,_,_,⟨p,h1,h2,h3,h4⟩,k=>⟨p,h1,h2,h3,h4.mono k⟩
theorem Placed.snoc {s x : ByteArray} {p e' : Nat} : ∀ {l : List ByteArray} {a e : Nat},Placed s a l e -> e <= p -> p + x.size <= s.size -> s.extract p (p + x.size) = x -> p + x.size <= e' -> Placed s a (l ++ [x]) e'
 | [],_,_,h,h1,h2,h3,h4=>⟨p,Nat.le_trans h h1,h2,h3,h4⟩
 | _ :: _,_,_,⟨q,k1,k2,k3,k4⟩,h1,h2,h3,h4=>⟨q,k1,k2,k3,k4.snoc h1 h2 h3 h4⟩
theorem placed_to (s : ByteArray) : ∀ i,i <= s.size + 1 -> Placed s 0 (wordsTo s i).2 (wordsTo s i).1
 | 0,_=>lQ _
 | i + 1,hi=>by
  have ih:=placed_to s i (by omega)
  by_cases h : i < s.size /\ byteAt s i ≠ 32
  ·rw [wordsTo_keep h.1 h.2]
   exact ih
  ·rw [wordsTo_cut h]
   have hst:=wordsTo_start s i
   simp only []
   split
   ·rename_i hw
    have hz : (s.extract (wordsTo s i).1 i).size = i - (wordsTo s i).1:=by rw [ByteArray.size_extract]; omega
    refine ih.snoc (lQ _) (by omega) ?_ (by omega)
    rw [hz,show (wordsTo s i).1 + (i - (wordsTo s i).1) = i by omega]
   ·exact ih.mono (by omega)
def posOf (s : ByteArray) (a : Nat) (x : ByteArray) : Nat:=(Lib.index (s.extract a s.size).data.toList x.data.toList).toNat
theorem data_mk (l : List UInt8) : (mkB l).data.toList = l:=mkB_list l
theorem tail_list (s : ByteArray) (a : Nat) : (s.extract a s.size).data.toList = s.data.toList.drop a:=by
 rw [extract_mk,data_mk,List.take_of_length_le (by rw [Array.length_toList]; exact lQ _)]
theorem posOf_at {s x : ByteArray} {a p : Nat} (ha : a <= p) (h1 : p + x.size <= s.size) (h2 : s.extract p (p + x.size) = x) : Lib.index (s.extract a s.size).data.toList x.data.toList = (posOf s a x : Int) /\ a + posOf s a x <= p:=by
 have hx : x.data.toList = (s.data.toList.drop p).take x.size:=by
  conv=>lhs; rw [<- h2]
  rw [extract_mk,data_mk,List.drop_take]
  congr 1
  omega
 have ho : Lib.occAt (s.extract a s.size).data.toList x.data.toList (p - a) = true:=by
  unfold Lib.occAt
  rw [tail_list,List.drop_drop,show a + (p - a) = p by omega,List.isPrefixOf_iff_prefix]
  conv=>lhs; rw [hx]
  exact List.take_prefix _ _
 have hl : p - a <= (s.extract a s.size).data.toList.length:=by
  rw [tail_list,List.length_drop]
  have : s.data.toList.length = s.size:=by rw [Array.length_toList]; rfl
  omega
 obtain ⟨j,e,hj,_⟩:=occ_index (p - a) ho hl
 have hp : posOf s a x = j:=by rw [posOf,e]; rfl
 rw [hp,e]
 exact ⟨rfl,by omega⟩
def atTo (s : ByteArray) (l : List ByteArray) : Nat -> Nat
 | 0=>0
 | k + 1=>atTo s l k + posOf s (atTo s l k) (l.getD k ByteArray.empty) + (l.getD k ByteArray.empty).size
theorem atTo_placed (s : ByteArray) (l : List ByteArray) {e : Nat} (h : Placed s 0 l e) : ∀ k,k <= l.length -> ∃ a,atTo s l k <= a /\ Placed s a (l.drop k) e
 | 0,_=>⟨0,lQ _,h⟩
 | k + 1,hk=>by
  obtain ⟨a,h1,h2⟩:=atTo_placed s l h k (by omega)
  rw [drop_getD l ByteArray.empty k (by omega)] at h2
  obtain ⟨p,k1,k2,k3,k4⟩:=h2
  have:=(posOf_at (a:=atTo s l k) (Nat.le_trans h1 k1) k2 k3).2
  exact ⟨_,by rw [atTo]; omega,k4⟩
theorem at_word (s : ByteArray) (k : Nat) (hk : k < (wordsOf s).length) :
  Lib.index (s.extract (atTo s (wordsOf s) k) s.size).data.toList ((wordsOf s).getD k ByteArray.empty).data.toList = (posOf s (atTo s (wordsOf s) k) ((wordsOf s).getD k ByteArray.empty) : Int) /\ atTo s (wordsOf s) (k + 1) <= s.size /\ atTo s (wordsOf s) k <= s.size:=by
 obtain ⟨a,h1,h2⟩:=atTo_placed s (wordsOf s) (placed_to s (s.size + 1) (lQ _)) k (by omega)
 rw [drop_getD _ ByteArray.empty k hk] at h2
 obtain ⟨p,k1,k2,k3,k4⟩:=h2
 obtain ⟨e1,e2⟩:=posOf_at (a:=atTo s (wordsOf s) k) (Nat.le_trans h1 k1) k2 k3
 exact ⟨e1,by rw [atTo]; omega,by omega⟩
def tokAt (n : Nat) (s : ByteArray) (k : Nat) : PTok:=⟨(wordsOf s).getD k ByteArray.empty,n,((atTo s (wordsOf s) k + posOf s (atTo s (wordsOf s) k) ((wordsOf s).getD k ByteArray.empty) : Nat) : Int),(classesOf ((wordsOf s).getD k ByteArray.empty) : Int)⟩
def toksLine (n : Nat) (s : ByteArray) : List PTok:=(List.range (wordsOf s).length).map (tokAt n s)
def toksTo (ls : List ByteArray) (k : Nat) : List PTok:=(List.range k).flatMap fun n=>toksLine n (ls.getD n ByteArray.empty)
def toksOf (ls : List ByteArray) : List PTok:=toksTo ls ls.length
end
section
open Go Go.RowKit
attribute [local go_sem] Oper.semAt_some
def MaxL (w : World) : Prop:=∃ m : Int,w.cell? ⟨0,0,none⟩ = some (.int .i64 m)
theorem Sh.strings_Index (s sub : ByteArray) (w : World) (hs : s.size < 4294967281) (hm : MaxL w) :
  Calls Tryz.prog 71 #[.string s,.string sub] w fun e w'=>e = .returned (.int .i64 (Lib.index s.data.toList sub.data.toList)) /\ w' = w:=by
 obtain ⟨m,hm⟩:=hm
 exact Any.strings_Index Sh.lays143 s sub m w hs hm
theorem MaxL.below {w w' : World} (h : MaxL w) (hb : Below w.heap.size w w') : MaxL w':=by
 obtain ⟨m,hm⟩:=h
 exact ⟨m,(hb.cell (p:=⟨0,0,none⟩) (cell_lt hm)).trans hm⟩
def TextsO (O : Nat -> Prop) (w : World) (v : Value) (l : List ByteArray) : Prop:=SlP (fun b=>¬ O b) w v l.length fun b off i=>w.cell? ⟨b,off + i,none⟩ = some (.string (l.getD i ByteArray.empty))
theorem TextsO.keep {O O' : Nat -> Prop} {w w' : World} {v : Value} {l : List ByteArray} (h : TextsO O w v l) (hk : CKp O w w') (hO : ∀ b,O' b -> O b \/ w.heap.size <= b) : TextsO O' w' v l:=
 SlP.map h hk.size (fun _ hb hp=>notO hO hb hp) fun _ _ _ _ hp _ hc=>hk.cell _ _ _ hp hc
theorem OwnStrs.textsO {base : Nat} {w : World} {v : Value} {l : List ByteArray} (h : OwnStrs base w v l) {O : Nat -> Prop} (hO : ∀ b,O b -> b < base) : TextsO O w v l:=by
 obtain ⟨A,c,hv,hn,hc,hA⟩:=OwnL.sl h (fun _=>rfl)
 refine ⟨A,c,hv,hn,hc,fun h0=>?_⟩
 obtain ⟨b,off,e,hb,hp,hi⟩:=hA h0
 refine ⟨b,off,e,hb,fun ho=>by have:=hO b ho; omega,fun i hi'=>?_⟩
 have:=(hi i hi').2.2 hi' 0 (by omega)
 show w.cell? ⟨b,off + i,none⟩ = some (.string (l.getD i ByteArray.empty))
 rw [getD_at _ _ _ hi']
 simpa [strCells] using this
def InvK (lv : Value) (ls : List ByteArray) (Bl : Nat) (O : Nat -> Prop) (W : World) : Prop:=(¬ O Bl /\ Blk W Bl 22 #[lv]) /\ TextsO O W lv ls /\ ¬ O 0 /\ MaxL W
def VTok (_ : Nat -> Prop) (x : PTok) (vs : Array Value) (_ : World) : Prop:=vs = #[.agg (tokCells x).toArray]
theorem InvK.keep {lv : Value} {ls : List ByteArray} {Bl : Nat} {O O' : Nat -> Prop} {w w' : World} (h : InvK lv ls Bl O w) (hk : KeepC O w w') (hO : ∀ b,O' b -> O b \/ w.heap.size <= b) : InvK lv ls Bl O' w':=by
 obtain ⟨⟨h1,h2⟩,h3,h4,m,h5⟩:=h
 have hc:=CKp.of_keepC hk
 exact ⟨⟨notO hO h2.lt h1,hk.blk h1 h2⟩,h3.keep hc hO,notO hO (cell_lt h5) h4,m,hc.cell _ _ _ h4 h5⟩
theorem InvK.still (lv : Value) (ls : List ByteArray) (Bl : Nat) : Still0 (InvK lv ls Bl):=⟨fun O A B h _ hk=>by
 obtain ⟨⟨h1,h2⟩,h3,h4,m,h5⟩:=h
 have hc : CKp O A B:=⟨hk.size,fun b o v _ hv=>by
  obtain ⟨o',e1,e2⟩:=cells_of_cell hv
  have h3:=hk.same b o' e1 (fun h=>h) (fun _=>by cases o' <;> first | rfl | simp [Obj.isCells] at e2)
  rw [World.cell?_of_block (h3.trans e1.symm)]
  exact hv⟩
 exact ⟨⟨h1,hk.blk (fun h=>h) h2⟩,h3.keep hc (fun b h=>.inl h),h4,m,hc.cell _ _ _ h4 h5⟩⟩
theorem VTok.still (x : PTok) (vs : Array Value) : Still0 fun O W=>VTok O x vs W:=⟨fun _ _ _ h _ _=>h⟩
structure KS (lv : Value) (ls : List ByteArray) (Bl : Nat) (J : List PTok -> (Nat -> Prop) -> World -> Prop) (O : Nat -> Prop) (W : World) (pre : List PTok) (O2 : Nat -> Prop) (w : World) : Prop where
 inv : InvK lv ls Bl O2 w
 j : J pre O2 w
 sub : ∀ b,O2 b -> O b \/ W.heap.size <= b
 lt : ∀ b,O2 b -> b < w.heap.size
 kc : KeepC O W w
theorem KS.below {lv : Value} {ls : List ByteArray} {Bl : Nat} {J : List PTok -> (Nat -> Prop) -> World -> Prop} {O O2 : Nat -> Prop} {W w w' : World} {pre : List PTok} (h : KS lv ls Bl J O W pre O2 w) (hJ : ∀ pre O A B,J pre O A -> (∀ b,O b -> b < A.heap.size) -> KeepB (fun _=>False) W.heap.size A B -> J pre O B) (hb : Below w.heap.size w w') : KS lv ls Bl J O W pre O2 w':=
 have hm : KeepM (fun _=>False) w w':=KeepM.of_below hb
 have hc : KeepC O2 w w':=⟨hb.size,fun k _ hk _ _=>(hb.block k (heap_lt hk)).trans hk,hb.os,hb.tape,hb.output⟩
 ⟨h.inv.keep hc (fun b h=>.inl h),hJ _ _ _ _ h.j h.lt (hm.keepB _),h.sub,fun b hb'=>Nat.lt_of_lt_of_le (h.lt b hb') hb.size,h.kc.trans (fun b hb'=>h.sub b hb') hc⟩
theorem toksTo_succ (ls : List ByteArray) (k : Nat) : toksTo ls (k + 1) = toksTo ls k ++ toksLine k (ls.getD k ByteArray.empty):=by
 unfold toksTo
 rw [List.range_succ,List.flatMap_append]
 simp
theorem toksTo_prefix (ls : List ByteArray) (k : Nat) (hk : k <= ls.length) : toksTo ls k <+: toksOf ls:=by
 unfold toksOf toksTo
 have h3 : List.range ls.length = List.range k ++ (List.range (ls.length - k)).map (k + ·):=by
  have:=List.range_add (n:=k) (m:=ls.length - k)
  rwa [show k + (ls.length - k) = ls.length by omega] at this
 rw [h3,List.flatMap_append]
 exact List.prefix_append _ _
theorem toksLine_len (n : Nat) (s : ByteArray) : (toksLine n s).length = (wordsOf s).length:=by simp [toksLine]
theorem toksLine_at (n : Nat) (s : ByteArray) (j : Nat) (h : j < (wordsOf s).length) : (toksLine n s).take (j + 1) = (toksLine n s).take j ++ [tokAt n s j]:=by
 rw [List.take_succ_eq_append_getElem (by rw [toksLine_len]; exact h)]
 simp [toksLine]
theorem words1 (lv : Value) (ls : List ByteArray) (Bl : Nat) (hl6 : ls.length <= 1000) (hs60 : ∀ x ∈ ls,x.size <= 1000) :
  SeqM Tryz.prog 82 #[.pointer (some ⟨Bl,0,none⟩)] (fun _=>False) (InvK lv ls Bl) VTok (fun _=>True) (toksOf ls):=by
 intro l J Jx O W hMl hl hinv _ hO hJ hJx hY h0
 have hinv0:=hinv
 obtain ⟨A,c,rfl,hn,hcm,-⟩:=hinv.2.1
 unfold maxLen at hcm
 have hst : Hid (KS (.slice A ls.length c) ls Bl J O W (toksTo ls 0) O W):=Hd ⟨hinv0,h0,fun b h=>.inl h,hO,KeepC.refl _ _⟩
 have y0:=hinv.1.2.cell 0
 simp at y0
 replace hinv:=Hd hinv
 replace hJ:=Hd hJ
 replace hJx:=Hd hJx
 replace hY:=Hd hY
 replace hs60:=Hd hs60
 clear hinv0
 refine callsIn_wide.1 (callsIn_of_wp (n:=0) Tryz.func82 rfl trivial ?_)
 simp only [Tryz.ntmps82,List.size_toArray,List.length_cons,List.length_nil,Nat.reduceAdd,Nat.reduceSub,Array.replicate_succ,Array.replicate_zero,List.push_toArray,List.append_toArray,List.nil_append,List.cons_append]
 gi_wp2
 clear y0
 gi_loopw [10] (fun iv wr=>∃ (k : Nat) (O2 : Nat -> Prop),k <= ls.length /\ iv = .int .i64 k /\ Hid (KS (.slice A ls.length c) ls Bl J O W (toksTo ls k) O2 wr)) (fun iv _=>ls.length - (intOf iv).toNat)
 case atStart=>exact ⟨0,O,by omega,rfl,hst⟩
 case round=>
  obtain ⟨k,O2,hk,rfl,hks⟩:=hrel
  rename World=>wr
  clear hst
  have n0 : (0 : Int) <= (k : Int):=by omega
  by_cases hlt : k < ls.length
  ·have n1 : (k : Int) < (ls.length : Int):=by omega
   obtain ⟨b0,off0,rfl,x0⟩ : ∃ b off,A = some ⟨b,off,none⟩ /\ wr.cell? ⟨b,off + k,none⟩ = some (.string (ls.getD k ByteArray.empty)):=by
    obtain ⟨A',c',e,_,_,h⟩:=hks.out.inv.2.1
    cases e
    obtain ⟨bA,oA,e,_,_,h⟩:=h (by omega)
    exact ⟨bA,oA,e,h k hlt⟩
   have hsz : (ls.getD k ByteArray.empty).size <= 1000:=hs60.out _ (by rw [getD_at _ _ _ hlt]; exact List.getElem_mem hlt)
   have hts:=Hd (toksTo_succ ls k)
   have hpf:=Hd (toksTo_prefix ls (k + 1) (by omega))
   generalize ls.getD k ByteArray.empty = s at *
   have hw:=Hd (words_any s wr (by omega))
   gi_wp2_with (fail)
   refine ⟨trivial,rfl,(callsIn_wide.2 hw.out).mono ?_⟩
   rintro e w2 ⟨wv,rfl,hown,hb2⟩
   clear hw x0
   have hks2:=Hd (hks.out.below hJ.out hb2)
   have htx : Hid (TextsO O2 w2 wv (wordsOf s)):=Hd (hown.textsO fun b h=>hks.out.lt b h)
   have hwl : (wordsOf s).length <= 1001:=by have:=wordsTo_len s (s.size + 1); exact Nat.le_trans this (by omega)
   obtain ⟨A2,c2,rfl⟩:=hown.form_
   have hc2 : (wordsOf s).length <= c2:=by obtain ⟨_,_,e,h,_⟩:=htx.out; cases e; exact h
   clear hown hb2 hks
   have hwz : Hid (∀ x ∈ wordsOf s,x.size <= 1000):=Hd fun x hx=>Nat.le_trans (wordsOf_size hx) hsz
   have haw:=Hd (at_word s)
   have htl:=Hd (toksLine_at k s)
   have htn:=Hd (toksLine_len k s)
   have hat0 : Hid (atTo s (wordsOf s) 0 = 0):=rfl
   have hats : Hid (∀ j,atTo s (wordsOf s) (j + 1) = atTo s (wordsOf s) j + posOf s (atTo s (wordsOf s) j) ((wordsOf s).getD j ByteArray.empty) + ((wordsOf s).getD j ByteArray.empty).size):=Hd fun j=>rfl
   have htk : Hid (∀ j,tokAt k s j = ⟨(wordsOf s).getD j ByteArray.empty,k,((atTo s (wordsOf s) j + posOf s (atTo s (wordsOf s) j) ((wordsOf s).getD j ByteArray.empty) : Nat) : Int),(classesOf ((wordsOf s).getD j ByteArray.empty) : Int)⟩):=Hd fun j=>rfl
   generalize hws : wordsOf s = ws at *
   replace hws:=Hd hws
   generalize hat : atTo s ws = att at *
   replace hat:=Hd hat
   gi_wp2_with (fail)
   gi_loopw [5,18] (fun av jv wx=>∃ (j : Nat) (O3 : Nat -> Prop),j <= ws.length /\ jv = .int .i64 j /\ av = .int .i64 ((att j : Nat) : Int) /\ Hid (KS (.slice (some ⟨b0,off0,none⟩) ls.length c) ls Bl J O W (toksTo ls k ++ (toksLine k s).take j) O3 wx) /\ Hid (TextsO O3 wx (.slice A2 ws.length c2) ws)) (fun _ jv _=>ws.length - (intOf jv).toNat)
   case atStart=>exact ⟨0,O2,by omega,rfl,by rw [hat0.out]; rfl,by rw [tZ,List.append_nil]; exact hks2,htx⟩
   case round=>
    obtain ⟨j,O3,hj,rfl,rfl,hkx,htx3⟩:=hrel
    rename World=>wx
    clear hks2 htx
    have m0 : (0 : Int) <= (j : Int):=by omega
    by_cases hjl : j < ws.length
    ·have m1 : (j : Int) < (ws.length : Int):=by omega
     obtain ⟨b1,off1,rfl,z0⟩ : ∃ b off,A2 = some ⟨b,off,none⟩ /\ wx.cell? ⟨b,off + j,none⟩ = some (.string (ws.getD j ByteArray.empty)):=by
      obtain ⟨A',c',e,_,_,h⟩:=htx3.out
      cases e
      obtain ⟨bA,oA,e,_,_,h⟩:=h (by omega)
      exact ⟨bA,oA,e,h j hjl⟩
     have hxz : (ws.getD j ByteArray.empty).size <= 1000:=hwz.out _ (by rw [getD_at _ _ _ hjl]; exact List.getElem_mem hjl)
     obtain ⟨ha1,ha2,ha3⟩:=haw.out j hjl
     have htkj:=Hd (htk.out j)
     have hatj:=Hd (hats.out j)
     have htlj:=Hd (htl.out j hjl)
     generalize ws.getD j ByteArray.empty = x at *
     generalize hpo : posOf s (att j) x = po at *
     replace hpo:=Hd hpo
     have hidx:=Hd (Sh.strings_Index (s.extract (att j) s.size) x wx (by rw [ByteArray.size_extract]; omega) hkx.out.inv.2.2.2)
     rw [ha1] at hidx
     rw [hatj.out] at ha2
     replace ha1:=Hd ha1
     generalize hatjj : att j = aj at *
     have p0 : (0 : Int) <= (aj : Int):=by omega
     have p1 : (aj : Int) <= (s.size : Int):=by omega
     gi_wp2_with (fail)
     refine ⟨trivial,rfl,(callsIn_wide.2 hidx.out).mono ?_⟩
     rintro e w3 ⟨rfl,hw3⟩
     obtain rfl:=hw3.symm
     clear hidx z0
     have hcls:=Hd (classes_any x wx (by omega))
     have hclb:=classesOf_lt x
     generalize classesOf x = cx at *
     gi_wp2_with (fail)
     refine ⟨trivial,rfl,(callsIn_wide.2 hcls.out).mono ?_⟩
     rintro e w4 ⟨rfl,hb4⟩
     clear hcls
     have hk4:=Hd (hkx.out.below hJ.out hb4)
     have htx4:=Hd (htx3.out.keep (CKp.of_below hb4 _) (fun b h=>.inl h))
     have hpre : Hid ((toksTo ls k ++ (toksLine k s).take j) ++ [(⟨x,k,((aj + po : Nat) : Int),(cx : Int)⟩ : PTok)] <+: toksOf ls):=Hd (by
      rw [<- htkj.out,List.append_assoc,<- htlj.out]
      refine List.IsPrefix.trans ?_ hpf.out
      rw [hts.out,List.prefix_append_right_inj]
      exact List.take_prefix _ _)
     have hstp : Hid ((toksTo ls k ++ (toksLine k s).take j) ++ [(⟨x,k,((aj + po : Nat) : Int),(cx : Int)⟩ : PTok)] = toksTo ls k ++ (toksLine k s).take (j + 1)):=Hd (by rw [htlj.out,<- List.append_assoc,htkj.out])
     clear hkx htx3 hb4
     have hcast : Hid ((aj : Int) + (po : Int) = ((aj + po : Nat) : Int)):=Hd (by omega)
     have hy:=hY.out _ _ #[.agg #[.string x,.int .i64 (k : Int),.int .i64 ((aj : Int) + (po : Int)),.int .u16 (cx : Int)]] O3 w4 hpre.out hk4.out.j hk4.out.inv (show _ = _ by rw [hcast.out]; rfl) hk4.out.lt hk4.out.kc.size
     obtain ⟨fn,tmps,assign,body,hy,hR⟩:=hy
     gi_wp2_with (fail)
     refine ⟨rfl,hR.mono ?_⟩
     clear hR hy
     rintro e w5 ⟨O5,g1,g2,g3,g4,_,hcase⟩
     have hsub5 : ∀ b,O5 b -> O b \/ W.heap.size <= b:=fun b h=>(g1 b h).elim (hk4.out.sub b) fun h=>.inr (Nat.le_trans hk4.out.kc.size h)
     have hkc5:=hk4.out.kc.trans hk4.out.sub g3
     have htx5:=Hd (htx4.out.keep (CKp.of_keepC g3) g1)
     rcases hcase with ⟨rfl,hj5⟩ | ⟨rfl,hj5⟩
     ·rw [hstp.out] at hj5
      have hk5 : Hid (KS (.slice (some ⟨b0,off0,none⟩) ls.length c) ls Bl J O W (toksTo ls k ++ (toksLine k s).take (j + 1)) O5 w5):=Hd ⟨g4,hj5,hsub5,g2,hkc5⟩
      have hatx : Hid (((aj : Int) + (po : Int)) + (x.size : Int) = ((att (j + 1) : Nat) : Int)):=Hd (by rw [hatj.out]; omega)
      clear g1 g2 g3 g4 hsub5 hkc5 hj5 hk4 htx4
      gi_wp2_with (fail)
      exact ⟨⟨j + 1,O5,by omega,by go_num,by rw [hatx.out],hk5,htx5⟩,by simp [intOf]; omega⟩
     ·have hkcw:=hkc5.wide (O':=fun b=>O b \/ False) fun b h=>.inl h
      gi_wp2_with (fail)
      refine bodyPost_ret (results_none rfl _ _ _) rfl ?_
      exact ⟨⟨_,rfl⟩,O5,hsub5,g2,hkcw,g4,.inr ⟨_,hpre.out,hj5⟩⟩
    ·obtain rfl : j = ws.length:=by omega
     rw [List.take_of_length_le (by rw [htn.out]; exact lQ _),<- hts.out] at hkx
     gi_wp2_with (fail)
     exact ⟨⟨k + 1,O3,by omega,by go_num,hkx⟩,by simp [intOf]; omega⟩
  ·obtain rfl : k = ls.length:=by omega
   gi_wp2_with (fail)
   go_end0
   exact ⟨⟨_,rfl⟩,O2,hks.out.sub,hks.out.lt,hks.out.kc.wide fun b h=>.inl h,hks.out.inv,.inl hks.out.j⟩
end
end Go.Proofs.YteclineblddpbaaGreatDoorR
