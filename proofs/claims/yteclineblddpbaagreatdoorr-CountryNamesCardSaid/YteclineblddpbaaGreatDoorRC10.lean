import Derived.Test.YteclineblddpbaaGreatDoorRC01
import Derived.Test.YteclineblddpbaaGreatDoorRC08
import Derived.Test.YteclineblddpbaaGreatDoorRC09
import Derived.Carry
set_option linter.all false
set_option maxRecDepth 100000
set_option maxHeartbeats 0
namespace Go.Proofs.YteclineblddpbaaGreatDoorR
section
open Go.RowKit Go.Maps
theorem keyed5 : Keyed Tryz.prog 5:=int_keyed Tryz.underlying5
def encU8 (n : Int) : Value:=.int .u8 n
theorem encU8_inj (x y : Int) (h : encU8 x = encU8 y) : x = y:=by simpa [encU8] using h
theorem keyOf_u8 (n : Int) (h0 : 0 <= n) (h1 : n <= 255) : keyOf Tryz.prog 5 (encU8 n) = some (.int .u8 n):=keyOf_int_mk Tryz.underlying5 (WalkArith.wf_u8 (by omega))
structure PPart where
 kind : Int
 text : ByteArray
def partCells (p : PPart) : List Value:=[.int .u8 p.kind,.string p.text]
def PPart.zero : PPart:=⟨0,⟨#[]⟩⟩
def IsPart (w : World) (b o : Nat) (p : PPart) : Prop:=w.cell? ⟨b,o,none⟩ = some (.int .u8 p.kind) /\ w.cell? ⟨b,o + 1,none⟩ = some (.string p.text)
def IsParts (w : World) (v : Value) (ps : List PPart) : Prop:=Sl w v ps.length fun b off i=>IsPart w b (off + i * 2) (ps.getD i PPart.zero)
theorem IsParts.stays {w w' : World} {v : Value} {ps : List PPart} (h : IsParts w v ps) (hs : Stays w w') : IsParts w' v ps:=
 Sl.stays h hs fun _ _ _ hb _ hc=>⟨(hs.2 _ hb).trans hc.1,(hs.2 _ hb).trans hc.2⟩
def mustM (r g1 g3 g5 g6 g7 g9 : Nat) : List (Int × Value):=
  [(10,.func (.func 109) #[] #[.pointer (some ⟨r,0,none⟩)]),(9,.func (.func 103) #[] #[.pointer (some ⟨g9,0,none⟩)]),(8,.func (.func 107) #[] #[]),(7,.func (.func 103) #[] #[.pointer (some ⟨g7,0,none⟩)]),
   (6,.func (.func 103) #[] #[.pointer (some ⟨g6,0,none⟩)]),(5,.func (.func 105) #[] #[.pointer (some ⟨g5,0,none⟩)]),(4,.func (.func 107) #[] #[]),(3,.func (.func 105) #[] #[.pointer (some ⟨g3,0,none⟩)]),
   (2,.func (.func 108) #[] #[]),(1,.func (.func 103) #[] #[.pointer (some ⟨g1,0,none⟩)])]
def isPartB (c kd : Int) (s : ByteArray) : Bool:=
 if kd = 1 then clsB s 0 else if kd = 2 then letter1 s else if kd = 3 then (shortOf 1 s).2 else if kd = 4 then isNameP s else if kd = 5 then (shortOf 2 s).2
 else if kd = 6 then clsB s 7 else if kd = 7 then clsB s 0 else if kd = 8 then isNameP s else if kd = 9 then clsB s 8 else if kd = 10 then isCodeP c s else false
def partsTo (c : Int) : Int -> List PPart -> Bool
 | _,[]=>true
 | last,p :: t=>if last < p.kind /\ isPartB c p.kind p.text = true then partsTo c p.kind t else false
def zeros11 : List ByteArray:=List.replicate 11 ⟨#[]⟩
def putP (l : List ByteArray) (p : PPart) : List ByteArray:=l.set p.kind.toNat p.text
def foundTo (ps : List PPart) (k : Nat) : List ByteArray:=(ps.take k).foldl putP zeros11
def foundOf (ps : List PPart) : List ByteArray:=ps.foldl putP zeros11
def rightP (c : Int) (ps : List PPart) : Bool:=partsTo c 0 ps && fitB c (hasI (foundOf ps))
theorem putP_len (l : List ByteArray) (p : PPart) : (putP l p).length = l.length:=List.length_set
theorem foldP_len : ∀ (ps : List PPart) (l : List ByteArray),(ps.foldl putP l).length = l.length
 | [],_=>rfl
 | p :: ps,l=>by rw [List.foldl_cons,foldP_len ps,putP_len]
theorem foundTo_len (ps : List PPart) (k : Nat) : (foundTo ps k).length = 11:=foldP_len _ _
theorem foundTo_succ (ps : List PPart) (k : Nat) (h : k < ps.length) : foundTo ps (k + 1) = putP (foundTo ps k) (ps.getD k PPart.zero):=by
 unfold foundTo
 rw [List.take_succ_eq_append_getElem h,List.foldl_append,getD_at _ _ _ h]; rfl
theorem foundTo_all (ps : List PPart) : foundTo ps ps.length = foundOf ps:=by
 unfold foundTo foundOf
 rw [List.take_length]
theorem partsTo_yes {c last : Int} {ps : List PPart} {k : Nat} (h : k < ps.length) (h1 : last < (ps.getD k PPart.zero).kind) (h2 : isPartB c (ps.getD k PPart.zero).kind (ps.getD k PPart.zero).text = true) :
  partsTo c last (ps.drop k) = partsTo c (ps.getD k PPart.zero).kind (ps.drop (k + 1)):=by
 rw [drop_getD ps PPart.zero k h,partsTo,if_pos ⟨h1,h2⟩]
theorem partsTo_no {c last : Int} {ps : List PPart} {k : Nat} (h : k < ps.length) (h1 : ¬ (last < (ps.getD k PPart.zero).kind /\ isPartB c (ps.getD k PPart.zero).kind (ps.getD k PPart.zero).text = true)) :
  partsTo c last (ps.drop k) = false:=by
 rw [drop_getD ps PPart.zero k h,partsTo,if_neg h1]
theorem info109 : (Tryz.prog.info? 109).map (·.size) = some 11:=by kernel_rfl
def zc11 : Array Value:=#[.string ⟨#[]⟩,.string ⟨#[]⟩,.string ⟨#[]⟩,.string ⟨#[]⟩,.string ⟨#[]⟩,.string ⟨#[]⟩,.string ⟨#[]⟩,.string ⟨#[]⟩,.string ⟨#[]⟩,.string ⟨#[]⟩,.string ⟨#[]⟩]
theorem zc11_eq : (zeros11.map Value.string).toArray = zc11:=rfl
theorem one_strs (l : List ByteArray) : ((l.map Value.string).toArray).all (·.oneCell') = true:=by
 rw [Array.all_eq_true']
 intro x hx
 simp at hx
 obtain ⟨a,-,rfl⟩:=hx
 rfl
theorem set_strs (l : List ByteArray) (i : Nat) (s : ByteArray) : ((l.map Value.string).toArray).setIfInBounds i (.string s) = ((l.set i s).map Value.string).toArray:=by
 rw [sX,List.map_set]
theorem results_row_tmp {P : Program} {fn : Func} {p u : Tmp} {ty : TypeId} (h : fn.results = #[.cell p ty,.tmp u]) (tmps : Array Value) (w : World) (g : Nat) (t : TypeId) (cs : Array Value) (d : TypeDesc)
  (hp : tmps.getD p undef = .pointer (some ⟨g,0,none⟩)) (hg : Blk w g t cs) (hu : P.underlying ty = some d) (hd : (match d with | .struct _ | .array _ _=>true | _=>false) = true) (hi : (P.info? ty).map (·.size) = some cs.size) :
  (results fn tmps).run P w = .ok (.tuple #[.agg cs,tmps.getD u undef]) w:=by
 rw [results_cell_tmp h,hp]
 simp [asAddr,run_loadVar_row w g t ty cs (0,0) d hg hu hd hi,Result.andThen]
theorem Blk.setRow_ {w : World} {g : Nat} {t : TypeId} {cs : Array Value} (h : Blk w g t cs) (cs' : Array Value) : Blk (w.setRow g cs') g t cs':=by
 unfold Blk at h ⊢
 simp [World.setRow,Array.getElem?_modify,h]
theorem Below.setRow_ {B : Nat} {w w' : World} (h : Below B w w') {g : Nat} (hg : B <= g) (cs : Array Value) : Below B w (w'.setRow g cs):=by
 refine ⟨h.os,h.tape,h.output,by simpa [World.setRow] using h.size,fun b hb=>?_⟩
 rw [<- h.block b hb]
 simp [World.setRow,Array.getElem?_modify]
 intro e; omega
theorem Blk.setRow_far {w : World} {g : Nat} {t : TypeId} {cs : Array Value} (h : Blk w g t cs) {g' : Nat} (hg : g ≠ g') (cs' : Array Value) : Blk (w.setRow g' cs') g t cs:=by
 unfold Blk at h ⊢
 rw [<- h]
 simp [World.setRow,Array.getElem?_modify]
 intro e; exact absurd e.symm hg
theorem must_known (kd : Int) (r g1 g3 g5 g6 g7 g9 : Nat) : (getA kd (mustM r g1 g3 g5 g6 g7 g9)).isSome = (decide (1 <= kd) && decide (kd <= 10)):=by
 by_cases h : 1 <= kd /\ kd <= 10
 ·have : kd = 1 \/ kd = 2 \/ kd = 3 \/ kd = 4 \/ kd = 5 \/ kd = 6 \/ kd = 7 \/ kd = 8 \/ kd = 9 \/ kd = 10:=by omega
  rcases this with rfl | rfl | rfl | rfl | rfl | rfl | rfl | rfl | rfl | rfl <;> rfl
 ·have hd : (decide (1 <= kd) && decide (kd <= 10)) = false:=by simp; omega
  rw [hd]
  unfold mustM
  simp only [getA]
  repeat rw [if_neg (by omega)]
  rfl
theorem isPart_known {c kd : Int} {s : ByteArray} (h : isPartB c kd s = true) : 1 <= kd /\ kd <= 10:=by
 by_cases hk : 1 <= kd /\ kd <= 10
 ·exact hk
 ·exfalso
  unfold isPartB at h
  repeat rw [if_neg (by omega)] at h
  cases h
theorem zero154 (w : World) : (zeroValue 36).run Tryz.prog w = .ok .nilFunc w:=by kernel_rfl
theorem found_set {ps : List PPart} {k n : Nat} {tx : ByteArray} {W : World} {FB : Nat} {l2 : List ByteArray} (h : Blk W FB 109 ((foundTo ps k).map Value.string).toArray) (hn : n < (foundTo ps k).length) (e : l2 = (foundTo ps k).set n tx) :
  ∃ y,W.cell? ⟨FB,n,none⟩ = some (.string y) /\ W.frozen? ⟨FB,n,none⟩ = false /\ Blk (W.setCell ⟨FB,n,none⟩ (.string tx)) FB 109 (l2.map Value.string).toArray:=by
 subst e
 refine ⟨(foundTo ps k)[n],?_,h.frozen n,?_⟩
 ·rw [h.cell,List.getElem?_toArray,List.getElem?_map,List.getElem?_eq_getElem hn,Option.map_some]
 ·have:=h.set_ n (.string tx)
  rwa [set_strs] at this
def FoundIs (b : Bool) (fd fo : List ByteArray) : Prop:=b = true -> fd = fo
theorem partsOf_any (c : Int) (v : Value) (ps : List PPart) (w : World) (hv : IsParts w v ps) (hps : ∀ p ∈ ps,p.text.size <= 1000000 /\ 0 <= p.kind /\ p.kind <= 255) :
  Calls Tryz.prog 58 #[.agg #[.int .u8 c,v]] w fun e w'=>∃ fd : List ByteArray,e = .returned (.tuple #[.agg (fd.map Value.string).toArray,.bool (rightP c ps)]) /\ fd.length = 11 /\ FoundIs (rightP c ps) fd (foundOf ps) /\ Below w.heap.size w w':=by
 have hps':=Hd hps
 have hv':=Hd hv
 clear hps hv
 have hca:=Hd classed_any
 have hlo:=Hd long_any
 have hmk:=@run_makeMap Tryz.prog
 go_enter Tryz.func58,Tryz.ntmps58
 go_wp2_with fail
 have hb0 : Below w.heap.size w (((w.alloc (.cells #[.int .u8 c,v] 42)).alloc (.cells #[.string ⟨#[]⟩,.string ⟨#[]⟩,.string ⟨#[]⟩,.string ⟨#[]⟩,.string ⟨#[]⟩,.string ⟨#[]⟩,.string ⟨#[]⟩,.string ⟨#[]⟩,.string ⟨#[]⟩,.string ⟨#[]⟩,.string ⟨#[]⟩] 109)).alloc (.map #[] 0)):=(((Below.refl _ _).alloc (lQ _) _).alloc (by simp) _).alloc (by simp; omega) _
 have kB:=((Blk.new w 42 #[.int .u8 c,v]).alloc (.cells #[.string ⟨#[]⟩,.string ⟨#[]⟩,.string ⟨#[]⟩,.string ⟨#[]⟩,.string ⟨#[]⟩,.string ⟨#[]⟩,.string ⟨#[]⟩,.string ⟨#[]⟩,.string ⟨#[]⟩,.string ⟨#[]⟩,.string ⟨#[]⟩] 109)).alloc (.map #[] 0)
 have kR:=(Blk.new_at (w.alloc (.cells #[.int .u8 c,v] 42)) 109 #[.string ⟨#[]⟩,.string ⟨#[]⟩,.string ⟨#[]⟩,.string ⟨#[]⟩,.string ⟨#[]⟩,.string ⟨#[]⟩,.string ⟨#[]⟩,.string ⟨#[]⟩,.string ⟨#[]⟩,.string ⟨#[]⟩,.string ⟨#[]⟩] (w.heap.size + 1) (by simp)).alloc (.map #[] 0)
 have hm0:=MapV.made_at Tryz.prog 5 encU8 (@id Value) ((w.alloc (.cells #[.int .u8 c,v] 42)).alloc (.cells #[.string ⟨#[]⟩,.string ⟨#[]⟩,.string ⟨#[]⟩,.string ⟨#[]⟩,.string ⟨#[]⟩,.string ⟨#[]⟩,.string ⟨#[]⟩,.string ⟨#[]⟩,.string ⟨#[]⟩,.string ⟨#[]⟩,.string ⟨#[]⟩] 109)) (w.heap.size + 1 + 1) (by simp)
 have hz : w.heap.size + 3 <= (((w.alloc (.cells #[.int .u8 c,v] 42)).alloc (.cells #[.string ⟨#[]⟩,.string ⟨#[]⟩,.string ⟨#[]⟩,.string ⟨#[]⟩,.string ⟨#[]⟩,.string ⟨#[]⟩,.string ⟨#[]⟩,.string ⟨#[]⟩,.string ⟨#[]⟩,.string ⟨#[]⟩,.string ⟨#[]⟩] 109)).alloc (.map #[] 0)).heap.size:=by simp
 generalize ((w.alloc (.cells #[.int .u8 c,v] 42)).alloc (.cells #[.string ⟨#[]⟩,.string ⟨#[]⟩,.string ⟨#[]⟩,.string ⟨#[]⟩,.string ⟨#[]⟩,.string ⟨#[]⟩,.string ⟨#[]⟩,.string ⟨#[]⟩,.string ⟨#[]⟩,.string ⟨#[]⟩,.string ⟨#[]⟩] 109)).alloc (.map #[] 0) = X0 at *
 refine (hca.out 1 X0).mono ?_
 rintro e w' ⟨rfl,rfl⟩
 have kN:=Blk.new X0 37 #[.int .u16 1]
 have hbA:=hb0.alloc hb0.size (.cells #[.int .u16 1] 37)
 have hzA : w.heap.size + 3 <= X0.heap.size:=hz
 have hmA:=hm0.alloc (.cells #[.int .u16 1] 37)
 replace kB:=kB.alloc (.cells #[.int .u16 1] 37)
 replace kR:=kR.alloc (.cells #[.int .u16 1] 37)
 have hzB : w.heap.size + 3 <= (X0.alloc (.cells #[.int .u16 1] 37)).heap.size:=by simp; omega
 generalize hg1 : X0.heap.size = g1 at *
 have eg1 : w.heap.size + 3 <= g1:=hzA
 clear hg1
 have kg1:=kN
 clear kN
 obtain ⟨Y1,hr1,hm1,hg1⟩:=hmA.put keyed5 Tryz.underlying173 (by unfold maxLen; omega) encU8_inj 1 (.func (.func 103) #[] #[.pointer (some ⟨g1,0,none⟩)]) (keyOf_u8 1 (by omega) (by omega))
 simp only [encU8,id] at hr1
 have hb1:=hbA.grown hg1 (by omega) (fun h e=>by cases e; omega)
 have hz1 : w.heap.size + 3 <= Y1.heap.size:=Nat.le_trans hzB hg1.size
 replace kB:=kB.grown hg1 (by simp <;> omega)
 replace kR:=kR.grown hg1 (by simp <;> omega)
 replace kg1:=kg1.grown hg1 (by simp <;> omega)
 obtain ⟨Y2,hr2,hm2,hg2⟩:=hm1.put keyed5 Tryz.underlying173 (by unfold maxLen; omega) encU8_inj 2 (.func (.func 108) #[] #[]) (keyOf_u8 2 (by omega) (by omega))
 simp only [encU8,id] at hr2
 have hb2:=hb1.grown hg2 (by omega) (fun h e=>by cases e; omega)
 have hz2 : w.heap.size + 3 <= Y2.heap.size:=Nat.le_trans hz1 hg2.size
 replace kB:=kB.grown hg2 (by simp <;> omega)
 replace kR:=kR.grown hg2 (by simp <;> omega)
 replace kg1:=kg1.grown hg2 (by simp <;> omega)
 have hm':=Hd hm2
 have hkB:=Hd kB
 clear kB
 have hkR:=Hd kR
 clear kR
 have hkg1:=Hd kg1
 clear kg1
 clear hmA hm1 hm2
 go_wp2_with fail
 clear hr1 hg1
 clear hr2 hg2
 clear hbA hzB hzA hb0 hz hm0 hb1 hz1
 have hm2:=hm'.out
 clear hm'
 have kB:=hkB.out
 clear hkB
 have kR:=hkR.out
 clear hkR
 have kg1:=hkg1.out
 clear hkg1
 refine (hlo.out 1 Y2).mono ?_
 rintro e w' ⟨rfl,rfl⟩
 have kN:=Blk.new Y2 5 #[.int .u8 1]
 have hbA:=hb2.alloc hb2.size (.cells #[.int .u8 1] 5)
 have hzA : w.heap.size + 3 <= Y2.heap.size:=hz2
 have hmA:=hm2.alloc (.cells #[.int .u8 1] 5)
 replace kB:=kB.alloc (.cells #[.int .u8 1] 5)
 replace kR:=kR.alloc (.cells #[.int .u8 1] 5)
 replace kg1:=kg1.alloc (.cells #[.int .u8 1] 5)
 have hzB : w.heap.size + 3 <= (Y2.alloc (.cells #[.int .u8 1] 5)).heap.size:=by simp; omega
 generalize hg3 : Y2.heap.size = g3 at *
 have eg3 : w.heap.size + 3 <= g3:=hzA
 clear hg3
 have kg3:=kN
 clear kN
 obtain ⟨Y3,hr3,hm3,hg3⟩:=hmA.put keyed5 Tryz.underlying173 (by unfold maxLen; omega) encU8_inj 3 (.func (.func 105) #[] #[.pointer (some ⟨g3,0,none⟩)]) (keyOf_u8 3 (by omega) (by omega))
 simp only [encU8,id] at hr3
 have hb3:=hbA.grown hg3 (by omega) (fun h e=>by cases e; omega)
 have hz3 : w.heap.size + 3 <= Y3.heap.size:=Nat.le_trans hzB hg3.size
 replace kB:=kB.grown hg3 (by simp <;> omega)
 replace kR:=kR.grown hg3 (by simp <;> omega)
 replace kg1:=kg1.grown hg3 (by simp <;> omega)
 replace kg3:=kg3.grown hg3 (by simp <;> omega)
 obtain ⟨Y4,hr4,hm4,hg4⟩:=hm3.put keyed5 Tryz.underlying173 (by unfold maxLen; omega) encU8_inj 4 (.func (.func 107) #[] #[]) (keyOf_u8 4 (by omega) (by omega))
 simp only [encU8,id] at hr4
 have hb4:=hb3.grown hg4 (by omega) (fun h e=>by cases e; omega)
 have hz4 : w.heap.size + 3 <= Y4.heap.size:=Nat.le_trans hz3 hg4.size
 replace kB:=kB.grown hg4 (by simp <;> omega)
 replace kR:=kR.grown hg4 (by simp <;> omega)
 replace kg1:=kg1.grown hg4 (by simp <;> omega)
 replace kg3:=kg3.grown hg4 (by simp <;> omega)
 have hm':=Hd hm4
 have hkB:=Hd kB
 clear kB
 have hkR:=Hd kR
 clear kR
 have hkg1:=Hd kg1
 clear kg1
 have hkg3:=Hd kg3
 clear kg3
 clear hmA hm3 hm4
 go_wp2_with fail
 clear hr3 hg3
 clear hr4 hg4
 clear hbA hzB hzA hb2 hz2 hm2 hb3 hz3
 have hm4:=hm'.out
 clear hm'
 have kB:=hkB.out
 clear hkB
 have kR:=hkR.out
 clear hkR
 have kg1:=hkg1.out
 clear hkg1
 have kg3:=hkg3.out
 clear hkg3
 refine (hlo.out 2 Y4).mono ?_
 rintro e w' ⟨rfl,rfl⟩
 have kN:=Blk.new Y4 5 #[.int .u8 2]
 have hbA:=hb4.alloc hb4.size (.cells #[.int .u8 2] 5)
 have hzA : w.heap.size + 3 <= Y4.heap.size:=hz4
 have hmA:=hm4.alloc (.cells #[.int .u8 2] 5)
 replace kB:=kB.alloc (.cells #[.int .u8 2] 5)
 replace kR:=kR.alloc (.cells #[.int .u8 2] 5)
 replace kg1:=kg1.alloc (.cells #[.int .u8 2] 5)
 replace kg3:=kg3.alloc (.cells #[.int .u8 2] 5)
 have hzB : w.heap.size + 3 <= (Y4.alloc (.cells #[.int .u8 2] 5)).heap.size:=by simp; omega
 generalize hg5 : Y4.heap.size = g5 at *
 have eg5 : w.heap.size + 3 <= g5:=hzA
 clear hg5
 have kg5:=kN
 clear kN
 obtain ⟨Y5,hr5,hm5,hg5⟩:=hmA.put keyed5 Tryz.underlying173 (by unfold maxLen; omega) encU8_inj 5 (.func (.func 105) #[] #[.pointer (some ⟨g5,0,none⟩)]) (keyOf_u8 5 (by omega) (by omega))
 simp only [encU8,id] at hr5
 have hb5:=hbA.grown hg5 (by omega) (fun h e=>by cases e; omega)
 have hz5 : w.heap.size + 3 <= Y5.heap.size:=Nat.le_trans hzB hg5.size
 replace kB:=kB.grown hg5 (by simp <;> omega)
 replace kR:=kR.grown hg5 (by simp <;> omega)
 replace kg1:=kg1.grown hg5 (by simp <;> omega)
 replace kg3:=kg3.grown hg5 (by simp <;> omega)
 replace kg5:=kg5.grown hg5 (by simp <;> omega)
 have hm':=Hd hm5
 have hkB:=Hd kB
 clear kB
 have hkR:=Hd kR
 clear kR
 have hkg1:=Hd kg1
 clear kg1
 have hkg3:=Hd kg3
 clear kg3
 have hkg5:=Hd kg5
 clear kg5
 clear hmA hm5
 go_wp2_with fail
 clear hr5 hg5
 clear hbA hzB hzA hb4 hz4 hm4
 have hm5:=hm'.out
 clear hm'
 have kB:=hkB.out
 clear hkB
 have kR:=hkR.out
 clear hkR
 have kg1:=hkg1.out
 clear hkg1
 have kg3:=hkg3.out
 clear hkg3
 have kg5:=hkg5.out
 clear hkg5
 refine (hca.out 128 Y5).mono ?_
 rintro e w' ⟨rfl,rfl⟩
 have kN:=Blk.new Y5 37 #[.int .u16 128]
 have hbA:=hb5.alloc hb5.size (.cells #[.int .u16 128] 37)
 have hzA : w.heap.size + 3 <= Y5.heap.size:=hz5
 have hmA:=hm5.alloc (.cells #[.int .u16 128] 37)
 replace kB:=kB.alloc (.cells #[.int .u16 128] 37)
 replace kR:=kR.alloc (.cells #[.int .u16 128] 37)
 replace kg1:=kg1.alloc (.cells #[.int .u16 128] 37)
 replace kg3:=kg3.alloc (.cells #[.int .u16 128] 37)
 replace kg5:=kg5.alloc (.cells #[.int .u16 128] 37)
 have hzB : w.heap.size + 3 <= (Y5.alloc (.cells #[.int .u16 128] 37)).heap.size:=by simp; omega
 generalize hg6 : Y5.heap.size = g6 at *
 have eg6 : w.heap.size + 3 <= g6:=hzA
 clear hg6
 have kg6:=kN
 clear kN
 obtain ⟨Y6,hr6,hm6,hg6⟩:=hmA.put keyed5 Tryz.underlying173 (by unfold maxLen; omega) encU8_inj 6 (.func (.func 103) #[] #[.pointer (some ⟨g6,0,none⟩)]) (keyOf_u8 6 (by omega) (by omega))
 simp only [encU8,id] at hr6
 have hb6:=hbA.grown hg6 (by omega) (fun h e=>by cases e; omega)
 have hz6 : w.heap.size + 3 <= Y6.heap.size:=Nat.le_trans hzB hg6.size
 replace kB:=kB.grown hg6 (by simp <;> omega)
 replace kR:=kR.grown hg6 (by simp <;> omega)
 replace kg1:=kg1.grown hg6 (by simp <;> omega)
 replace kg3:=kg3.grown hg6 (by simp <;> omega)
 replace kg5:=kg5.grown hg6 (by simp <;> omega)
 replace kg6:=kg6.grown hg6 (by simp <;> omega)
 have hm':=Hd hm6
 have hkB:=Hd kB
 clear kB
 have hkR:=Hd kR
 clear kR
 have hkg1:=Hd kg1
 clear kg1
 have hkg3:=Hd kg3
 clear kg3
 have hkg5:=Hd kg5
 clear kg5
 have hkg6:=Hd kg6
 clear kg6
 clear hmA hm6
 go_wp2_with fail
 clear hr6 hg6
 clear hbA hzB hzA hb5 hz5 hm5
 have hm6:=hm'.out
 clear hm'
 have kB:=hkB.out
 clear hkB
 have kR:=hkR.out
 clear hkR
 have kg1:=hkg1.out
 clear hkg1
 have kg3:=hkg3.out
 clear hkg3
 have kg5:=hkg5.out
 clear hkg5
 have kg6:=hkg6.out
 clear hkg6
 refine (hca.out 1 Y6).mono ?_
 rintro e w' ⟨rfl,rfl⟩
 have kN:=Blk.new Y6 37 #[.int .u16 1]
 have hbA:=hb6.alloc hb6.size (.cells #[.int .u16 1] 37)
 have hzA : w.heap.size + 3 <= Y6.heap.size:=hz6
 have hmA:=hm6.alloc (.cells #[.int .u16 1] 37)
 replace kB:=kB.alloc (.cells #[.int .u16 1] 37)
 replace kR:=kR.alloc (.cells #[.int .u16 1] 37)
 replace kg1:=kg1.alloc (.cells #[.int .u16 1] 37)
 replace kg3:=kg3.alloc (.cells #[.int .u16 1] 37)
 replace kg5:=kg5.alloc (.cells #[.int .u16 1] 37)
 replace kg6:=kg6.alloc (.cells #[.int .u16 1] 37)
 have hzB : w.heap.size + 3 <= (Y6.alloc (.cells #[.int .u16 1] 37)).heap.size:=by simp; omega
 generalize hg7 : Y6.heap.size = g7 at *
 have eg7 : w.heap.size + 3 <= g7:=hzA
 clear hg7
 have kg7:=kN
 clear kN
 obtain ⟨Y7,hr7,hm7,hg7⟩:=hmA.put keyed5 Tryz.underlying173 (by unfold maxLen; omega) encU8_inj 7 (.func (.func 103) #[] #[.pointer (some ⟨g7,0,none⟩)]) (keyOf_u8 7 (by omega) (by omega))
 simp only [encU8,id] at hr7
 have hb7:=hbA.grown hg7 (by omega) (fun h e=>by cases e; omega)
 have hz7 : w.heap.size + 3 <= Y7.heap.size:=Nat.le_trans hzB hg7.size
 replace kB:=kB.grown hg7 (by simp <;> omega)
 replace kR:=kR.grown hg7 (by simp <;> omega)
 replace kg1:=kg1.grown hg7 (by simp <;> omega)
 replace kg3:=kg3.grown hg7 (by simp <;> omega)
 replace kg5:=kg5.grown hg7 (by simp <;> omega)
 replace kg6:=kg6.grown hg7 (by simp <;> omega)
 replace kg7:=kg7.grown hg7 (by simp <;> omega)
 obtain ⟨Y8,hr8,hm8,hg8⟩:=hm7.put keyed5 Tryz.underlying173 (by unfold maxLen; omega) encU8_inj 8 (.func (.func 107) #[] #[]) (keyOf_u8 8 (by omega) (by omega))
 simp only [encU8,id] at hr8
 have hb8:=hb7.grown hg8 (by omega) (fun h e=>by cases e; omega)
 have hz8 : w.heap.size + 3 <= Y8.heap.size:=Nat.le_trans hz7 hg8.size
 replace kB:=kB.grown hg8 (by simp <;> omega)
 replace kR:=kR.grown hg8 (by simp <;> omega)
 replace kg1:=kg1.grown hg8 (by simp <;> omega)
 replace kg3:=kg3.grown hg8 (by simp <;> omega)
 replace kg5:=kg5.grown hg8 (by simp <;> omega)
 replace kg6:=kg6.grown hg8 (by simp <;> omega)
 replace kg7:=kg7.grown hg8 (by simp <;> omega)
 have hm':=Hd hm8
 have hkB:=Hd kB
 clear kB
 have hkR:=Hd kR
 clear kR
 have hkg1:=Hd kg1
 clear kg1
 have hkg3:=Hd kg3
 clear kg3
 have hkg5:=Hd kg5
 clear kg5
 have hkg6:=Hd kg6
 clear kg6
 have hkg7:=Hd kg7
 clear kg7
 clear hmA hm7 hm8
 go_wp2_with fail
 clear hr7 hg7
 clear hr8 hg8
 clear hbA hzB hzA hb6 hz6 hm6 hb7 hz7
 have hm8:=hm'.out
 clear hm'
 have kB:=hkB.out
 clear hkB
 have kR:=hkR.out
 clear hkR
 have kg1:=hkg1.out
 clear hkg1
 have kg3:=hkg3.out
 clear hkg3
 have kg5:=hkg5.out
 clear hkg5
 have kg6:=hkg6.out
 clear hkg6
 have kg7:=hkg7.out
 clear hkg7
 refine (hca.out 256 Y8).mono ?_
 rintro e w' ⟨rfl,rfl⟩
 have kN:=Blk.new Y8 37 #[.int .u16 256]
 have hbA:=hb8.alloc hb8.size (.cells #[.int .u16 256] 37)
 have hzA : w.heap.size + 3 <= Y8.heap.size:=hz8
 have hmA:=hm8.alloc (.cells #[.int .u16 256] 37)
 replace kB:=kB.alloc (.cells #[.int .u16 256] 37)
 replace kR:=kR.alloc (.cells #[.int .u16 256] 37)
 replace kg1:=kg1.alloc (.cells #[.int .u16 256] 37)
 replace kg3:=kg3.alloc (.cells #[.int .u16 256] 37)
 replace kg5:=kg5.alloc (.cells #[.int .u16 256] 37)
 replace kg6:=kg6.alloc (.cells #[.int .u16 256] 37)
 replace kg7:=kg7.alloc (.cells #[.int .u16 256] 37)
 have hzB : w.heap.size + 3 <= (Y8.alloc (.cells #[.int .u16 256] 37)).heap.size:=by simp; omega
 generalize hg9 : Y8.heap.size = g9 at *
 have eg9 : w.heap.size + 3 <= g9:=hzA
 clear hg9
 have kg9:=kN
 clear kN
 obtain ⟨Y9,hr9,hm9,hg9⟩:=hmA.put keyed5 Tryz.underlying173 (by unfold maxLen; omega) encU8_inj 9 (.func (.func 103) #[] #[.pointer (some ⟨g9,0,none⟩)]) (keyOf_u8 9 (by omega) (by omega))
 simp only [encU8,id] at hr9
 have hb9:=hbA.grown hg9 (by omega) (fun h e=>by cases e; omega)
 have hz9 : w.heap.size + 3 <= Y9.heap.size:=Nat.le_trans hzB hg9.size
 replace kB:=kB.grown hg9 (by simp <;> omega)
 replace kR:=kR.grown hg9 (by simp <;> omega)
 replace kg1:=kg1.grown hg9 (by simp <;> omega)
 replace kg3:=kg3.grown hg9 (by simp <;> omega)
 replace kg5:=kg5.grown hg9 (by simp <;> omega)
 replace kg6:=kg6.grown hg9 (by simp <;> omega)
 replace kg7:=kg7.grown hg9 (by simp <;> omega)
 replace kg9:=kg9.grown hg9 (by simp <;> omega)
 obtain ⟨Y10,hr10,hm10,hg10⟩:=hm9.put keyed5 Tryz.underlying173 (by unfold maxLen; omega) encU8_inj 10 (.func (.func 109) #[] #[.pointer (some ⟨w.heap.size,0,none⟩)]) (keyOf_u8 10 (by omega) (by omega))
 simp only [encU8,id] at hr10
 have hb10:=hb9.grown hg10 (by omega) (fun h e=>by cases e; omega)
 have hz10 : w.heap.size + 3 <= Y10.heap.size:=Nat.le_trans hz9 hg10.size
 replace kB:=kB.grown hg10 (by simp <;> omega)
 replace kR:=kR.grown hg10 (by simp <;> omega)
 replace kg1:=kg1.grown hg10 (by simp <;> omega)
 replace kg3:=kg3.grown hg10 (by simp <;> omega)
 replace kg5:=kg5.grown hg10 (by simp <;> omega)
 replace kg6:=kg6.grown hg10 (by simp <;> omega)
 replace kg7:=kg7.grown hg10 (by simp <;> omega)
 replace kg9:=kg9.grown hg10 (by simp <;> omega)
 have hm':=Hd hm10
 have hkB:=Hd kB
 clear kB
 have hkR:=Hd kR
 clear kR
 have hkg1:=Hd kg1
 clear kg1
 have hkg3:=Hd kg3
 clear kg3
 have hkg5:=Hd kg5
 clear kg5
 have hkg6:=Hd kg6
 clear kg6
 have hkg7:=Hd kg7
 clear kg7
 have hkg9:=Hd kg9
 clear kg9
 clear hmA hm9 hm10
 go_upto_region 7 with fail
 clear hr9 hg9
 clear hr10 hg10
 clear hbA hzB hzA hb8 hz8 hm8 hb9 hz9
 have hm10:=hm'.out
 clear hm'
 have kB:=hkB.out
 clear hkB
 have kR:=hkR.out
 clear hkR
 have kg1:=hkg1.out
 clear hkg1
 have kg3:=hkg3.out
 clear hkg3
 have kg5:=hkg5.out
 clear hkg5
 have kg6:=hkg6.out
 clear hkg6
 have kg7:=hkg7.out
 clear hkg7
 have kg9:=hkg9.out
 clear hkg9
 have kF:=Blk.new Y10 109 #[.string ⟨#[]⟩,.string ⟨#[]⟩,.string ⟨#[]⟩,.string ⟨#[]⟩,.string ⟨#[]⟩,.string ⟨#[]⟩,.string ⟨#[]⟩,.string ⟨#[]⟩,.string ⟨#[]⟩,.string ⟨#[]⟩,.string ⟨#[]⟩]
 have hbW:=hb10.alloc hb10.size (.cells #[.string ⟨#[]⟩,.string ⟨#[]⟩,.string ⟨#[]⟩,.string ⟨#[]⟩,.string ⟨#[]⟩,.string ⟨#[]⟩,.string ⟨#[]⟩,.string ⟨#[]⟩,.string ⟨#[]⟩,.string ⟨#[]⟩,.string ⟨#[]⟩] 109)
 have hmW:=hm10.alloc (.cells #[.string ⟨#[]⟩,.string ⟨#[]⟩,.string ⟨#[]⟩,.string ⟨#[]⟩,.string ⟨#[]⟩,.string ⟨#[]⟩,.string ⟨#[]⟩,.string ⟨#[]⟩,.string ⟨#[]⟩,.string ⟨#[]⟩,.string ⟨#[]⟩] 109)
 have lB:=kB.lt
 have lR:=kR.lt
 have lM:=hm10.lt
 have lg1:=kg1.lt
 have lg3:=kg3.lt
 have lg5:=kg5.lt
 have lg6:=kg6.lt
 have lg7:=kg7.lt
 have lg9:=kg9.lt
 replace kB:=kB.alloc (.cells #[.string ⟨#[]⟩,.string ⟨#[]⟩,.string ⟨#[]⟩,.string ⟨#[]⟩,.string ⟨#[]⟩,.string ⟨#[]⟩,.string ⟨#[]⟩,.string ⟨#[]⟩,.string ⟨#[]⟩,.string ⟨#[]⟩,.string ⟨#[]⟩] 109)
 replace kR:=kR.alloc (.cells #[.string ⟨#[]⟩,.string ⟨#[]⟩,.string ⟨#[]⟩,.string ⟨#[]⟩,.string ⟨#[]⟩,.string ⟨#[]⟩,.string ⟨#[]⟩,.string ⟨#[]⟩,.string ⟨#[]⟩,.string ⟨#[]⟩,.string ⟨#[]⟩] 109)
 replace kg1:=kg1.alloc (.cells #[.string ⟨#[]⟩,.string ⟨#[]⟩,.string ⟨#[]⟩,.string ⟨#[]⟩,.string ⟨#[]⟩,.string ⟨#[]⟩,.string ⟨#[]⟩,.string ⟨#[]⟩,.string ⟨#[]⟩,.string ⟨#[]⟩,.string ⟨#[]⟩] 109)
 replace kg3:=kg3.alloc (.cells #[.string ⟨#[]⟩,.string ⟨#[]⟩,.string ⟨#[]⟩,.string ⟨#[]⟩,.string ⟨#[]⟩,.string ⟨#[]⟩,.string ⟨#[]⟩,.string ⟨#[]⟩,.string ⟨#[]⟩,.string ⟨#[]⟩,.string ⟨#[]⟩] 109)
 replace kg5:=kg5.alloc (.cells #[.string ⟨#[]⟩,.string ⟨#[]⟩,.string ⟨#[]⟩,.string ⟨#[]⟩,.string ⟨#[]⟩,.string ⟨#[]⟩,.string ⟨#[]⟩,.string ⟨#[]⟩,.string ⟨#[]⟩,.string ⟨#[]⟩,.string ⟨#[]⟩] 109)
 replace kg6:=kg6.alloc (.cells #[.string ⟨#[]⟩,.string ⟨#[]⟩,.string ⟨#[]⟩,.string ⟨#[]⟩,.string ⟨#[]⟩,.string ⟨#[]⟩,.string ⟨#[]⟩,.string ⟨#[]⟩,.string ⟨#[]⟩,.string ⟨#[]⟩,.string ⟨#[]⟩] 109)
 replace kg7:=kg7.alloc (.cells #[.string ⟨#[]⟩,.string ⟨#[]⟩,.string ⟨#[]⟩,.string ⟨#[]⟩,.string ⟨#[]⟩,.string ⟨#[]⟩,.string ⟨#[]⟩,.string ⟨#[]⟩,.string ⟨#[]⟩,.string ⟨#[]⟩,.string ⟨#[]⟩] 109)
 replace kg9:=kg9.alloc (.cells #[.string ⟨#[]⟩,.string ⟨#[]⟩,.string ⟨#[]⟩,.string ⟨#[]⟩,.string ⟨#[]⟩,.string ⟨#[]⟩,.string ⟨#[]⟩,.string ⟨#[]⟩,.string ⟨#[]⟩,.string ⟨#[]⟩,.string ⟨#[]⟩] 109)
 have hFB : Y10.heap.size < (Y10.alloc (.cells #[.string ⟨#[]⟩,.string ⟨#[]⟩,.string ⟨#[]⟩,.string ⟨#[]⟩,.string ⟨#[]⟩,.string ⟨#[]⟩,.string ⟨#[]⟩,.string ⟨#[]⟩,.string ⟨#[]⟩,.string ⟨#[]⟩,.string ⟨#[]⟩] 109)).heap.size:=by simp
 have hwFB : w.heap.size + 3 <= Y10.heap.size:=hz10
 clear hb10 hm10 hmk hca hlo
 generalize Y10.alloc (.cells #[.string ⟨#[]⟩,.string ⟨#[]⟩,.string ⟨#[]⟩,.string ⟨#[]⟩,.string ⟨#[]⟩,.string ⟨#[]⟩,.string ⟨#[]⟩,.string ⟨#[]⟩,.string ⟨#[]⟩,.string ⟨#[]⟩,.string ⟨#[]⟩] 109) = W at *
 generalize Y10.heap.size = FB at *
 obtain ⟨A,cc,rfl,hn,hcc,hA⟩:=hv'.out
 unfold maxLen at hcc
 have hA':=Hd hA
 have hL : Hid (∀ (wr : World) (o : Obj) (kd : Int),Below FB W wr -> 0 <= kd -> kd <= 255 -> Sem.run Tryz.prog (Instr.lookup 173 (.map (some (w.heap.size + 1 + 1))) (.int .u8 kd) true) (wr.alloc o) = .ok (.tuple #[orV (@id Value) .nilFunc (getA kd (mustM w.heap.size g1 g3 g5 g6 g7 g9)),.bool (getA kd (mustM w.heap.size g1 g3 g5 g6 g7 g9)).isSome]) (wr.alloc o)):=
  Hd fun wr o kd hwr h0 h1=>((hmW.below hwr lM).alloc o).look_ok keyed5 Tryz.underlying173 (zero154 _) kd (keyOf_u8 kd h0 h1)
 have hC : Hid (∀ (wr : World) (o : Obj),Below FB W wr -> (wr.alloc o).cell? ⟨w.heap.size,0,none⟩ = some (.int .u8 c) /\ (wr.alloc o).cell? ⟨g1,0,none⟩ = some (.int .u16 1) /\ (wr.alloc o).cell? ⟨g3,0,none⟩ = some (.int .u8 1) /\ (wr.alloc o).cell? ⟨g5,0,none⟩ = some (.int .u8 2) /\ (wr.alloc o).cell? ⟨g6,0,none⟩ = some (.int .u16 128) /\ (wr.alloc o).cell? ⟨g7,0,none⟩ = some (.int .u16 1) /\ (wr.alloc o).cell? ⟨g9,0,none⟩ = some (.int .u16 256)):=
  Hd fun wr o hwr=>⟨((kB.below hwr lB).alloc o).cell 0,((kg1.below hwr lg1).alloc o).cell 0,((kg3.below hwr lg3).alloc o).cell 0,((kg5.below hwr lg5).alloc o).cell 0,((kg6.below hwr lg6).alloc o).cell 0,((kg7.below hwr lg7).alloc o).cell 0,((kg9.below hwr lg9).alloc o).cell 0⟩
 have hR : Hid (∀ wx : World,Below FB W wx -> Blk wx (w.heap.size + 1) 109 zc11):=Hd fun wx hwx=>kR.below hwx lR
 have cB0:=Hd (fun (wr : World) (hwr : Below FB W wr)=>(kB.below hwr lB).cell 0)
 have cB1:=kB.cell 1
 simp at cB1
 have hRX : Hid (w.heap.size + 1 < FB):=Hd lR
 have hF':=Hd kF
 clear kF kB kR hmW hA lM lB lR hv' kg1 lg1 kg3 lg3 kg5 lg5 kg6 lg6 kg7 lg7 kg9 lg9
 go_wp2
 go_loopw [9,34] (fun lv iv wr=>∃ (k : Nat) (last : Int),k <= ps.length /\ iv = .int .i64 k /\ lv = .int .u8 last /\ Below FB W wr /\ Blk wr FB 109 ((foundTo ps k).map Value.string).toArray /\ Hid (partsTo c 0 ps = partsTo c last (ps.drop k)))
  (fun _ iv _=>ps.length - (intOf iv).toNat)
 case atStart=>exact ⟨0,0,by omega,rfl,rfl,Below.refl _ _,hF'.out,Hd rfl⟩
 case round=>
  obtain ⟨k,last,hk,rfl,rfl,hbF,hblk,hpt⟩:=hrel
  rename World=>wr
  have n0 : (0 : Int) <= (k : Int):=by omega
  have hsF:=hblk.lt
  have hbw:=hbW.trans (hbF.mono (by omega))
  have hblk':=Hd hblk
  have hbF':=Hd hbF
  clear hblk hbF
  by_cases hlt : k < ps.length
  ·have n1 : (k : Int) < (ps.length : Int):=by omega
   obtain ⟨b,off,rfl,hb,hi⟩:=hA'.out (by omega)
   obtain ⟨p0,p1⟩:=hi k hlt
   rw [<- hbw.cell (p:=⟨b,off + k * 2,none⟩) hb] at p0
   rw [<- hbw.cell (p:=⟨b,off + k * 2 + 1,none⟩) hb] at p1
   obtain ⟨tsz,tk0,tk1⟩:=hps'.out (ps.getD k PPart.zero) (by rw [getD_at _ _ _ hlt]; exact List.getElem_mem hlt)
   have hyes:=Hd (partsTo_yes (c:=c) (last:=last) hlt)
   have hno:=Hd (partsTo_no (c:=c) (last:=last) hlt)
   have hfs:=Hd (foundTo_succ ps k hlt)
   have hfl:=Hd (foundTo_len ps k)
   clear hi hb
   generalize ps.getD k PPart.zero = p at *
   obtain ⟨kd,tx⟩:=p
   simp only at p0 p1 tsz tk0 tk1
   have hrp : Hid (partsTo c last (ps.drop k) = false -> rightP c ps = false):=Hd fun h=>by unfold rightP; rw [hpt.out,h]; rfl
   have hup : Below wr.heap.size wr (wr.alloc (.cells #[.int .u8 kd,.string tx] 44)):=(Below.refl _ _).alloc (lQ _) _
   have hlk:=hL.out wr (.cells #[.int .u8 kd,.string tx] 44) kd hbF'.out tk0 tk1
   have hbA:=Hd (hbF'.out.trans (hup.mono (by have:=hbF'.out.size; omega)))
   have hbwA:=Hd (hbw.trans (hup.mono hbw.size))
   by_cases hkn : (getA kd (mustM w.heap.size g1 g3 g5 g6 g7 g9)).isSome = true
   case neg=>
    have hb0 : (getA kd (mustM w.heap.size g1 g3 g5 g6 g7 g9)).isSome = false:=by simpa using hkn
    rw [hb0] at hlk
    have hrf : Hid (rightP c ps = false):=Hd (hrp.out (hno.out fun h=>by
     have h2:=isPart_known h.2
     rw [must_known] at hb0
     simp at hb0
     simp only at h2
     omega))
    generalize orV (@id Value) .nilFunc (getA kd (mustM w.heap.size g1 g3 g5 g6 g7 g9)) = fv at *
    clear hkn hb0
    go_upto_region 12 with fail
    apply wp_region_lit
    refine wpList_buildTo rfl 109 _ rfl (some 60) rfl zc11 (by kernel_rfl) ?_
    simp only [Act.put,sX,sZ,sS]
    refine wpList_store_rowTo rfl 109 _ _ rfl rfl (w.heap.size + 1) zc11 rfl rfl 109 zc11 (hR.out _ hbA.out) info109 rfl (one_strs zeros11) ?_
    go_wp2
    refine bodyPost_ret (results_row_tmp (P:=Tryz.prog) Tryz.results58 _ _ _ _ _ _ rfl ((hR.out _ hbA.out).setRow_ _) Tryz.underlying109 rfl info109) rfl ⟨zeros11,by rw [hrf.out]; rfl,rfl,fun h=>(by rw [hrf.out] at h; cases h),Below.setRow_ hbwA.out (by omega) _⟩
   case pos=>
   rw [hkn] at hlk
   by_cases hle : kd <= last
   case pos=>
    have hrf : Hid (rightP c ps = false):=Hd (hrp.out (hno.out fun h=>by have:=h.1; simp only at this; omega))
    have hdl : decide (kd <= last) = true:=decide_eq_true hle
    generalize orV (@id Value) .nilFunc (getA kd (mustM w.heap.size g1 g3 g5 g6 g7 g9)) = fv at *
    clear hkn hle
    go_upto_region 12 with fail
    apply wp_region_lit
    refine wpList_buildTo rfl 109 _ rfl (some 60) rfl zc11 (by kernel_rfl) ?_
    simp only [Act.put,sX,sZ,sS]
    refine wpList_store_rowTo rfl 109 _ _ rfl rfl (w.heap.size + 1) zc11 rfl rfl 109 zc11 (hR.out _ hbA.out) info109 rfl (one_strs zeros11) ?_
    go_wp2
    refine bodyPost_ret (results_row_tmp (P:=Tryz.prog) Tryz.results58 _ _ _ _ _ _ rfl ((hR.out _ hbA.out).setRow_ _) Tryz.underlying109 rfl info109) rfl ⟨zeros11,by rw [hrf.out]; rfl,rfl,fun h=>(by rw [hrf.out] at h; cases h),Below.setRow_ hbwA.out (by omega) _⟩
   case neg=>
   have hdl : decide (kd <= last) = false:=decide_eq_false hle
   have hlt2 : last < kd:=by omega
   have hk10 : 1 <= kd /\ kd <= 10:=by
    rw [must_known] at hkn
    simp at hkn
    exact hkn
   have hltk:=Hd hlt2
   obtain rfl | rfl | rfl | rfl | rfl | rfl | rfl | rfl | rfl | rfl : kd = 1 \/ kd = 2 \/ kd = 3 \/ kd = 4 \/ kd = 5 \/ kd = 6 \/ kd = 7 \/ kd = 8 \/ kd = 9 \/ kd = 10:=by omega
   case' inl=>
    have hcl:=hC.out wr (.cells #[.int .u8 1,.string tx] 44) hbF'.out
    have hcon : Hid (Calls Tryz.prog 103 #[.string tx,.pointer (some ⟨g1,0,none⟩)] (wr.alloc (.cells #[.int .u8 1,.string tx] 44)) fun e w'=>e = .returned (.bool (clsB tx 0)) /\ Below (wr.alloc (.cells #[.int .u8 1,.string tx] 44)).heap.size (wr.alloc (.cells #[.int .u8 1,.string tx] 44)) w'):=Hd (classed1_any tx 0 (by omega) g1 (wr.alloc (.cells #[.int .u8 1,.string tx] 44)) tsz (by simpa using hcl.2.1))
    rw [show orV (@id Value) .nilFunc (getA 1 (mustM w.heap.size g1 g3 g5 g6 g7 g9)) = .func (.func 103) #[] #[.pointer (some ⟨g1,0,none⟩)] from rfl] at hlk
    have kp:=Hd (Blk.new wr 44 #[.int .u8 1,.string tx])
    have hno2:=Hd (fun (h : clsB tx 0 = false)=>hrp.out (hno.out fun h1=>by
     have h2 : clsB tx 0 = true:=h1.2
     rw [h] at h2; cases h2))
    have hye2:=Hd (fun (h : clsB tx 0 = true)=>hpt.out.trans (hyes.out hltk.out h))
    have hat:=Hd (fun (W : World) h=>found_set (W:=W) (FB:=FB) (n:=1) (tx:=tx) h (by rw [hfl.out]; omega) (show foundTo ps (k + 1) = (foundTo ps k).set 1 tx from hfs.out))
    generalize clsB tx 0 = cb at hcon hno2 hye2
   case' inr.inl=>
    have hcl:=hC.out wr (.cells #[.int .u8 2,.string tx] 44) hbF'.out
    have hcon : Hid (Calls Tryz.prog 108 #[.string tx] (wr.alloc (.cells #[.int .u8 2,.string tx] 44)) fun e w'=>e = .returned (.bool (letter1 tx)) /\ Below (wr.alloc (.cells #[.int .u8 2,.string tx] 44)).heap.size (wr.alloc (.cells #[.int .u8 2,.string tx] 44)) w'):=Hd (((letter1_any tx (wr.alloc (.cells #[.int .u8 2,.string tx] 44))).mono fun _ _ h=>⟨h.1,by rw [h.2]; exact Below.refl _ _⟩))
    rw [show orV (@id Value) .nilFunc (getA 2 (mustM w.heap.size g1 g3 g5 g6 g7 g9)) = .func (.func 108) #[] #[] from rfl] at hlk
    have kp:=Hd (Blk.new wr 44 #[.int .u8 2,.string tx])
    have hno2:=Hd (fun (h : letter1 tx = false)=>hrp.out (hno.out fun h1=>by
     have h2 : letter1 tx = true:=h1.2
     rw [h] at h2; cases h2))
    have hye2:=Hd (fun (h : letter1 tx = true)=>hpt.out.trans (hyes.out hltk.out h))
    have hat:=Hd (fun (W : World) h=>found_set (W:=W) (FB:=FB) (n:=2) (tx:=tx) h (by rw [hfl.out]; omega) (show foundTo ps (k + 1) = (foundTo ps k).set 2 tx from hfs.out))
    generalize letter1 tx = cb at hcon hno2 hye2
   case' inr.inr.inl=>
    have hcl:=hC.out wr (.cells #[.int .u8 3,.string tx] 44) hbF'.out
    have hcon : Hid (Calls Tryz.prog 105 #[.string tx,.pointer (some ⟨g3,0,none⟩)] (wr.alloc (.cells #[.int .u8 3,.string tx] 44)) fun e w'=>e = .returned (.bool ((shortOf 1 tx).2)) /\ Below (wr.alloc (.cells #[.int .u8 3,.string tx] 44)).heap.size (wr.alloc (.cells #[.int .u8 3,.string tx] 44)) w'):=Hd (long1_any tx 1 g3 (wr.alloc (.cells #[.int .u8 3,.string tx] 44)) (by simpa using hcl.2.2.1))
    rw [show orV (@id Value) .nilFunc (getA 3 (mustM w.heap.size g1 g3 g5 g6 g7 g9)) = .func (.func 105) #[] #[.pointer (some ⟨g3,0,none⟩)] from rfl] at hlk
    have kp:=Hd (Blk.new wr 44 #[.int .u8 3,.string tx])
    have hno2:=Hd (fun (h : (shortOf 1 tx).2 = false)=>hrp.out (hno.out fun h1=>by
     have h2 : (shortOf 1 tx).2 = true:=h1.2
     rw [h] at h2; cases h2))
    have hye2:=Hd (fun (h : (shortOf 1 tx).2 = true)=>hpt.out.trans (hyes.out hltk.out h))
    have hat:=Hd (fun (W : World) h=>found_set (W:=W) (FB:=FB) (n:=3) (tx:=tx) h (by rw [hfl.out]; omega) (show foundTo ps (k + 1) = (foundTo ps k).set 3 tx from hfs.out))
    generalize (shortOf 1 tx).2 = cb at hcon hno2 hye2
   case' inr.inr.inr.inl=>
    have hcl:=hC.out wr (.cells #[.int .u8 4,.string tx] 44) hbF'.out
    have hcon : Hid (Calls Tryz.prog 107 #[.string tx] (wr.alloc (.cells #[.int .u8 4,.string tx] 44)) fun e w'=>e = .returned (.bool (isNameP tx)) /\ Below (wr.alloc (.cells #[.int .u8 4,.string tx] 44)).heap.size (wr.alloc (.cells #[.int .u8 4,.string tx] 44)) w'):=Hd (isName_of tx (wr.alloc (.cells #[.int .u8 4,.string tx] 44)) tsz)
    rw [show orV (@id Value) .nilFunc (getA 4 (mustM w.heap.size g1 g3 g5 g6 g7 g9)) = .func (.func 107) #[] #[] from rfl] at hlk
    have kp:=Hd (Blk.new wr 44 #[.int .u8 4,.string tx])
    have hno2:=Hd (fun (h : isNameP tx = false)=>hrp.out (hno.out fun h1=>by
     have h2 : isNameP tx = true:=h1.2
     rw [h] at h2; cases h2))
    have hye2:=Hd (fun (h : isNameP tx = true)=>hpt.out.trans (hyes.out hltk.out h))
    have hat:=Hd (fun (W : World) h=>found_set (W:=W) (FB:=FB) (n:=4) (tx:=tx) h (by rw [hfl.out]; omega) (show foundTo ps (k + 1) = (foundTo ps k).set 4 tx from hfs.out))
    generalize isNameP tx = cb at hcon hno2 hye2
   case' inr.inr.inr.inr.inl=>
    have hcl:=hC.out wr (.cells #[.int .u8 5,.string tx] 44) hbF'.out
    have hcon : Hid (Calls Tryz.prog 105 #[.string tx,.pointer (some ⟨g5,0,none⟩)] (wr.alloc (.cells #[.int .u8 5,.string tx] 44)) fun e w'=>e = .returned (.bool ((shortOf 2 tx).2)) /\ Below (wr.alloc (.cells #[.int .u8 5,.string tx] 44)).heap.size (wr.alloc (.cells #[.int .u8 5,.string tx] 44)) w'):=Hd (long1_any tx 2 g5 (wr.alloc (.cells #[.int .u8 5,.string tx] 44)) (by simpa using hcl.2.2.2.1))
    rw [show orV (@id Value) .nilFunc (getA 5 (mustM w.heap.size g1 g3 g5 g6 g7 g9)) = .func (.func 105) #[] #[.pointer (some ⟨g5,0,none⟩)] from rfl] at hlk
    have kp:=Hd (Blk.new wr 44 #[.int .u8 5,.string tx])
    have hno2:=Hd (fun (h : (shortOf 2 tx).2 = false)=>hrp.out (hno.out fun h1=>by
     have h2 : (shortOf 2 tx).2 = true:=h1.2
     rw [h] at h2; cases h2))
    have hye2:=Hd (fun (h : (shortOf 2 tx).2 = true)=>hpt.out.trans (hyes.out hltk.out h))
    have hat:=Hd (fun (W : World) h=>found_set (W:=W) (FB:=FB) (n:=5) (tx:=tx) h (by rw [hfl.out]; omega) (show foundTo ps (k + 1) = (foundTo ps k).set 5 tx from hfs.out))
    generalize (shortOf 2 tx).2 = cb at hcon hno2 hye2
   case' inr.inr.inr.inr.inr.inl=>
    have hcl:=hC.out wr (.cells #[.int .u8 6,.string tx] 44) hbF'.out
    have hcon : Hid (Calls Tryz.prog 103 #[.string tx,.pointer (some ⟨g6,0,none⟩)] (wr.alloc (.cells #[.int .u8 6,.string tx] 44)) fun e w'=>e = .returned (.bool (clsB tx 7)) /\ Below (wr.alloc (.cells #[.int .u8 6,.string tx] 44)).heap.size (wr.alloc (.cells #[.int .u8 6,.string tx] 44)) w'):=Hd (classed1_any tx 7 (by omega) g6 (wr.alloc (.cells #[.int .u8 6,.string tx] 44)) tsz (by simpa using hcl.2.2.2.2.1))
    rw [show orV (@id Value) .nilFunc (getA 6 (mustM w.heap.size g1 g3 g5 g6 g7 g9)) = .func (.func 103) #[] #[.pointer (some ⟨g6,0,none⟩)] from rfl] at hlk
    have kp:=Hd (Blk.new wr 44 #[.int .u8 6,.string tx])
    have hno2:=Hd (fun (h : clsB tx 7 = false)=>hrp.out (hno.out fun h1=>by
     have h2 : clsB tx 7 = true:=h1.2
     rw [h] at h2; cases h2))
    have hye2:=Hd (fun (h : clsB tx 7 = true)=>hpt.out.trans (hyes.out hltk.out h))
    have hat:=Hd (fun (W : World) h=>found_set (W:=W) (FB:=FB) (n:=6) (tx:=tx) h (by rw [hfl.out]; omega) (show foundTo ps (k + 1) = (foundTo ps k).set 6 tx from hfs.out))
    generalize clsB tx 7 = cb at hcon hno2 hye2
   case' inr.inr.inr.inr.inr.inr.inl=>
    have hcl:=hC.out wr (.cells #[.int .u8 7,.string tx] 44) hbF'.out
    have hcon : Hid (Calls Tryz.prog 103 #[.string tx,.pointer (some ⟨g7,0,none⟩)] (wr.alloc (.cells #[.int .u8 7,.string tx] 44)) fun e w'=>e = .returned (.bool (clsB tx 0)) /\ Below (wr.alloc (.cells #[.int .u8 7,.string tx] 44)).heap.size (wr.alloc (.cells #[.int .u8 7,.string tx] 44)) w'):=Hd (classed1_any tx 0 (by omega) g7 (wr.alloc (.cells #[.int .u8 7,.string tx] 44)) tsz (by simpa using hcl.2.2.2.2.2.1))
    rw [show orV (@id Value) .nilFunc (getA 7 (mustM w.heap.size g1 g3 g5 g6 g7 g9)) = .func (.func 103) #[] #[.pointer (some ⟨g7,0,none⟩)] from rfl] at hlk
    have kp:=Hd (Blk.new wr 44 #[.int .u8 7,.string tx])
    have hno2:=Hd (fun (h : clsB tx 0 = false)=>hrp.out (hno.out fun h1=>by
     have h2 : clsB tx 0 = true:=h1.2
     rw [h] at h2; cases h2))
    have hye2:=Hd (fun (h : clsB tx 0 = true)=>hpt.out.trans (hyes.out hltk.out h))
    have hat:=Hd (fun (W : World) h=>found_set (W:=W) (FB:=FB) (n:=7) (tx:=tx) h (by rw [hfl.out]; omega) (show foundTo ps (k + 1) = (foundTo ps k).set 7 tx from hfs.out))
    generalize clsB tx 0 = cb at hcon hno2 hye2
   case' inr.inr.inr.inr.inr.inr.inr.inl=>
    have hcl:=hC.out wr (.cells #[.int .u8 8,.string tx] 44) hbF'.out
    have hcon : Hid (Calls Tryz.prog 107 #[.string tx] (wr.alloc (.cells #[.int .u8 8,.string tx] 44)) fun e w'=>e = .returned (.bool (isNameP tx)) /\ Below (wr.alloc (.cells #[.int .u8 8,.string tx] 44)).heap.size (wr.alloc (.cells #[.int .u8 8,.string tx] 44)) w'):=Hd (isName_of tx (wr.alloc (.cells #[.int .u8 8,.string tx] 44)) tsz)
    rw [show orV (@id Value) .nilFunc (getA 8 (mustM w.heap.size g1 g3 g5 g6 g7 g9)) = .func (.func 107) #[] #[] from rfl] at hlk
    have kp:=Hd (Blk.new wr 44 #[.int .u8 8,.string tx])
    have hno2:=Hd (fun (h : isNameP tx = false)=>hrp.out (hno.out fun h1=>by
     have h2 : isNameP tx = true:=h1.2
     rw [h] at h2; cases h2))
    have hye2:=Hd (fun (h : isNameP tx = true)=>hpt.out.trans (hyes.out hltk.out h))
    have hat:=Hd (fun (W : World) h=>found_set (W:=W) (FB:=FB) (n:=8) (tx:=tx) h (by rw [hfl.out]; omega) (show foundTo ps (k + 1) = (foundTo ps k).set 8 tx from hfs.out))
    generalize isNameP tx = cb at hcon hno2 hye2
   case' inr.inr.inr.inr.inr.inr.inr.inr.inl=>
    have hcl:=hC.out wr (.cells #[.int .u8 9,.string tx] 44) hbF'.out
    have hcon : Hid (Calls Tryz.prog 103 #[.string tx,.pointer (some ⟨g9,0,none⟩)] (wr.alloc (.cells #[.int .u8 9,.string tx] 44)) fun e w'=>e = .returned (.bool (clsB tx 8)) /\ Below (wr.alloc (.cells #[.int .u8 9,.string tx] 44)).heap.size (wr.alloc (.cells #[.int .u8 9,.string tx] 44)) w'):=Hd (classed1_any tx 8 (by omega) g9 (wr.alloc (.cells #[.int .u8 9,.string tx] 44)) tsz (by simpa using hcl.2.2.2.2.2.2))
    rw [show orV (@id Value) .nilFunc (getA 9 (mustM w.heap.size g1 g3 g5 g6 g7 g9)) = .func (.func 103) #[] #[.pointer (some ⟨g9,0,none⟩)] from rfl] at hlk
    have kp:=Hd (Blk.new wr 44 #[.int .u8 9,.string tx])
    have hno2:=Hd (fun (h : clsB tx 8 = false)=>hrp.out (hno.out fun h1=>by
     have h2 : clsB tx 8 = true:=h1.2
     rw [h] at h2; cases h2))
    have hye2:=Hd (fun (h : clsB tx 8 = true)=>hpt.out.trans (hyes.out hltk.out h))
    have hat:=Hd (fun (W : World) h=>found_set (W:=W) (FB:=FB) (n:=9) (tx:=tx) h (by rw [hfl.out]; omega) (show foundTo ps (k + 1) = (foundTo ps k).set 9 tx from hfs.out))
    generalize clsB tx 8 = cb at hcon hno2 hye2
   case' inr.inr.inr.inr.inr.inr.inr.inr.inr=>
    have hcl:=hC.out wr (.cells #[.int .u8 10,.string tx] 44) hbF'.out
    have hcon : Hid (Calls Tryz.prog 109 #[.string tx,.pointer (some ⟨w.heap.size,0,none⟩)] (wr.alloc (.cells #[.int .u8 10,.string tx] 44)) fun e w'=>e = .returned (.bool (isCodeP c tx)) /\ Below (wr.alloc (.cells #[.int .u8 10,.string tx] 44)).heap.size (wr.alloc (.cells #[.int .u8 10,.string tx] 44)) w'):=Hd (isCode_of c tx w.heap.size (wr.alloc (.cells #[.int .u8 10,.string tx] 44)) tsz hcl.1)
    rw [show orV (@id Value) .nilFunc (getA 10 (mustM w.heap.size g1 g3 g5 g6 g7 g9)) = .func (.func 109) #[] #[.pointer (some ⟨w.heap.size,0,none⟩)] from rfl] at hlk
    have kp:=Hd (Blk.new wr 44 #[.int .u8 10,.string tx])
    have hno2:=Hd (fun (h : isCodeP c tx = false)=>hrp.out (hno.out fun h1=>by
     have h2 : isCodeP c tx = true:=h1.2
     rw [h] at h2; cases h2))
    have hye2:=Hd (fun (h : isCodeP c tx = true)=>hpt.out.trans (hyes.out hltk.out h))
    have hat:=Hd (fun (W : World) h=>found_set (W:=W) (FB:=FB) (n:=10) (tx:=tx) h (by rw [hfl.out]; omega) (show foundTo ps (k + 1) = (foundTo ps k).set 10 tx from hfs.out))
    generalize isCodeP c tx = cb at hcon hno2 hye2
   all_goals
    clear hcl hkn hk10 hle hlt2 hyes hno hfs
    go_wp2_with fail
    refine hcon.out.mono ?_
    rintro e w2 ⟨rfl,hb2⟩
    have hw2 : Below wr.heap.size wr w2:=hup.trans (hb2.mono hup.size)
    have hbA2:=Hd (hbF'.out.trans (hw2.mono (by have:=hbF'.out.size; omega)))
    have hbw2:=Hd (hbw.trans (hw2.mono hbw.size))
    cases cb with
    | false=>
     have hrf:=Hd (hno2.out rfl)
     clear hno2 hye2 hb2 hlk
     go_upto_region 12 with fail
     apply wp_region_lit
     refine wpList_buildTo rfl 109 _ rfl (some 60) rfl zc11 (by kernel_rfl) ?_
     simp only [Act.put,sX,sZ,sS]
     refine wpList_store_rowTo rfl 109 _ _ rfl rfl (w.heap.size + 1) zc11 rfl rfl 109 zc11 (hR.out _ hbA2.out) info109 rfl (one_strs zeros11) ?_
     go_wp2
     refine bodyPost_ret (results_row_tmp (P:=Tryz.prog) Tryz.results58 _ _ _ _ _ _ rfl ((hR.out _ hbA2.out).setRow_ _) Tryz.underlying109 rfl info109) rfl ⟨zeros11,by rw [hrf.out]; rfl,rfl,fun h=>(by rw [hrf.out] at h; cases h),Below.setRow_ hbw2.out (by omega) _⟩
    | true=>
     have hpt':=Hd (hye2.out rfl)
     have kp2:=kp.out.below hb2 (by simp)
     have z0:=kp2.cell 0
     have z1:=kp2.cell 1
     have zl:=kp2.lt
     simp at z0 z1
     have hF2:=hblk'.out.below hw2 hsF
     obtain ⟨y,cF,fF,hset⟩:=hat.out _ hF2
     have hset':=Hd hset
     clear hset hF2 kp2 hno2 hye2 hat hb2 hlk
     go_wp2
     go_roundw
     case rel=>exact ⟨k + 1,_,by omega,by go_num,rfl,hbA2.out.setCell (lQ _) _,hset'.out,hpt'⟩
     case measure=>simp [intOf]; omega
  ·obtain rfl : k = ps.length:=by omega
   have hrp : Hid (rightP c ps = fitB c (hasI (foundOf ps))):=Hd (by
    unfold rightP
    rw [hpt.out,List.drop_length,partsTo,Bool.true_and])
   have hbk:=hblk'.out
   rw [foundTo_all] at hbk
   have hfl : Hid ((foundOf ps).length = 11):=Hd (by rw [<- foundTo_all]; exact foundTo_len _ _)
   obtain ⟨fd,hfd⟩ : ∃ fd,fd = foundOf ps:=⟨_,rfl⟩
   rw [<- hfd] at hrp hbk hfl
   replace hfd:=Hd hfd
   have hif : (Tryz.prog.info? 109).map (·.size) = some ((fd.map Value.string).toArray).size:=by rw [info109]; simp [hfl.out]
   have cB:=cB0.out wr hbF'.out
   simp at cB
   have hft:=Hd (fit_any fd hfl.out c wr)
   have hbwr:=hbw.size
   go_upto_region 16 with fail
   apply wp_region_lit
   refine wpList_load_row rfl 109 (.tmp 8) rfl FB rfl 109 (fd.map Value.string).toArray (0,0) _ hbk Tryz.underlying109 rfl hif ?_
   simp only [Act.put,sX,sZ,sS]
   go_wp2_with fail
   refine hft.out.mono ?_
   rintro e w2 ⟨rfl,hb2⟩
   have hbA:=Hd (hbF'.out.trans (hb2.mono (by have:=hbF'.out.size; omega)))
   have hbwA:=Hd (hbw.trans (hb2.mono hbwr))
   have hbk2:=hbk.below hb2 hsF
   cases hfb : fitB c (hasI fd) with
   | false=>
    have hrf : Hid (rightP c ps = false):=Hd (by rw [hrp.out,hfb])
    clear hfb hbk hif
    go_upto_region 17 with fail
    apply wp_region_lit
    refine wpList_buildTo rfl 109 _ rfl (some 73) rfl zc11 (by kernel_rfl) ?_
    simp only [Act.put,sX,sZ,sS]
    refine wpList_store_rowTo rfl 109 _ _ rfl rfl (w.heap.size + 1) zc11 rfl rfl 109 zc11 (hR.out _ hbA.out) info109 rfl (one_strs zeros11) ?_
    go_wp2
    refine bodyPost_ret (results_row_tmp (P:=Tryz.prog) Tryz.results58 _ _ _ _ _ _ rfl ((hR.out _ hbA.out).setRow_ _) Tryz.underlying109 rfl info109) rfl ⟨zeros11,by rw [hrf.out]; rfl,rfl,fun h=>(by rw [hrf.out] at h; cases h),Below.setRow_ hbwA.out (by omega) _⟩
   | true=>
    have hrf : Hid (rightP c ps = true):=Hd (by rw [hrp.out,hfb])
    clear hfb hbk
    go_upto_region 18 with fail
    apply wp_region_lit
    refine wpList_load_row rfl 109 (.tmp 8) rfl FB rfl 109 (fd.map Value.string).toArray (0,0) _ hbk2 Tryz.underlying109 rfl hif ?_
    simp only [Act.put,sX,sZ,sS]
    refine wpList_store_rowTo rfl 109 _ _ rfl rfl (w.heap.size + 1) (fd.map Value.string).toArray rfl rfl 109 zc11 (hR.out _ hbA.out) hif (by simp [hfl.out]; rfl) (one_strs fd) ?_
    go_wp2
    refine bodyPost_ret (results_row_tmp (P:=Tryz.prog) Tryz.results58 _ _ _ _ _ _ rfl ((hR.out _ hbA.out).setRow_ _) Tryz.underlying109 rfl hif) rfl ⟨fd,by rw [hrf.out]; rfl,hfl.out,fun _=>hfd.out,Below.setRow_ hbwA.out (by omega) _⟩
end
end Go.Proofs.YteclineblddpbaaGreatDoorR
