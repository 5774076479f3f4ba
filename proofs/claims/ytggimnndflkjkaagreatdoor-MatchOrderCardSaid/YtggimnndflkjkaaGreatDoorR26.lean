import Derived.Test.YtggimnndflkjkaaGreatDoorR01
import Derived.Test.YtggimnndflkjkaaGreatDoorR08
import Derived.Test.YtggimnndflkjkaaGreatDoorR22
import Derived.Test.YtggimnndflkjkaaGreatDoorR23
import Derived.Test.YtggimnndflkjkaaGreatDoorR25
import Derived.Great.Walk
import Derived.Great.Ranges
set_option linter.all false
set_option maxRecDepth 100000
set_option maxHeartbeats 0
namespace Go.Proofs.YtggimnndflkjkaaGreatDoor
section
open Go.RowKit Go.Maps
def zpe : Array Value:=#[.int .u8 1,.func (.func 89) #[] #[],.int .i64 (-1),.func (.func 91) #[] #[],.int .u8 2,.func (.func 92) #[] #[],.int .i64 (-1),.func (.func 91) #[] #[],.int .u8 6,.func (.func 93) #[] #[],.int .i64 5,.func (.func 91) #[] #[],
 .int .u8 7,.func (.func 94) #[] #[],.int .i64 (-1),.func (.func 91) #[] #[],.int .u8 10,.func (.func 95) #[] #[],.int .i64 3,.func (.func 96) #[] #[]]
def zxU : Array Value:=#[.int .u8 0,.nilFunc,.int .i64 0,.nilFunc,.int .u8 0,.nilFunc,.int .i64 0,.nilFunc,.int .u8 0,.nilFunc,.int .i64 0,.nilFunc,.int .u8 0,.nilFunc,.int .i64 0,.nilFunc,.int .u8 0,.nilFunc,.int .i64 0,.nilFunc]
theorem zuN : (Tryz.prog.info? 123).map (·.size) = some zpe.size:=by kernel_rfl
theorem zyY : zxU.size = zpe.size:=by kernel_rfl
theorem zzD : zpe.all (·.oneCell') = true:=by kernel_rfl
theorem zoV (w : World) : Calls Tryz.prog 52 #[] w fun e w'=>e = .returned (.agg zpe) /\ w' = w.alloc (.cells zpe 123):=by
 go_enter Tryz.func52,Tryz.ntmps52;go_upto_region 1 with fail
 apply wp_region_lit
 refine wpList_buildTo rfl 122 _ rfl (some 1) rfl #[.int .u8 1,.func (.func 89) #[] #[],.int .i64 (-1),.func (.func 91) #[] #[]] (by kernel_rfl) ?_;simp only [Act.put,sX,sZ,sS];refine wpList_buildTo rfl 122 _ rfl (some 2) rfl #[.int .u8 2,.func (.func 92) #[] #[],.int .i64 (-1),.func (.func 91) #[] #[]] (by kernel_rfl) ?_;simp only [Act.put,sX,sZ,sS];refine wpList_buildTo rfl 122 _ rfl (some 3) rfl #[.int .u8 6,.func (.func 93) #[] #[],.int .i64 5,.func (.func 91) #[] #[]] (by kernel_rfl) ?_;simp only [Act.put,sX,sZ,sS];refine wpList_buildTo rfl 122 _ rfl (some 4) rfl #[.int .u8 7,.func (.func 94) #[] #[],.int .i64 (-1),.func (.func 91) #[] #[]] (by kernel_rfl) ?_;simp only [Act.put,sX,sZ,sS];refine wpList_buildTo rfl 122 _ rfl (some 5) rfl #[.int .u8 10,.func (.func 95) #[] #[],.int .i64 3,.func (.func 96) #[] #[]] (by kernel_rfl) ?_;simp only [Act.put,sX,sZ,sS];refine wpList_buildTo rfl 123 _ rfl (some 6) rfl zpe (by kernel_rfl) ?_;simp only [Act.put,sX,sZ,sS];refine wpList_store_rowTo rfl 123 _ _ rfl rfl w.heap.size zpe rfl rfl 123 zxU (heap_alloc_last _ _) zuN zyY zzD ?_;rw [World.setRow_alloc_new]
 apply wpList_nil
 go_wp2;refine bodyPost_ret (results_cell_row Tryz.results52 _ _ _ _ _ (0,0) _ rfl (Blk.new _ _ _) Tryz.underlying123 rfl zuN) rfl ⟨rfl,rfl⟩
end
section
open Go.RowKit
def zG (v : Nat -> ByteArray) : Nat -> List zu
 | 0=>[]
 | k + 1=>zG v k ++ (if (v (k + 1)).size = 0 then [] else [⟨(k + 1 : Nat),v (k + 1)⟩])
def zm (v : Nat -> ByteArray) : List zu:=zG v 10
theorem zlt {b : ByteArray} (h : b.size = 0) : b = ⟨#[]⟩:=by
 obtain ⟨⟨l⟩⟩:=b;simp [ByteArray.size] at h;rw [h]
theorem zrN {α : Type} (l : List α) (i : Nat) (a d : α) (j : Nat) (h : i < l.length) : (l.set i a).getD j d = if j = i then a else l.getD j d:=by
 rw [List.getD_eq_getElem?_getD,List.getD_eq_getElem?_getD,List.getElem?_set];by_cases e : i = j
 ·subst e; simp [h]
 ·simp [e,Ne.symm e]
theorem zkT (v : Nat -> ByteArray) : ∀ k,k <= 10 -> ∀ j,zab (zv (zG v k)) j = if 1 <= j /\ j <= k then v j else ⟨#[]⟩
 | 0,_,j=>by
  rw [if_neg (by omega)];unfold zab zv zG zbQ;rw [List.foldl_nil,List.getD_eq_getElem?_getD,List.getElem?_replicate]
  split <;> rfl
 | k + 1,h,j=>by
  have ih:=zkT v k (by omega);unfold zG zv;rw [List.foldl_append]
  split
  ·rename_i hz
   rw [List.foldl_nil];have:=ih j;unfold zv at this;rw [this];by_cases e : j = k + 1
   ·subst e
    rw [if_neg (by omega),if_pos (by omega),zlt hz]
   ·by_cases e2 : 1 <= j /\ j <= k
    ·rw [if_pos e2,if_pos (by omega)]
    ·rw [if_neg e2,if_neg (by omega)]
  ·rw [List.foldl_cons,List.foldl_nil]
   have hput : ∀ l : List ByteArray,zyO l ⟨(k + 1 : Nat),v (k + 1)⟩ = l.set (k + 1) (v (k + 1)):=fun _=>rfl;rw [hput];unfold zab;rw [zrN _ _ _ _ _ (by rw [zkQ]; simp [zbQ]; omega)];have:=ih j;unfold zv zab at this;rw [this];by_cases e : j = k + 1
   ·subst e
    rw [if_pos rfl,if_pos (by omega)]
   ·rw [if_neg e]
    by_cases e2 : 1 <= j /\ j <= k
    ·rw [if_pos e2,if_pos (by omega)]
    ·rw [if_neg e2,if_neg (by omega)]
theorem zdF (v : Nat -> ByteArray) (j : Nat) (h1 : 1 <= j) (h2 : j <= 10) : zab (zv (zm v)) j = v j:=by
 unfold zm;rw [zkT v 10 (lQ _),if_pos ⟨h1,h2⟩]
theorem zcO (v : Nat -> ByteArray) : ∀ k,∀ p,p ∈ zG v k ↔ ∃ j,1 <= j /\ j <= k /\ (v j).size ≠ 0 /\ p = ⟨(j : Nat),v j⟩
 | 0,p=>by
  unfold zG;constructor
  ·intro h; cases h
  ·rintro ⟨j,h1,h2,-⟩; omega
 | k + 1,p=>by
  unfold zG;rw [List.mem_append,zcO v k p];constructor
  ·rintro (⟨j,h1,h2,h3,h4⟩ | h)
   ·exact ⟨j,h1,by omega,h3,h4⟩
   ·split at h
    ·cases h
    ·rename_i hz
     exact ⟨k + 1,by omega,lQ _,hz,mS.1 h⟩
  ·rintro ⟨j,h1,h2,h3,h4⟩
   by_cases e : j = k + 1
   ·subst e
    right;rw [if_neg h3,h4];exact mS.2 rfl
   ·exact .inl ⟨j,h1,by omega,h3,h4⟩
theorem zeM (c : Int) : ∀ (ps : List zu) (last : Int),zdr c last ps = true ↔ (∀ p ∈ ps,last < p.kind /\ zcW c p.kind p.text = true) /\ ps.Pairwise fun a b=>a.kind < b.kind
 | [],last=>by simp [zdr]
 | p :: t,last=>by
  rw [zdr];constructor
  ·intro h
   split at h
   ·rename_i hp
    have ih:=(zeM c t p.kind).1 h;refine ⟨fun q hq=>?_,List.pairwise_cons.2 ⟨fun q hq=>(ih.1 q hq).1,ih.2⟩⟩;rcases List.mem_cons.1 hq with rfl | hq
    ·exact hp
    ·exact ⟨Int.lt_trans hp.1 (ih.1 q hq).1,(ih.1 q hq).2⟩
   ·cases h
  ·rintro ⟨h1,h2⟩
   rw [List.pairwise_cons] at h2;rw [if_pos (h1 p (List.mem_cons_self ..))];exact (zeM c t p.kind).2 ⟨fun q hq=>⟨h2.1 q hq,(h1 q (List.mem_cons_of_mem _ hq)).2⟩,h2.2⟩
theorem ziV (v : Nat -> ByteArray) : ∀ k,(zG v k).Pairwise fun a b=>a.kind < b.kind
 | 0=>List.Pairwise.nil
 | k + 1=>by
  unfold zG;refine List.pairwise_append.2 ⟨ziV v k,by split <;> simp,fun a ha b hb=>?_⟩;obtain ⟨j,h1,h2,h3,rfl⟩:=(zcO v k a).1 ha
  split at hb
  ·cases hb
  ·obtain rfl:=mS.1 hb
   simp only;omega
def zgz (v : Nat -> ByteArray) (k : Int) : Bool:=decide ((v k.toNat).size ≠ 0)
theorem zuK (v : Nat -> ByteArray) (k : Nat) (h1 : 1 <= k) (h2 : k <= 10) : zsG (zv (zm v)) (k : Int) = zgz v (k : Int):=by
 have:=zdF v k h1 h2;unfold zab at this;unfold zsG zzs zgz;rw [Int.toNat_natCast,this]
theorem zor (c : Int) (h h' : Int -> Bool) (e : ∀ k : Nat,1 <= k -> k <= 10 -> h (k : Int) = h' (k : Int)) : zmu c h = zmu c h':=by
 have e1 : h 1 = h' 1:=e 1 (by omega) (by omega);have e2 : h 2 = h' 2:=e 2 (by omega) (by omega);have e3 : h 3 = h' 3:=e 3 (by omega) (by omega);have e4 : h 4 = h' 4:=e 4 (by omega) (by omega);have e5 : h 5 = h' 5:=e 5 (by omega) (by omega);have e6 : h 6 = h' 6:=e 6 (by omega) (by omega);have e7 : h 7 = h' 7:=e 7 (by omega) (by omega);have e8 : h 8 = h' 8:=e 8 (by omega) (by omega);have e9 : h 9 = h' 9:=e 9 (by omega) (by omega);have e10 : h 10 = h' 10:=e 10 (by omega) (by omega);unfold zmu zdY;rw [e1,e2,e3,e4,e5,e6,e7,e8,e9,e10]
theorem zeP (c : Int) (v : Nat -> ByteArray) : zR c (zm v) = true ↔ (∀ k : Nat,1 <= k -> k <= 10 -> (v k).size ≠ 0 -> zcW c (k : Int) (v k) = true) /\ zmu c (zgz v) = true:=by
 unfold zR;rw [Bool.and_eq_true,zor c _ (zgz v) (zuK v),zeM];constructor
 ·rintro ⟨⟨h1,-⟩,h2⟩
  refine ⟨fun k k1 k2 hk=>?_,h2⟩;exact (h1 ⟨(k : Nat),v k⟩ ((zcO v 10 _).2 ⟨k,k1,k2,hk,rfl⟩)).2
 ·rintro ⟨h1,h2⟩
  refine ⟨⟨fun p hp=>?_,ziV v 10⟩,h2⟩;obtain ⟨j,j1,j2,j3,rfl⟩:=(zcO v 10 p).1 hp;exact ⟨by simp only; omega,h1 j j1 j2 j3⟩
end
section
open Go.RowKit Go.Maps
def zkz (vt vs vr vp : Value) (f : zw) (c : Int) (fd : List ByteArray) : zeA:=⟨vt,vs,vr,vp,f,c,fd,⟨#[]⟩,fun _=>False⟩
def zmn (vt vs vr vp : Value) (f : zw) (c : Int) (ps : List zu) (X : Nat -> Prop) : zeA:=⟨vt,vs,vr,vp,f,c,zv ps,zad (zab (zv ps) 3) (zab (zv ps) 4) (zab (zv ps) 5),X⟩
structure znT (w0 : World) (D : zeA) (C T S : Nat) (w : World) : Prop where
 hC : w0.heap.size <= C
 hT : w0.heap.size <= T
 hS : w0.heap.size <= S
 CT : C ≠ T
 CS : C ≠ S
 TS : T ≠ S
 below : Below w0.heap.size w0 w
 blk : Blk w C 127 (D.cells T S)
 mt : zbc Tryz.prog 3 zY (@id Value) w T 0 []
 ms : zbc Tryz.prog 3 zY (@id Value) w S 0 []
theorem znT.cmp {w0 w : World} {D : zeA} {C T S : Nat} (h : znT w0 D C T S w) (hf : zaf w0 D.vt D.vs D.vr D.vp D.f) : zbd w0 D C T S 0 w [] [] where
  hf:=hf
  hC:=h.hC
  hT:=h.hT
  hS:=h.hS
  CT:=h.CT
  CS:=h.CS
  TS:=h.TS
  below:=h.below
  blk:=h.blk
  mt:=h.mt
  ms:=h.ms
  vt:=fun _ h=>by cases h
  vs:=fun _ h=>by cases h
theorem znT.up {w0 w w' : World} {D : zeA} {C T S : Nat} (h : znT w0 D C T S w) (hb : Below w.heap.size w w') : znT w0 D C T S w' where
 hC:=h.hC
 hT:=h.hT
 hS:=h.hS
 CT:=h.CT
 CS:=h.CS
 TS:=h.TS
 below:=h.below.trans (hb.mono h.below.size)
 blk:=h.blk.below hb h.blk.lt
 mt:=h.mt.below hb h.mt.lt
 ms:=h.ms.below hb h.ms.lt
theorem znT.from_ {w0 W w : World} {D : zeA} {C T S : Nat} (h : znT W D C T S w) (hb : Below w0.heap.size w0 W) : znT w0 D C T S w where
 hC:=Nat.le_trans hb.size h.hC
 hT:=Nat.le_trans hb.size h.hT
 hS:=Nat.le_trans hb.size h.hS
 CT:=h.CT
 CS:=h.CS
 TS:=h.TS
 below:=hb.trans (h.below.mono hb.size)
 blk:=h.blk
 mt:=h.mt
 ms:=h.ms
theorem znT.put {w0 w : World} {D D' : zeA} {C T S : Nat} (h : znT w0 D C T S w) (i : Nat) (v : Value) (hD : (D.cells T S).setIfInBounds i v = D'.cells T S) : znT w0 D' C T S (w.setCell ⟨C,i,none⟩ v) where
 hC:=h.hC
 hT:=h.hT
 hS:=h.hS
 CT:=h.CT
 CS:=h.CS
 TS:=h.TS
 below:=h.below.setCell h.hC v
 blk:=hD ▸ h.blk.set_ i v
 mt:=h.mt.set_ h.CT.symm v
 ms:=h.ms.set_ h.CS.symm v
theorem zrX (fd : List ByteArray) (k : Nat) (s : ByteArray) (hk : k < fd.length) (j : Nat) : zab (fd.set k s) j = if j = k then s else zab fd j:=by
 unfold zab;exact zrN fd k s ⟨#[]⟩ j hk
theorem zuu (D : zeA) (T S k : Nat) (s : ByteArray) (hk : k < 11) (hl : D.fd.length = 11) : (D.cells T S).setIfInBounds (5 + k) (.string s) = ({ D with fd:=D.fd.set k s } : zeA).cells T S:=by
 unfold zeA.cells;simp only [zrX D.fd k s (by omega)]
 match k,hk with
 | 0,_=>rfl
 | 1,_=>rfl
 | 2,_=>rfl
 | 3,_=>rfl
 | 4,_=>rfl
 | 5,_=>rfl
 | 6,_=>rfl
 | 7,_=>rfl
 | 8,_=>rfl
 | 9,_=>rfl
 | 10,_=>rfl
theorem zrA (D : zeA) (T S k : Nat) (hk : k < 11) : (D.cells T S)[5 + k]? = some (.string (zab D.fd k)):=by
 unfold zeA.cells
 match k,hk with
 | 0,_=>rfl
 | 1,_=>rfl
 | 2,_=>rfl
 | 3,_=>rfl
 | 4,_=>rfl
 | 5,_=>rfl
 | 6,_=>rfl
 | 7,_=>rfl
 | 8,_=>rfl
 | 9,_=>rfl
 | 10,_=>rfl
theorem put_comm (a : Act) (i j : Nat) (u v : Value) (h : i ≠ j) : (a.put (some i) u).put (some j) v = (a.put (some j) v).put (some i) u:=by
 simp only [Act.put];rw [Array.setIfInBounds_comm _ _ h]
theorem zrP {P : Program} {o : Oper} {a : Act} {w : World} {N : Value -> World -> Prop} (ty : TypeId) (ho : o.op = .makeMap ty none) (h : N (.map (some w.heap.size)) (w.alloc (.map #[] 0))) : zca P o a w N:=by
 unfold zca execOp;rw [ho];exact h
theorem zvg {P : Program} {o : Oper} {a : Act} {w : World} {N : Value -> World -> Prop} (f : Nat) (ho : o.op = .call { callee:=.value (.func f),args:=#[],argTypes:=#[] }) (he : (callFunc f #[]).run P w = .ok (.enter f #[]) w)
  (h : Calls P f #[] w fun e w'=>∃ v,e = .returned v /\ N v w') : zca P o a w N:=by
 have e : (execOp a.eval o).run P w = .ok (.enter f #[]) w:=by
  simp [execOp,ho,resolve,invoke,he,Act.eval,Deferred.ofValue]
 unfold zca;rw [e];exact h
theorem zaR {P : Program} {ops : Array Oper} {C : World -> Prop} {Q : Exit -> Act -> World -> Prop} {n k : Nat} {rz : List Nat} {a : Act} {w : World} (L : List Nat) (hL : rz.filter (zbk ops rz) = L)
  (h : ∀ i ∈ L,∀ w1,Below w.heap.size w w1 -> ∃ o,ops[i]? = some o /\ zca P o a w1 fun v w'=>(∀ w2,Below w'.heap.size w' w2 -> C w2) /\ mkZ P ops Q C n k (rz.erase i) (a.put o.dst v) w') : mkZ P ops Q C n (k + 1) rz a w:=
 fun i hi hr=>h i (hL ▸ List.mem_filter.2 ⟨hi,hr⟩)
theorem zq {W w : World} (h : Below W.heap.size W w) (o : Obj) : Below W.heap.size W (w.alloc o):=h.alloc h.size o
theorem za {W w w1 : World} (h : Below W.heap.size W w) (h1 : Below w.heap.size w w1) : Below W.heap.size W w1:=h.trans (h1.mono h.size)
theorem zvj {P : Program} {ops : Array Oper} {C : World -> Prop} {Q : Exit -> Act -> World -> Prop} {n : Nat} {W : World} (A : Act) {o3 o4 o5 : Oper} (h3 : ops[3]? = some o3) (h4 : ops[4]? = some o4) (h5 : ops[5]? = some o5) (d3 : o3.dst = some 11) (d4 : o4.dst = some 12) (d5 : o5.dst = some 13)
  (v3 : Value) (m3 : ∀ a w N,(∀ o,N v3 (w.alloc o)) -> zca P o3 a w N) (m4 : ∀ a w N,N (.map (some w.heap.size)) (w.alloc (.map #[] 0)) -> zca P o4 a w N) (m5 : ∀ a w N,N (.map (some w.heap.size)) (w.alloc (.map #[] 0)) -> zca P o5 a w N)
  (hC : ∀ w,Below W.heap.size W w -> C w) (e345 : [3,4,5,6,7].filter (zbk ops [3,4,5,6,7]) = [3,4,5]) (e45 : [4,5,6,7].filter (zbk ops [4,5,6,7]) = [4,5]) (e35 : [3,5,6,7].filter (zbk ops [3,5,6,7]) = [3,5]) (e34 : [3,4,6,7].filter (zbk ops [3,4,6,7]) = [3,4])
  (e5 : [5,6,7].filter (zbk ops [5,6,7]) = [5]) (e4 : [4,6,7].filter (zbk ops [4,6,7]) = [4]) (e3 : [3,6,7].filter (zbk ops [3,6,7]) = [3])
  (tail : ∀ T S w5,W.heap.size <= T -> W.heap.size <= S -> T ≠ S -> Below W.heap.size W w5 -> zbc P 3 zY (@id Value) w5 T 0 [] -> zbc P 3 zY (@id Value) w5 S 0 [] ->
   mkZ P ops Q C n 2 [6,7] (((A.put (some 11) v3).put (some 12) (.map (some T))).put (some 13) (.map (some S))) w5) : mkZ P ops Q C n 5 [3,4,5,6,7] A W:=by
 have hCk : ∀ w,Below W.heap.size W w -> ∀ w2,Below w.heap.size w w2 -> C w2:=fun w h w2 h2=>hC w2 (za h h2)
 have s5 : ∀ T w,W.heap.size <= T -> Below W.heap.size W w -> zbc P 3 zY (@id Value) w T 0 [] -> mkZ P ops Q C n 3 [5,6,7] ((A.put (some 11) v3).put (some 12) (.map (some T))) w:=fun T w hT hb hm=>by
  refine zaR [5] e5 fun i hi w1 h1=>?_;obtain rfl:=mS.1 hi;have hb1:=za hb h1;refine ⟨o5,h5,m5 _ _ _ ⟨hCk _ (zq hb1 _),?_⟩⟩;rw [d5];exact tail T w1.heap.size _ hT hb1.size (by have:=hm.lt; have:=h1.size; omega) (zq hb1 _) ((hm.below h1 hm.lt).alloc _) (zbc.made ..)
 have s4 : ∀ S w,W.heap.size <= S -> Below W.heap.size W w -> zbc P 3 zY (@id Value) w S 0 [] -> mkZ P ops Q C n 3 [4,6,7] ((A.put (some 11) v3).put (some 13) (.map (some S))) w:=fun S w hS hb hm=>by
  refine zaR [4] e4 fun i hi w1 h1=>?_;obtain rfl:=mS.1 hi;have hb1:=za hb h1;refine ⟨o4,h4,m4 _ _ _ ⟨hCk _ (zq hb1 _),?_⟩⟩;rw [d4,put_comm _ 13 12 _ _ (by omega)];exact tail w1.heap.size S _ hb1.size hS (by have:=hm.lt; have:=h1.size; omega) (zq hb1 _) (zbc.made ..) ((hm.below h1 hm.lt).alloc _)
 have s3 : ∀ T S w,W.heap.size <= T -> W.heap.size <= S -> T ≠ S -> Below W.heap.size W w -> zbc P 3 zY (@id Value) w T 0 [] -> zbc P 3 zY (@id Value) w S 0 [] -> mkZ P ops Q C n 3 [3,6,7] ((A.put (some 12) (.map (some T))).put (some 13) (.map (some S))) w:=fun T S w hT hS hTS hb hm hs=>by
  refine zaR [3] e3 fun i hi w1 h1=>?_;obtain rfl:=mS.1 hi;have hb1:=za hb h1;refine ⟨o3,h3,m3 _ _ _ fun o=>⟨hCk _ (zq hb1 _),?_⟩⟩;rw [d3,put_comm _ 13 11 _ _ (by omega),put_comm _ 12 11 _ _ (by omega)];exact tail T S _ hT hS hTS (zq hb1 _) ((hm.below h1 hm.lt).alloc _) ((hs.below h1 hs.lt).alloc _)
 have s45 : ∀ w,Below W.heap.size W w -> mkZ P ops Q C n 4 [4,5,6,7] (A.put (some 11) v3) w:=fun w hb=>by
  refine zaR [4,5] e45 fun i hi w1 h1=>?_;have hb1:=za hb h1;rcases List.mem_cons.1 hi with rfl | hi
  ·refine ⟨o4,h4,m4 _ _ _ ⟨hCk _ (zq hb1 _),?_⟩⟩
   rw [d4];exact s5 _ _ hb1.size (zq hb1 _) (zbc.made ..)
  ·obtain rfl:=mS.1 hi
   refine ⟨o5,h5,m5 _ _ _ ⟨hCk _ (zq hb1 _),?_⟩⟩;rw [d5];exact s4 _ _ hb1.size (zq hb1 _) (zbc.made ..)
 have s35 : ∀ T w,W.heap.size <= T -> Below W.heap.size W w -> zbc P 3 zY (@id Value) w T 0 [] -> mkZ P ops Q C n 4 [3,5,6,7] (A.put (some 12) (.map (some T))) w:=fun T w hT hb hm=>by
  refine zaR [3,5] e35 fun i hi w1 h1=>?_;have hb1:=za hb h1;rcases List.mem_cons.1 hi with rfl | hi
  ·refine ⟨o3,h3,m3 _ _ _ fun o=>⟨hCk _ (zq hb1 _),?_⟩⟩
   rw [d3,put_comm _ 12 11 _ _ (by omega)];exact s5 T _ hT (zq hb1 _) ((hm.below h1 hm.lt).alloc _)
  ·obtain rfl:=mS.1 hi
   refine ⟨o5,h5,m5 _ _ _ ⟨hCk _ (zq hb1 _),?_⟩⟩;rw [d5];exact s3 T w1.heap.size _ hT hb1.size (by have:=hm.lt; have:=h1.size; omega) (zq hb1 _) ((hm.below h1 hm.lt).alloc _) (zbc.made ..)
 have s34 : ∀ S w,W.heap.size <= S -> Below W.heap.size W w -> zbc P 3 zY (@id Value) w S 0 [] -> mkZ P ops Q C n 4 [3,4,6,7] (A.put (some 13) (.map (some S))) w:=fun S w hS hb hm=>by
  refine zaR [3,4] e34 fun i hi w1 h1=>?_;have hb1:=za hb h1;rcases List.mem_cons.1 hi with rfl | hi
  ·refine ⟨o3,h3,m3 _ _ _ fun o=>⟨hCk _ (zq hb1 _),?_⟩⟩
   rw [d3,put_comm _ 13 11 _ _ (by omega)];exact s4 S _ hS (zq hb1 _) ((hm.below h1 hm.lt).alloc _)
  ·obtain rfl:=mS.1 hi
   refine ⟨o4,h4,m4 _ _ _ ⟨hCk _ (zq hb1 _),?_⟩⟩;rw [d4,put_comm _ 13 12 _ _ (by omega)];exact s3 w1.heap.size S _ hb1.size hS (by have:=hm.lt; have:=h1.size; omega) (zq hb1 _) (zbc.made ..) ((hm.below h1 hm.lt).alloc _)
 refine zaR [3,4,5] e345 fun i hi w1 hb1=>?_;rcases List.mem_cons.1 hi with rfl | hi
 ·refine ⟨o3,h3,m3 _ _ _ fun o=>⟨hCk _ (zq hb1 _),?_⟩⟩
  rw [d3];exact s45 _ (zq hb1 _)
 ·rcases List.mem_cons.1 hi with rfl | hi
  ·refine ⟨o4,h4,m4 _ _ _ ⟨hCk _ (zq hb1 _),?_⟩⟩
   rw [d4];exact s35 _ _ hb1.size (zq hb1 _) (zbc.made ..)
  ·obtain rfl:=mS.1 hi
   refine ⟨o5,h5,m5 _ _ _ ⟨hCk _ (zq hb1 _),?_⟩⟩;rw [d5];exact s34 _ _ hb1.size (zq hb1 _) (zbc.made ..)
theorem zmN {ps : List zu} (h : ∀ p ∈ ps,p.text.size <= 1000) (k : Nat) : (zab (zv ps) k).size <= 1000:=by
 unfold zv
 have hz : ∀ k,(zab zbQ k).size <= 1000:=fun k=>by
  unfold zab zbQ;rw [List.getD_eq_getElem?_getD,List.getElem?_replicate]
  split <;> simp [ByteArray.size]
 generalize zbQ = l at hz
 induction ps generalizing l with
 | nil=>exact hz k
 | cons p ps ih=>
  refine ih (fun q hq=>h q (List.mem_cons_of_mem _ hq)) _ fun k=>?_;unfold zyO;by_cases hl : p.kind.toNat < l.length
  ·rw [zrX _ _ _ hl]
   split
   ·exact h p (List.mem_cons_self ..)
   ·exact hz k
  ·rw [List.set_eq_of_length_le (by omega)]
   exact hz k
theorem zdJ (vt vs vr vp : Value) (f : zw) (c : Int) (pv : Value) (ps : List zu) (w : World) (hf : zaf w vt vs vr vp f) (hv : zav w pv ps) (hk : ∀ p ∈ ps,0 <= p.kind /\ p.kind <= 10) (hsz : ∀ p ∈ ps,p.text.size <= 1000) (X : Nat -> Prop) :
  Calls Tryz.prog 33 #[.agg #[vt,vs,vr,vp],.agg #[.int .u8 c,pv]] w fun e w'=>∃ C T S,e = .returned (.pointer (some ⟨C,0,none⟩)) /\
   znT w (zmn vt vs vr vp f c ps X) C T S w':=by
 obtain ⟨⟨tA,tn,tc,rfl⟩,⟨sA,sn,sc,rfl⟩,⟨rA,rn,rc,rfl⟩,⟨pA,pn,pc,rfl⟩⟩:=hf.forms;obtain ⟨qA,qc,rfl,q1,q2,q3⟩:=hv;have q3':=Hd q3;have hk':=Hd hk;have hsz':=Hd hsz;clear q3 hk hsz hf;have k2:=Hd ((Blk.new w 31 #[.slice tA tn tc,.slice sA sn sc,.slice rA rn rc,.slice pA pn pc]).alloc (.cells #[.int .u8 c,.slice qA ps.length qc] 39));have k3:=Hd (Blk.new_at (w.alloc (.cells #[.slice tA tn tc,.slice sA sn sc,.slice rA rn rc,.slice pA pn pc] 31)) 39 #[.int .u8 c,.slice qA ps.length qc] (w.heap.size + 1) (by simp));have hb0 : Hid (Below w.heap.size w ((w.alloc (.cells #[.slice tA tn tc,.slice sA sn sc,.slice rA rn rc,.slice pA pn pc] 31)).alloc (.cells #[.int .u8 c,.slice qA ps.length qc] 39))):=Hd (((Below.refl _ _).alloc (lQ _) _).alloc (by simp) _);go_enter Tryz.func33,Tryz.ntmps33;go_upto_region 1 with fail;generalize (w.alloc (.cells #[.slice tA tn tc,.slice sA sn sc,.slice rA rn rc,.slice pA pn pc] 31)).alloc (.cells #[.int .u8 c,.slice qA ps.length qc] 39) = W at *;generalize hB : w.heap.size + 1 = B at *
 go_cut [5] (fun s5 wx=>∃ C T S,s5 = .pointer (some ⟨C,0,none⟩) /\ Hid (znT W (zkz (.slice tA tn tc) (.slice sA sn sc) (.slice rA rn rc) (.slice pA pn pc) f c zbQ) C T S wx))
 case first=>
  have c2 : ∀ w1,Below W.heap.size W w1 -> Blk w1 w.heap.size 31 #[.slice tA tn tc,.slice sA sn sc,.slice rA rn rc,.slice pA pn pc]:=fun w1 h=>k2.out.below h k2.out.lt;have c3 : ∀ w1,Below W.heap.size W w1 -> Blk w1 B 39 #[.int .u8 c,.slice qA ps.length qc]:=fun w1 h=>k3.out.below h k3.out.lt;have c2':=Hd c2;have c3':=Hd c3;clear c2 c3;refine zcw (C:=fun w1=>Below W.heap.size W w1) [true,true,true,false,false,false,false,false] [3,4,5,6,7] (by kernel_rfl) (by kernel_rfl) (by kernel_rfl) (fun _ h=>h) ?A1 ?q1 ?t1
  case q1=>
   intro S hS hSC hne;have l2:=fun (u : zaP S)=>c2'.out u.wld (hSC u.wld u.mem);have l3:=fun (u : zaP S)=>(c3'.out u.wld (hSC u.wld u.mem)).cell 0;simp only [zbM,if_true,if_false,Bool.false_eq_true];simp at l3;refine zcv rfl 31 (.tmp 2) rfl w.heap.size rfl 31 #[.slice tA tn tc,.slice sA sn sc,.slice rA rn rc,.slice pA pn pc] _ (by rintro _ ⟨u,rfl⟩; exact l2 u) Tryz.underlying31 rfl (by kernel_rfl) ?_;simp only [Act.put,sX,sS,sZ]
   go_big_quiet_step (fail)
   go_big_quiet_step (fail)
   refine wpQuiet_nil ?_;rfl
  refine zvj _ rfl rfl rfl rfl rfl rfl (.agg zpe) (fun a w1 N h=>zvg 52 rfl (zbA Tryz.func52 (by decide) rfl _ _) ((zoV w1).mono fun e w' ⟨h1,h2⟩=>⟨_,h1,h2 ▸ h _⟩)) (fun a w1 N h=>zrP 125 rfl h) (fun a w1 N h=>zrP 125 rfl h)
   (fun _ h=>h) (by kernel_rfl) (by kernel_rfl) (by kernel_rfl) (by kernel_rfl) (by kernel_rfl) (by kernel_rfl) (by kernel_rfl) ?tail
  intro T S w5 hT hS hTS hb5 hmT hmS;simp only [Act.put,sX,sS,sZ]
  have hbk:=Hd (show ∀ w1,Below w5.heap.size w5 w1 -> znT W (zkz (.slice tA tn tc) (.slice sA sn sc) (.slice rA rn rc) (.slice pA pn pc) f c zbQ) w1.heap.size T S (w1.alloc (.cells ((zkz (.slice tA tn tc) (.slice sA sn sc) (.slice rA rn rc) (.slice pA pn pc) f c zbQ).cells T S) 127)) from fun w1 h1=>by
   have hw1:=za hb5 h1;have l1:=hmT.lt;have l2:=hmS.lt;have l3:=h1.size
   exact ⟨hw1.size,hT,hS,by omega,by omega,hTS,zq hw1 _,Blk.new ..,(hmT.below h1 l1).alloc _,(hmS.below h1 l2).alloc _⟩)
  have hb5':=Hd hb5;clear hmT hmS hb5 hT hS hTS;refine zii rfl [6,7] [?o91,?o92] _ _ rfl ?hx9 (by kernel_rfl) ?hL9
  case hx9=>
   intro j hj
   match j,hj with
   | 0,_=>rfl
   | 1,_=>rfl
  simp only [List.getD_cons_zero,List.getD_cons_succ,gX,gQ,gZ];refine zrT rfl fun w6 hb6 Q' hQ=>?_;refine wpList_buildTo rfl 127 _ rfl (some 14) rfl ((zkz (.slice tA tn tc) (.slice sA sn sc) (.slice rA rn rc) (.slice pA pn pc) f c zbQ).cells T S) (by kernel_rfl) ?_;simp only [Act.put,sX,sS,sZ];refine wpList_nil ?_;refine hQ _ _ rfl (fun w2 h2=>za hb5'.out (za hb6 h2)) ?_;have hbk6:=Hd (fun w1 (h1 : Below w6.heap.size w6 w1)=>hbk.out w1 (za hb6 h1));have hb56:=Hd (za hb5'.out hb6);clear hbk hb5' hQ;generalize hD : (zkz (.slice tA tn tc) (.slice sA sn sc) (.slice rA rn rc) (.slice pA pn pc) f c zbQ).cells T S = cs at *;refine zrT rfl fun w7 hb7 Q7 hQ7=>?_;refine Go.Great.wpList_boxTo rfl 127 _ rfl (some 15) rfl w7.heap.size rfl cs rfl ?_;simp only [Act.put,sX,sS,sZ];refine wpList_nil ?_;have hb7':=za hb56.out hb7;refine hQ7 _ _ rfl (fun w2 h2=>za (zq hb7' _) h2) ?_;intro w8 hb8;have hn:=Hd ((hbk6.out w7 hb7).up hb8);clear hbk6 hb56 hb7' hQ7 hb6 hb7 c2' c3';generalize w7.heap.size = CC at *;go_wp2;go_meet
  case rel=>exact ⟨CC,T,S,rfl,hn⟩
 case rest=>
  obtain ⟨C,T,S,rfl,hn0⟩:=hcut;have hn:=Hd (hn0.out.from_ hb0.out);have k3c:=Hd (k3.out.below hn0.out.below k3.out.lt);clear hn0 k2 k3 hb0;have c31:=k3c.out.cell 1;have l3:=k3c.out.lt;simp at c31;unfold maxLen at q2;go_wp2;clear c31 l3
  go_loopw [19] (fun iv wr=>∃ k : Nat,k <= ps.length /\ iv = .int .i64 k /\ Hid (znT w (zkz (.slice tA tn tc) (.slice sA sn sc) (.slice rA rn rc) (.slice pA pn pc) f c (zay ps k)) C T S wr)) (fun iv _=>ps.length - (intOf iv).toNat)
  case atStart=>exact ⟨0,by omega,rfl,hn⟩
  case round=>
   obtain ⟨k,hkl,rfl,hr⟩:=hrel;rename World=>wr;have n0 : (0 : Int) <= (k : Int):=by omega
   by_cases hlt : k < ps.length
   ·have n1 : (k : Int) < (ps.length : Int):=by omega
    obtain ⟨b,off,rfl,hb,hi⟩:=q3'.out (by omega);obtain ⟨p0,p1⟩:=hi k hlt;rw [<- hr.out.below.cell (p:=⟨b,off + k * 2,none⟩) hb] at p0;rw [<- hr.out.below.cell (p:=⟨b,off + k * 2 + 1,none⟩) hb] at p1;have hkk:=hk'.out (ps.getD k zu.zero) (by rw [zD _ _ _ hlt]; exact List.getElem_mem hlt);have hfs:=Hd (zjs ps k hlt);have hfl:=Hd (zhD ps k);clear hi;generalize ps.getD k zu.zero = x at *;obtain ⟨xk,xt⟩:=x;simp only at p0 p1 hkk;obtain ⟨kd,rfl⟩ : ∃ kd : Nat,xk = (kd : Int):=⟨xk.toNat,by omega⟩;have hkd : kd < 11:=by omega
    have hput : Hid (zay ps (k + 1) = (zay ps k).set kd xt):=Hd (by rw [hfs.out]; rfl);clear hfs hkk;have hbr : b < wr.heap.size:=Nat.lt_of_lt_of_le hb hr.out.below.size;have k9:=Hd (Blk.new wr 50 #[.int .u8 (kd : Int),.string xt]);have hr9:=Hd (hr.out.up ((Below.refl _ _).alloc (lQ _) (.cells #[.int .u8 (kd : Int),.string xt] 50)));go_upto_region 5 with fail;clear p0 p1 hbr hr;generalize wr.alloc (.cells #[.int .u8 (kd : Int),.string xt] 50) = W5 at *;generalize wr.heap.size = G at *;have r0:=fun (u : Ups W5)=>(k9.out.ups u).cell 0;have r1:=fun (u : Ups W5)=>(k9.out.ups u).cell 1;have nk : (kd : Int) < 11:=by omega
    have nk0 : (0 : Int) <= (kd : Int):=by omega
    simp at r0 r1;refine zL 8 (by kernel_rfl) (by kernel_rfl) ?_;simp only [tS,tZ,dS,dZ]
    repeat (go_big_quiet_step (fail))
    refine wpQuiet_nil ?_;rintro _ ⟨u,rfl⟩;have hu:=Hd (hr9.out.up u.up);clear r0 r1 hr9 k9 nk nk0;generalize u.wld = WU at *;have s0:=(hu.out.blk.cell (5 + kd)).trans (zrA _ T S kd hkd);have s1:=hu.out.blk.frozen (5 + kd);have s2:=hu.out.blk.lt;have hu2:=Hd (hu.out.put (5 + kd) (.string xt) (zuu _ T S kd xt hkd hfl.out));go_wp2;go_roundw
    case rel=>exact ⟨k + 1,by omega,by go_num,Hd (by rw [hput.out]; exact hu2.out)⟩
    case measure=>simp [intOf]; omega
   ·obtain rfl : k = ps.length:=by omega
    have hr' : Hid (znT w (zkz (.slice tA tn tc) (.slice sA sn sc) (.slice rA rn rc) (.slice pA pn pc) f c (zv ps)) C T S wr):=Hd (by have:=hr.out; rw [zhC] at this; exact this);clear hr hn;have hrd : Hid (∀ k,(zab (zv ps) k).size <= 1000):=Hd (zmN hsz'.out);generalize hfd : zv ps = fd at *;have hfd':=Hd hfd;clear hfd;go_upto_region 7 with fail;have hst:=Hd (fun W=>zeq 0 0 (zab fd 3) (zab fd 4) (zab fd 5) (.slice none 0 0) W (hrd.out 3) (hrd.out 4) (hrd.out 5) ⟨_,_,_,rfl⟩);have a3 : ∀ u : Ups wr,u.wld.cell? ⟨C,8,none⟩ = some (.string (zab fd 3)):=fun u=>(hr'.out.up u.up).blk.cell 8;have a4 : ∀ u : Ups wr,u.wld.cell? ⟨C,9,none⟩ = some (.string (zab fd 4)):=fun u=>(hr'.out.up u.up).blk.cell 9;have a5 : ∀ u : Ups wr,u.wld.cell? ⟨C,10,none⟩ = some (.string (zab fd 5)):=fun u=>(hr'.out.up u.up).blk.cell 10;generalize hx3 : zab fd 3 = x3 at *;have hy3:=Hd hx3;clear hx3;generalize hx4 : zab fd 4 = x4 at *;have hy4:=Hd hx4;clear hx4;generalize hx5 : zab fd 5 = x5 at *;have hy5:=Hd hx5;clear hx5;generalize hsx : zad x3 x4 x5 = sx at *;have hsy:=Hd hsx;clear hsx;refine zL 20 (by kernel_rfl) (by kernel_rfl) ?_;simp only [tS,tZ,dS,dZ]
    repeat (go_big_quiet_step ((go_at_call 53; exact zbe (hst.out _))))
    refine wpQuiet_nil ?_;rintro _ ⟨u,rfl⟩;have hu:=Hd (hr'.out.up u.up);clear a3 a4 a5 hr' hst;generalize u.wld = WU at *;have s0 : WU.cell? ⟨C,16,none⟩ = some (.string ⟨#[]⟩):=hu.out.blk.cell 16;have s1:=hu.out.blk.frozen 16;have s2:=hu.out.blk.lt;have hu2:=Hd (hu.out.put (D':=⟨.slice tA tn tc,.slice sA sn sc,.slice rA rn rc,.slice pA pn pc,f,c,fd,sx,X⟩) 16 (.string sx) rfl);clear hu;go_wp2;go_ret;exact ⟨C,T,S,rfl,by unfold zmn; rw [hfd'.out,hy3.out,hy4.out,hy5.out,hsy.out]; exact hu2.out⟩
end
end Go.Proofs.YtggimnndflkjkaaGreatDoor
