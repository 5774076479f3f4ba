import Derived.Test.YtggimnndflkjkaaGreatDoorR01
import Derived.Test.YtggimnndflkjkaaGreatDoorR10
import Derived.Test.YtggimnndflkjkaaGreatDoorR18
import Derived.Deep.DeepCutAuto
set_option linter.all false
set_option maxRecDepth 100000
set_option maxHeartbeats 0
namespace Go.Proofs.YtggimnndflkjkaaGreatDoor
section
open Go.RowKit
theorem zzT : (Tryz.prog.info? 3).map (fun i=>(i.zero,i.size,i.bytes)) = some (some (.int .i64 0),1,8):=by kernel_rfl
def zzY (n g : Nat) : Value:=.slice (some ⟨g,0,none⟩) (n + 1) (n + 1)
def zzV : Value:=.slice none 0 0
theorem zxb (n : Nat) (hn : n <= 1000) (w : World) : Sem.run Tryz.prog (Instr.makeSlice 103 (.int .i64 ((n : Int) + 1)) (.int .i64 ((n : Int) + 1))) w = .ok (.slice (some ⟨w.heap.size,0,none⟩) (n + 1) (n + 1)) (w.alloc (.cells (zbG (List.replicate (n + 1) 0)) 3)):=by
 obtain ⟨i,hi,hz,h1,h2⟩:=info_parts zzT;have h:=run_makeSlice (P:=Tryz.prog) (w:=w) 103 3 i (.int .i64 0) Tryz.underlying103 hi hz .i64 .i64 ((n : Int) + 1) ((n : Int) + 1) (by omega) (Int.le_refl _) (by rw [h1]; omega) (by rw [h2]; omega) (by omega);rw [h,h1];have e : ((n : Int) + 1).toNat = n + 1:=by omega
 rw [e,Nat.mul_one];congr 2;show Obj.cells (madeCells #[.int .i64 0] (n + 1)) 3 = _;rw [<- Array.toArray_toList (xs:=madeCells #[.int .i64 0] (n + 1)),toList_madeCells_one];simp [zbG]
theorem zjp (w : World) (n : Nat) : Below w.heap.size w (w.drewN n):=⟨rfl,rfl,rfl,lQ _,fun _ _=>rfl⟩
structure zed (B : Nat) (W : World) (gd H n : Nat) (d : Int) (g0 g1 g2 : Nat) (l0 l1 l2 : List Nat) (w : World) : Prop where
 bel : Below B W w
 kD : Blk w gd 3 #[.int .i64 d]
 kC : Blk w H 259 #[.int .i64 1,.int .i64 1,.int .i64 1,.int .i64 1]
 kT : Blk w (H + 1) 297 #[.slice (some ⟨g0,0,none⟩) (n + 1) (n + 1),.slice (some ⟨g1,0,none⟩) (n + 1) (n + 1),.slice (some ⟨g2,0,none⟩) (n + 1) (n + 1)]
 r0 : ziH w g0 l0
 r1 : ziH w g1 l1
 r2 : ziH w g2 l2
 z0 : l0.length = n + 1
 z1 : l1.length = n + 1
 z2 : l2.length = n + 1
 n01 : g0 ≠ g1
 n02 : g0 ≠ g2
 n12 : g1 ≠ g2
 m0 : H + 2 <= g0
 m1 : H + 2 <= g1
 m2 : H + 2 <= g2
 y0 : ∀ x ∈ l0,x <= 1000
 y1 : ∀ x ∈ l1,x <= 1000
 y2 : ∀ x ∈ l2,x <= 1000
 lt : gd < H
 le : B <= gd
section
variable {B : Nat} {W w w' : World} {gd H n : Nat} {d : Int} {g0 g1 g2 : Nat} {l0 l1 l2 : List Nat}
theorem zed.below (h : zed B W gd H n d g0 g1 g2 l0 l1 l2 w) (hb : Below w.heap.size w w') : zed B W gd H n d g0 g1 g2 l0 l1 l2 w':=
 { h with bel:=h.bel.trans (hb.mono (by have:=h.kD.lt; have:=h.le; omega)),kD:=h.kD.below hb h.kD.lt,kC:=h.kC.below hb h.kC.lt,kT:=h.kT.below hb h.kT.lt,r0:=Blk.below h.r0 hb (Blk.lt h.r0),r1:=Blk.below h.r1 hb (Blk.lt h.r1),r2:=Blk.below h.r2 hb (Blk.lt h.r2) }
theorem zed.rotate (h : zed B W gd H n d g0 g1 g2 l0 l1 l2 w) :
    zed B W gd H n d g2 g0 g1 l2 l0 l1 (((w.setCell ⟨H + 1,0,none⟩ (.slice (some ⟨g2,0,none⟩) (n + 1) (n + 1))).setCell ⟨H + 1,1,none⟩ (.slice (some ⟨g0,0,none⟩) (n + 1) (n + 1))).setCell ⟨H + 1,2,none⟩ (.slice (some ⟨g1,0,none⟩) (n + 1) (n + 1))):=by
  have q1:=h.lt; have q2:=h.le; have q3:=h.m0; have q4:=h.m1; have q5:=h.m2
  have far : ∀ {g : Nat} {t : TypeId} {cs : Array Value},g ≠ H + 1 -> Blk w g t cs -> Blk (((w.setCell ⟨H + 1,0,none⟩ (.slice (some ⟨g2,0,none⟩) (n + 1) (n + 1))).setCell ⟨H + 1,1,none⟩ (.slice (some ⟨g0,0,none⟩) (n + 1) (n + 1))).setCell ⟨H + 1,2,none⟩ (.slice (some ⟨g1,0,none⟩) (n + 1) (n + 1))) g t cs:=
    fun hg hk=>((hk.far hg _).far hg _).far hg _
  exact { bel:=((h.bel.setCell (by simp; omega) _).setCell (by simp; omega) _).setCell (by simp; omega) _,kD:=far (by omega) h.kD,kC:=far (by omega) h.kC,
          kT:=((h.kT.set_ 0 _).set_ 1 _).set_ 2 _,r0:=far (by omega) h.r2,r1:=far (by omega) h.r0,r2:=far (by omega) h.r1,z0:=h.z2,z1:=h.z0,z2:=h.z1,
          n01:=h.n02.symm,n02:=h.n12.symm,n12:=h.n01,m0:=q5,m1:=q3,m2:=q4,y0:=h.y2,y1:=h.y0,y2:=h.y1,lt:=q1,le:=q2 }
theorem zed.put (h : zed B W gd H n d g0 g1 g2 l0 l1 l2 w) (j x : Nat) (hx : x <= 1000) : zed B W gd H n d g0 g1 g2 (l0.set j x) l1 l2 (w.setCell ⟨g0,j,none⟩ (.int .i64 (x : Int))):=by
  have q1:=h.lt; have q2:=h.le; have q3:=h.m0; have q4:=h.m1; have q5:=h.m2; have q6:=h.n01; have q7:=h.n02
  exact { h with bel:=h.bel.setCell (by simp; omega) _,kD:=h.kD.far (by simp; omega) _,kC:=h.kC.far (by simp; omega) _,kT:=h.kT.far (by simp; omega) _,r0:=h.r0.set j x,r1:=Blk.far h.r1 (by simp; omega) _,r2:=Blk.far h.r2 (by simp; omega) _,
                 z0:=by rw [List.length_set]; exact h.z0,y0:=fun y hy=>by rcases List.mem_or_eq_of_mem_set hy with hy | rfl; exact h.y0 y hy; exact hx }
theorem zed.keepD (h : zed B W gd H n d g0 g1 g2 l0 l1 l2 w) (y : Int) : zed B W gd H n y g0 g1 g2 l0 l1 l2 (w.setCell ⟨gd,0,none⟩ (.int .i64 y)):=by
 have q1:=h.lt; have q2:=h.le; have q3:=h.m0; have q4:=h.m1; have q5:=h.m2;exact { h with bel:=h.bel.setCell q2 _,kD:=h.kD.set_ 0 _,kC:=h.kC.far (by simp; omega) _,kT:=h.kT.far (by simp; omega) _,r0:=Blk.far h.r0 (by simp; omega) _,r1:=Blk.far h.r1 (by simp; omega) _,r2:=Blk.far h.r2 (by simp; omega) _ }
end
theorem zwY {B : Nat} {W w : World} {gd H n : Nat} {d : Int} {g0 g1 g2 : Nat} {l0 l1 l2 : List Nat} (h : zed B W gd H n d g0 g1 g2 l0 l1 l2 w) (a b : ByteArray) (i j nd : Nat) (ha : a.size <= 60) (hb : b.size <= 60) (hn : n = b.size) (hi : i <= a.size) (hj : j <= b.size)
  (h0 : ∀ k,j + 1 <= k -> k <= b.size -> l0[k]? = some (zde ((zbr a).drop i) ((zbr b).drop k))) (h1 : i < a.size -> l1 = rowD (zbr a) (zbr b) (i + 1)) (h2 : i + 1 < a.size -> l2 = rowD (zbr a) (zbr b) (i + 2)) :
  Calls Tryz.prog 239 #[.string (a.extract i a.size),.string (b.extract j b.size),.agg #[.int .i64 1,.int .i64 1,.int .i64 1,.int .i64 1],.pointer (some ⟨H + 1,0,none⟩),.int .i64 (j : Int)] (w.drewN nd)
   fun e w'=>e = .returned (.int .i64 (zde ((zbr a).drop i) ((zbr b).drop j) : Nat)) /\ Below w.heap.size w w':=by
 have da:=zoJ a i hi;have db:=zoJ b j hj;have la:=zdI a;have lb:=zdI b;have sa : (a.extract i a.size).size = a.size - i:=by rw [ByteArray.size_extract]; omega
 have sb : (b.extract j b.size).size = b.size - j:=by rw [ByteArray.size_extract]; omega
 by_cases hnil : i = a.size \/ j = b.size
 ·have c:=zvd (a.extract i a.size) (b.extract j b.size) (H + 1) j (w.drewN nd) (by omega) (by omega) (by omega)
  rw [zlU _ _ (by omega),da,db] at c;exact c.mono fun e w' hh=>⟨hh.1,(zjp w nd).trans hh.2⟩
 ·have hi2 : i < a.size:=by omega
  have hj2 : j < b.size:=by omega
  have h1':=h1 hi2;have e1 : (zbr (a.extract i a.size)).tail = (zbr a).drop (i + 1):=by rw [da,List.tail_drop]
  have e2 : (zbr (b.extract j b.size)).tail = (zbr b).drop (j + 1):=by rw [db,List.tail_drop]
  have hd1:=zkK ((zbr a).drop (i + 1)) ((zbr b).drop j);have hd2:=zkK ((zbr a).drop (i + 1)) ((zbr b).drop (j + 1));have hd3:=zkK ((zbr a).drop i) ((zbr b).drop (j + 1));simp only [List.length_drop] at hd1 hd2 hd3
  have hz:=Hd (show j + 2 <= b.size -> ∃ z,l2[j + 2]? = some z /\ z <= 1000 from fun hh=>by
   have : j + 2 < l2.length:=by rw [h.z2]; omega
   exact ⟨l2[j + 2],List.getElem?_eq_getElem this,h.y2 _ (List.getElem_mem this)⟩)
  obtain ⟨z,hz1,hz2,hz3⟩ : ∃ z,z <= 1000 /\ (1 < (b.extract j b.size).size -> l2[j + 2]? = some z) /\ (zhL (a.extract i a.size) (b.extract j b.size) = true -> z = zde (zbr (a.extract i a.size)).tail.tail (zbr (b.extract j b.size)).tail.tail):=by
   by_cases hb2 : j + 2 <= b.size
   ·obtain ⟨z,q1,q2⟩:=hz.out hb2
    refine ⟨z,q2,fun _=>q1,fun hs=>?_⟩;have hs1 : 1 < (a.extract i a.size).size:=by unfold zhL at hs; simp at hs; have:=hs.1.1.1.1; omega
    rw [h2 (by omega),znE _ _ _ _ (by omega)] at q1;rw [e1,e2,List.tail_drop,List.tail_drop];exact (Option.some.inj q1).symm
   ·refine ⟨0,by omega,fun hh=>by omega,fun hs=>?_⟩
    exfalso;unfold zhL at hs; simp at hs;have:=hs.1.1.1.2;omega
  have hm : zrw (w.drewN nd) (H + 1) g0 g1 g2 n j (b.extract j b.size).size (zde ((zbr a).drop (i + 1)) ((zbr b).drop j)) (zde ((zbr a).drop (i + 1)) ((zbr b).drop (j + 1))) (zde ((zbr a).drop i) ((zbr b).drop (j + 1))) z:=
   { t0:=h.kT.cell 0,t1:=h.kT.cell 1,t2:=h.kT.cell 2,c1:=h.r1.cell (by rw [h1',znE _ _ _ _ (by omega)]),c2:=h.r1.cell (by rw [h1',znE _ _ _ _ (by omega)]),c3:=h.r0.cell (h0 (j + 1) (lQ _) (by omega)),c4:=fun hh=>h.r2.cell (hz2 hh) }
  have c:=zsX (a.extract i a.size) (b.extract j b.size) (H + 1) g0 g1 g2 n j _ _ _ z (w.drewN nd) (by omega) (by omega) (by omega) (by omega) (by omega) (by omega) (by omega) hz1 hm;have hl:=zsY (a.extract i a.size) (b.extract j b.size) (by omega) (by omega) z hz3;rw [e1,e2,da,db] at hl;rw [hl] at c;exact c.mono fun e w' hh=>⟨hh.1,(zjp w nd).trans hh.2⟩
theorem zqd (a b : ByteArray) (gd B : Nat) (x0 : Int) (W w : World) (ha : a.size <= 60) (hb : b.size <= 60) (hB : B <= gd) (hBw : B <= w.heap.size) (hW : Below B W w) (hgd : Blk w gd 3 #[.int .i64 x0]) :
    Calls Tryz.prog 222 #[.string a,.string b,ztQ,.func (.func 223) #[] #[.pointer (some ⟨gd,0,none⟩)]] w fun e w'=>e = .returned (.tuple #[]) /\ Blk w' gd 3 #[.int .i64 (zde (zbr a) (zbr b) : Nat)] /\ Below B W w':=by
  have hmk:=fun w=>zxb b.size (by omega) w;have hlt:=hgd.lt;have kC:=(Blk.new w 259 #[.int .i64 1,.int .i64 1,.int .i64 1,.int .i64 1]).alloc (.cells #[.slice none 0 0,.slice none 0 0,.slice none 0 0] 297);have kT:=Blk.new_at (w.alloc (.cells #[.int .i64 1,.int .i64 1,.int .i64 1,.int .i64 1] 259)) 297 #[.slice none 0 0,.slice none 0 0,.slice none 0 0] (w.heap.size + 1) (by simp);have kD:=(hgd.alloc (.cells #[.int .i64 1,.int .i64 1,.int .i64 1,.int .i64 1] 259)).alloc (.cells #[.slice none 0 0,.slice none 0 0,.slice none 0 0] 297);have hW2 : Below B W ((w.alloc (.cells #[.int .i64 1,.int .i64 1,.int .i64 1,.int .i64 1] 259)).alloc (.cells #[.slice none 0 0,.slice none 0 0,.slice none 0 0] 297)):=(hW.alloc hBw _).alloc (by simp; omega) _;have hsz : ((w.alloc (.cells #[.int .i64 1,.int .i64 1,.int .i64 1,.int .i64 1] 259)).alloc (.cells #[.slice none 0 0,.slice none 0 0,.slice none 0 0] 297)).heap.size = w.heap.size + 2:=by simp
  unfold ztQ;go_enter Tryz.func222,Tryz.ntmps222;go_wp2;generalize (w.alloc (.cells #[.int .i64 1,.int .i64 1,.int .i64 1,.int .i64 1] 259)).alloc (.cells #[.slice none 0 0,.slice none 0 0,.slice none 0 0] 297) = w2 at *;generalize w.heap.size = H at *;clear hW hgd;have b1 : (b.size : Int) <= 60:=by omega
  go_loopw [12] (fun iv wr=>∃ (k : Nat) (i : Int) (T : Array Value),i = k /\ k <= 3 /\ iv = .int .i64 i /\ Below B W wr /\ Blk wr gd 3 #[.int .i64 x0] /\ Blk wr H 259 #[.int .i64 1,.int .i64 1,.int .i64 1,.int .i64 1] /\
      T = #[if 0 < k then zzY b.size (H + 2) else zzV,if 1 < k then zzY b.size (H + 3) else zzV,if 2 < k then zzY b.size (H + 4) else zzV] /\ Blk wr (H + 1) 297 T /\ wr.heap.size = H + 2 + k /\
      Hid (∀ j,j < k -> ziH wr (H + 2 + j) (List.replicate (b.size + 1) 0)))
    (fun iv _=>3 - (intOf iv).toNat)
  case atStart=>exact ⟨0,0,_,rfl,by omega,rfl,hW2,kD,kC,rfl,kT,hsz,Hd fun j hj=>absurd hj (by omega)⟩
  case round=>
    obtain ⟨k,i,T,hik,hk,rfl,hbw,hkD,hkC,rfl,hkT,hwz,hrow⟩:=hrel;rename World=>wr;obtain rfl | rfl | rfl | rfl : k = 0 \/ k = 1 \/ k = 2 \/ k = 3:=by omega
    · obtain rfl : i = 0:=by omega
      have hT : Blk wr (H + 1) 297 #[.slice none 0 0,.slice none 0 0,.slice none 0 0]:=hkT;have hsS : (wr.setCell ⟨H + 1,0,none⟩ (.slice (some ⟨H + 2,0,none⟩) (b.size + 1) (b.size + 1))).heap.size = H + 2:=by simp [World.setCell]; omega
      have hmw : Sem.run Tryz.prog (Instr.makeSlice 103 (.int .i64 ((b.size : Int) + 1)) (.int .i64 ((b.size : Int) + 1))) wr = .ok (.slice (some ⟨H + 2,0,none⟩) (b.size + 1) (b.size + 1)) (wr.alloc (.cells (zbG (List.replicate (b.size + 1) 0)) 3)):=by rw [hmk,hwz]
      have c0:=hT.cell 0;have f0:=hT.frozen 0;simp at c0;have hTs:=Hd ((hT.set_ 0 (.slice (some ⟨H + 2,0,none⟩) (b.size + 1) (b.size + 1))).alloc (.cells (zbG (List.replicate (b.size + 1) 0)) 3));have hDs:=Hd ((hkD.far (p:=⟨H + 1,0,none⟩) (by simp; omega) (.slice (some ⟨H + 2,0,none⟩) (b.size + 1) (b.size + 1))).alloc (.cells (zbG (List.replicate (b.size + 1) 0)) 3));have hCs:=Hd ((hkC.far (p:=⟨H + 1,0,none⟩) (by simp) (.slice (some ⟨H + 2,0,none⟩) (b.size + 1) (b.size + 1))).alloc (.cells (zbG (List.replicate (b.size + 1) 0)) 3));have hbs:=Hd ((hbw.setCell (p:=⟨H + 1,0,none⟩) (by simp; omega) (.slice (some ⟨H + 2,0,none⟩) (b.size + 1) (b.size + 1))).alloc (by omega) (.cells (zbG (List.replicate (b.size + 1) 0)) 3))
      have hrs : Hid (∀ j,j < 0 + 1 -> ziH ((wr.setCell ⟨H + 1,0,none⟩ (.slice (some ⟨H + 2,0,none⟩) (b.size + 1) (b.size + 1))).alloc (.cells (zbG (List.replicate (b.size + 1) 0)) 3)) (H + 2 + j) (List.replicate (b.size + 1) 0)):=Hd fun j hj=>by
        rcases Nat.lt_or_ge j 0 with h | h
        · exact (Blk.far (hrow.out j h) (by simp; omega) _).alloc _
        · obtain rfl : j = 0:=by omega
          exact Blk.new_at _ _ _ _ hsS.symm
      have hzs : Hid (((wr.setCell ⟨H + 1,0,none⟩ (.slice (some ⟨H + 2,0,none⟩) (b.size + 1) (b.size + 1))).alloc (.cells (zbG (List.replicate (b.size + 1) 0)) 3)).heap.size = H + 2 + 1):=Hd (by simp [World.setCell]; omega);have hlH : H + 1 < wr.heap.size:=by omega
      have hlN : (H + 1 = wr.heap.size) = False:=by simp; omega
      clear hik hk hT hkT hkD hkC hwz hmk hsS;go_wp2;go_roundw
      case rel=>exact ⟨1,1,_,rfl,by omega,by go_num,hbs.out,hDs.out,hCs.out,rfl,hTs.out,hzs.out,hrs⟩
      case measure=>simp [intOf]
    · obtain rfl : i = 1:=by omega
      have hT : Blk wr (H + 1) 297 #[.slice (some ⟨H + 2,0,none⟩) (b.size + 1) (b.size + 1),.slice none 0 0,.slice none 0 0]:=hkT;have hsS : (wr.setCell ⟨H + 1,1,none⟩ (.slice (some ⟨H + 3,0,none⟩) (b.size + 1) (b.size + 1))).heap.size = H + 3:=by simp [World.setCell]; omega
      have hmw : Sem.run Tryz.prog (Instr.makeSlice 103 (.int .i64 ((b.size : Int) + 1)) (.int .i64 ((b.size : Int) + 1))) wr = .ok (.slice (some ⟨H + 3,0,none⟩) (b.size + 1) (b.size + 1)) (wr.alloc (.cells (zbG (List.replicate (b.size + 1) 0)) 3)):=by rw [hmk,hwz]
      have c1:=hT.cell 1;have f1:=hT.frozen 1;simp at c1;have hTs:=Hd ((hT.set_ 1 (.slice (some ⟨H + 3,0,none⟩) (b.size + 1) (b.size + 1))).alloc (.cells (zbG (List.replicate (b.size + 1) 0)) 3));have hDs:=Hd ((hkD.far (p:=⟨H + 1,1,none⟩) (by simp; omega) (.slice (some ⟨H + 3,0,none⟩) (b.size + 1) (b.size + 1))).alloc (.cells (zbG (List.replicate (b.size + 1) 0)) 3));have hCs:=Hd ((hkC.far (p:=⟨H + 1,1,none⟩) (by simp) (.slice (some ⟨H + 3,0,none⟩) (b.size + 1) (b.size + 1))).alloc (.cells (zbG (List.replicate (b.size + 1) 0)) 3));have hbs:=Hd ((hbw.setCell (p:=⟨H + 1,1,none⟩) (by simp; omega) (.slice (some ⟨H + 3,0,none⟩) (b.size + 1) (b.size + 1))).alloc (by omega) (.cells (zbG (List.replicate (b.size + 1) 0)) 3))
      have hrs : Hid (∀ j,j < 1 + 1 -> ziH ((wr.setCell ⟨H + 1,1,none⟩ (.slice (some ⟨H + 3,0,none⟩) (b.size + 1) (b.size + 1))).alloc (.cells (zbG (List.replicate (b.size + 1) 0)) 3)) (H + 2 + j) (List.replicate (b.size + 1) 0)):=Hd fun j hj=>by
        rcases Nat.lt_or_ge j 1 with h | h
        · exact (Blk.far (hrow.out j h) (by simp; omega) _).alloc _
        · obtain rfl : j = 1:=by omega
          exact Blk.new_at _ _ _ _ hsS.symm
      have hzs : Hid (((wr.setCell ⟨H + 1,1,none⟩ (.slice (some ⟨H + 3,0,none⟩) (b.size + 1) (b.size + 1))).alloc (.cells (zbG (List.replicate (b.size + 1) 0)) 3)).heap.size = H + 2 + 2):=Hd (by simp [World.setCell]; omega);have hlH : H + 1 < wr.heap.size:=by omega
      have hlN : (H + 1 = wr.heap.size) = False:=by simp; omega
      clear hik hk hT hkT hkD hkC hwz hmk hsS;go_wp2;go_roundw
      case rel=>exact ⟨2,2,_,rfl,by omega,by go_num,hbs.out,hDs.out,hCs.out,rfl,hTs.out,hzs.out,hrs⟩
      case measure=>simp [intOf]
    · obtain rfl : i = 2:=by omega
      have hT : Blk wr (H + 1) 297 #[.slice (some ⟨H + 2,0,none⟩) (b.size + 1) (b.size + 1),.slice (some ⟨H + 3,0,none⟩) (b.size + 1) (b.size + 1),.slice none 0 0]:=hkT;have hsS : (wr.setCell ⟨H + 1,2,none⟩ (.slice (some ⟨H + 4,0,none⟩) (b.size + 1) (b.size + 1))).heap.size = H + 4:=by simp [World.setCell]; omega
      have hmw : Sem.run Tryz.prog (Instr.makeSlice 103 (.int .i64 ((b.size : Int) + 1)) (.int .i64 ((b.size : Int) + 1))) wr = .ok (.slice (some ⟨H + 4,0,none⟩) (b.size + 1) (b.size + 1)) (wr.alloc (.cells (zbG (List.replicate (b.size + 1) 0)) 3)):=by rw [hmk,hwz]
      have c2:=hT.cell 2;have f2:=hT.frozen 2;simp at c2;have hTs:=Hd ((hT.set_ 2 (.slice (some ⟨H + 4,0,none⟩) (b.size + 1) (b.size + 1))).alloc (.cells (zbG (List.replicate (b.size + 1) 0)) 3));have hDs:=Hd ((hkD.far (p:=⟨H + 1,2,none⟩) (by simp; omega) (.slice (some ⟨H + 4,0,none⟩) (b.size + 1) (b.size + 1))).alloc (.cells (zbG (List.replicate (b.size + 1) 0)) 3));have hCs:=Hd ((hkC.far (p:=⟨H + 1,2,none⟩) (by simp) (.slice (some ⟨H + 4,0,none⟩) (b.size + 1) (b.size + 1))).alloc (.cells (zbG (List.replicate (b.size + 1) 0)) 3));have hbs:=Hd ((hbw.setCell (p:=⟨H + 1,2,none⟩) (by simp; omega) (.slice (some ⟨H + 4,0,none⟩) (b.size + 1) (b.size + 1))).alloc (by omega) (.cells (zbG (List.replicate (b.size + 1) 0)) 3))
      have hrs : Hid (∀ j,j < 2 + 1 -> ziH ((wr.setCell ⟨H + 1,2,none⟩ (.slice (some ⟨H + 4,0,none⟩) (b.size + 1) (b.size + 1))).alloc (.cells (zbG (List.replicate (b.size + 1) 0)) 3)) (H + 2 + j) (List.replicate (b.size + 1) 0)):=Hd fun j hj=>by
        rcases Nat.lt_or_ge j 2 with h | h
        · exact (Blk.far (hrow.out j h) (by simp; omega) _).alloc _
        · obtain rfl : j = 2:=by omega
          exact Blk.new_at _ _ _ _ hsS.symm
      have hzs : Hid (((wr.setCell ⟨H + 1,2,none⟩ (.slice (some ⟨H + 4,0,none⟩) (b.size + 1) (b.size + 1))).alloc (.cells (zbG (List.replicate (b.size + 1) 0)) 3)).heap.size = H + 2 + 3):=Hd (by simp [World.setCell]; omega);have hlH : H + 1 < wr.heap.size:=by omega
      have hlN : (H + 1 = wr.heap.size) = False:=by simp; omega
      clear hik hk hT hkT hkD hkC hwz hmk hsS;go_wp2;go_roundw
      case rel=>exact ⟨3,3,_,rfl,by omega,by go_num,hbs.out,hDs.out,hCs.out,rfl,hTs.out,hzs.out,hrs⟩
      case measure=>simp [intOf]
    · obtain rfl : i = 3:=by omega
      have hT : Blk wr (H + 1) 297 #[.slice (some ⟨H + 2,0,none⟩) (b.size + 1) (b.size + 1),.slice (some ⟨H + 3,0,none⟩) (b.size + 1) (b.size + 1),.slice (some ⟨H + 4,0,none⟩) (b.size + 1) (b.size + 1)]:=hkT
      have hst : zed B W gd H b.size x0 (H + 2) (H + 3) (H + 4) (List.replicate (b.size + 1) 0) (List.replicate (b.size + 1) 0) (List.replicate (b.size + 1) 0) wr:=
        { bel:=hbw,kD:=hkD,kC:=hkC,kT:=hT,r0:=hrow.out 0 (by omega),r1:=hrow.out 1 (by omega),r2:=hrow.out 2 (by omega),z0:=by simp,z1:=by simp,z2:=by simp,n01:=by omega,n02:=by omega,n12:=by omega,m0:=by omega,m1:=by omega,m2:=by omega,
          y0:=fun x hx=>by rw [(List.mem_replicate.1 hx).2]; omega,y1:=fun x hx=>by rw [(List.mem_replicate.1 hx).2]; omega,y2:=fun x hx=>by rw [(List.mem_replicate.1 hx).2]; omega,lt:=hlt,le:=hB }
      have hla:=Hd (zdI a);have hlb:=Hd (zdI b);have hst':=Hd hst;have a1 : (a.size : Int) <= 60:=by omega
      clear hik hk hkT hrow hmk hst hT hkC hkD hbw hwz kC kT kD hW2 hsz;go_wp2
      go_loopw [10] (fun iv wr=>∃ (k : Nat) (i : Int) (d : Int) (g0 g1 g2 : Nat) (l0 l1 l2 : List Nat),i = (k : Int) - 1 /\ k <= a.size + 1 /\ iv = .int .i64 i /\ Hid (zed B W gd H b.size d g0 g1 g2 l0 l1 l2 wr) /\
          Hid ((k <= a.size -> l0 = rowD (zbr a) (zbr b) k /\ d = (zde ((zbr a).drop k) (zbr b) : Nat)) /\ (k + 1 <= a.size -> l1 = rowD (zbr a) (zbr b) (k + 1))))
        (fun iv _=>(intOf iv + 1).toNat)
      case atStart=>exact ⟨a.size + 1,(a.size : Int),x0,H + 2,H + 3,H + 4,_,_,_,by omega,by omega,rfl,hst',Hd ⟨fun h=>absurd h (by omega),fun h=>absurd h (by omega)⟩⟩
      case round=>
        obtain ⟨k,i,d,g0,g1,g2,l0,l1,l2,hik,hk,rfl,hs,hrl⟩:=hrel;rename World=>wo;rcases Nat.eq_zero_or_pos k with rfl | hkp
        · obtain rfl : i = -1:=by omega
          have hfin : Hid (d = (zde (zbr a) (zbr b) : Nat)):=Hd ((hrl.out.1 (by omega)).2);clear hik hk;go_wp2
          go_end0
          exact ⟨rfl,by rw [<- hfin.out]; exact hs.out.kD,hs.out.bel⟩
        · obtain ⟨m,rfl⟩ : ∃ m,k = m + 1:=⟨k - 1,by omega⟩
          obtain rfl : i = (m : Int):=by omega
          have m0 : (0 : Int) <= (m : Int):=by omega
          have m1 : (m : Int) <= (a.size : Int):=by omega
          have t0:=hs.out.kT.cell 0;have t1:=hs.out.kT.cell 1;have t2:=hs.out.kT.cell 2;have f0:=hs.out.kT.frozen 0;have f1:=hs.out.kT.frozen 1;have f2:=hs.out.kT.frozen 2;have hl1:=hs.out.kT.lt;simp at t0 t1 t2;have hrot:=Hd hs.out.rotate;have hma : m <= a.size:=by omega
          clear hik hk hkp;go_upto_region 11 with fail;generalize (((wo.setCell ⟨H + 1,0,none⟩ (.slice (some ⟨g2,0,none⟩) (b.size + 1) (b.size + 1))).setCell ⟨H + 1,1,none⟩ (.slice (some ⟨g0,0,none⟩) (b.size + 1) (b.size + 1))).setCell ⟨H + 1,2,none⟩ (.slice (some ⟨g1,0,none⟩) (b.size + 1) (b.size + 1))) = wq at *;clear t0 t1 t2 f0 f1 f2 hl1 hs;go_wp2
          go_loopw [11] (fun jv wr=>∃ (q : Nat) (j : Int) (l : List Nat),j = (q : Int) - 1 /\ q <= b.size + 1 /\ jv = .int .i64 j /\ Hid (zed B W gd H b.size d g2 g0 g1 l l0 l1 wr) /\ Hid (∀ k,q <= k -> k <= b.size -> l[k]? = some (zde ((zbr a).drop m) ((zbr b).drop k))))
            (fun jv _=>(intOf jv + 1).toNat)
          case atStart=>exact ⟨b.size + 1,(b.size : Int),l2,by omega,by omega,rfl,hrot,Hd fun k h1 h2=>absurd h1 (by omega)⟩
          case round=>
            obtain ⟨q,j,l,hjq,hq,rfl,hs,hl⟩:=hrel;rename World=>wi;rcases Nat.eq_zero_or_pos q with rfl | hqp
            · obtain rfl : j = -1:=by omega
              have hrow : Hid (l = rowD (zbr a) (zbr b) m):=Hd (by
                apply List.ext_getElem?
                intro k;rcases Nat.lt_or_ge k (b.size + 1) with h | h
                · rw [hl.out k (Nat.zero_le _) (by omega),znE _ _ _ _ (by rw [hlb.out]; omega)]
                · rw [List.getElem?_eq_none (by rw [hs.out.z0]; omega),List.getElem?_eq_none (by rw [rowD,List.length_map,List.length_range,hlb.out]; omega)])
              have s0:=hs.out.kT.cell 0;simp at s0;have hkc:=Hd (znp g2 gd (b.size + 1) (b.size + 1) _ wi (hs.out.r0.cell (hl.out 0 (lQ _) (Nat.zero_le _))) (by omega) ⟨_,hs.out.kD.cell 0⟩ (hs.out.kD.frozen 0));have hfin:=Hd (hs.out.keepD ((zde ((zbr a).drop m) ((zbr b).drop 0) : Nat) : Int));clear hjq hq;go_wp2_with fail;refine hkc.out.mono ?_;rintro e w2 ⟨rfl,rfl⟩
              have hr2 : Hid ((m <= a.size -> l = rowD (zbr a) (zbr b) m /\ ((zde ((zbr a).drop m) ((zbr b).drop 0) : Nat) : Int) = (zde ((zbr a).drop m) (zbr b) : Nat)) /\ (m + 1 <= a.size -> l0 = rowD (zbr a) (zbr b) (m + 1))):=
                Hd ⟨fun _=>⟨hrow.out,rfl⟩,fun h=>(hrl.out.1 h).1⟩
              clear s0 hkc;go_wp2;go_roundw
              case rel=>exact ⟨m,(m : Int) - 1,_,_,_,_,_,_,_,rfl,by omega,by go_num,hfin,hr2⟩
              case measure=>simp [intOf] <;> omega
            · obtain ⟨p,rfl⟩ : ∃ p,q = p + 1:=⟨q - 1,by omega⟩
              obtain rfl : j = (p : Int):=by omega
              have p0 : (0 : Int) <= (p : Int):=by omega
              have p1 : (p : Int) <= (b.size : Int):=by omega
              have p2 : (p : Int) < (b.size : Int) + 1:=by omega
              have hcon:=Hd (fun nd=>zwY hs.out a b m p nd ha hb rfl hma (by omega) hl.out (fun h=>(hrl.out.1 (by omega)).1) (fun h=>hrl.out.2 (by omega)));clear hjq hq hqp;have s0:=hs.out.kT.cell 0;have k0:=hs.out.kC.cell 0;have k1:=hs.out.kC.cell 1;have k2:=hs.out.kC.cell 2;have k3:=hs.out.kC.cell 3;simp at s0 k0 k1 k2 k3;obtain ⟨y,hy⟩ : ∃ y,l[p]? = some y:=⟨l[p]'(by rw [hs.out.z0]; omega),List.getElem?_eq_getElem _⟩;have hy':=Hd hy;have hdb : Hid (zde ((zbr a).drop m) ((zbr b).drop p) <= 1000):=Hd (by have:=zkK ((zbr a).drop m) ((zbr b).drop p); simp only [List.length_drop,hla.out,hlb.out] at this; omega);clear hy;go_upto_region 14 with fail
              go_region_held3 (fun w'=>w'.cell? ⟨H + 1,0,none⟩ = some (.slice (some ⟨g2,0,none⟩) (b.size + 1) (b.size + 1)) /\ w'.cell? ⟨H,0,none⟩ = some (.int .i64 1) /\ w'.cell? ⟨H,1,none⟩ = some (.int .i64 1) /\ w'.cell? ⟨H,2,none⟩ = some (.int .i64 1) /\ w'.cell? ⟨H,3,none⟩ = some (.int .i64 1))
                (go_keep) ((go_at_call 239; refine (hcon.out 1).mono ?_; rintro e w2 ⟨rfl,hb2⟩; have hs2:=Hd (hs.out.below hb2); have s0b:=hs2.out.kT.cell 0; have k0b:=hs2.out.kC.cell 0; have k1b:=hs2.out.kC.cell 1; have k2b:=hs2.out.kC.cell 2; have k3b:=hs2.out.kC.cell 3; have sy:=hs2.out.r0.cell hy'.out; have fy:=Blk.frozen hs2.out.r0 p; have hput:=Hd (hs2.out.put p _ hdb.out); have s0c:=hput.out.kT.cell 0; have k0c:=hput.out.kC.cell 0; have k1c:=hput.out.kC.cell 1; have k2c:=hput.out.kC.cell 2; have k3c:=hput.out.kC.cell 3; simp at s0b k0b k1b k2b k3b s0c k0c k1c k2c k3c))
              have hl' : Hid (∀ k,p <= k -> k <= b.size -> (l.set p (zde ((zbr a).drop m) ((zbr b).drop p)))[k]? = some (zde ((zbr a).drop m) ((zbr b).drop k))):=Hd fun k h1 h2=>by
                rcases Nat.lt_or_ge p k with h | h
                · rw [List.getElem?_set_ne (by omega)]; exact hl.out k h h2
                · obtain rfl : k = p:=by omega
                  rw [List.getElem?_set_self (by rw [hs.out.z0]; omega)]
              rename_i hHeld;clear s0 k0 k1 k2 k3 sy fy s0b k0b k1b k2b k3b s0c k0c k1c k2c k3c hHeld;go_wp2;go_roundw
              case rel=>exact ⟨p,(p : Int) - 1,_,rfl,by omega,by go_num,hput,hl'⟩
              case measure=>simp [intOf] <;> omega
theorem zoi (a b : ByteArray) (w : World) : Calls Tryz.prog 195 #[.string a,.string b,.agg #[.int .i64 1,.int .i64 1,.int .i64 1,.int .i64 1]] w fun e w'=>
  e = .returned (if 60 < a.size \/ 60 < b.size then .tuple #[.int .i64 0,.int .i64 3] else .tuple #[.int .i64 (zde (zbr a) (zbr b) : Nat),.int .i64 0]) /\ Below w.heap.size w w':=by
 have hb : Below w.heap.size w (w.alloc (.cells #[.int .i64 1,.int .i64 1,.int .i64 1,.int .i64 1] 259)):=(Below.refl _ _).alloc (lQ _) _;have hc:=Hd (zpQ a b (w.alloc (.cells #[.int .i64 1,.int .i64 1,.int .i64 1,.int .i64 1] 259)));have hd : Hid (znd a b = if 60 < a.size \/ 60 < b.size then 3 else 0):=Hd rfl;have kC:=Blk.new w 259 #[.int .i64 1,.int .i64 1,.int .i64 1,.int .i64 1];unfold ztQ at hc;generalize hr : (if 60 < a.size \/ 60 < b.size then Value.tuple #[.int .i64 0,.int .i64 3] else .tuple #[.int .i64 (zde (zbr a) (zbr b) : Nat),.int .i64 0]) = R;have hr':=Hd hr;clear hr;go_enter Tryz.func195,Tryz.ntmps195;go_wp2_with fail;refine hc.out.mono ?_;rintro e w1 ⟨rfl,hb1⟩;have hb2:=hb.trans (hb1.mono hb.size);have kC1:=kC.below hb1 (by simp);have hs1:=hb2.size;clear hc hb1 kC hb;by_cases h60 : 60 < a.size \/ 60 < b.size
 ·rw [if_pos h60] at hd hr'
  rw [hd.out];clear h60;go_wp2
  go_ret2
  exact ⟨by rw [<- hr'.out]; rfl,hb2⟩
 ·rw [if_neg h60] at hd hr'
  rw [hd.out];have h61:=Hd (show a.size <= 60 /\ b.size <= 60 from by omega);have kC2:=kC1.alloc (.cells #[.int .i64 0] 3);have hb3:=hb2.alloc hs1 (.cells #[.int .i64 0] 3);have hrow:=Hd (zqd a b w1.heap.size w.heap.size 0 w (w1.alloc (.cells #[.int .i64 0] 3)) h61.out.1 h61.out.2 hs1 (by simp; omega) hb3 (Blk.new _ _ _));have k0:=kC1.cell 0;have k1:=kC1.cell 1;have k2:=kC1.cell 2;have k3:=kC1.cell 3;have kl:=kC1.lt;simp at k0 k1 k2 k3;unfold ztQ at hrow;clear h60 kC1 hb2 hb3;go_wp2_with fail;refine hrow.out.mono ?_;rintro e w2 ⟨rfl,kD,hb4⟩;have c0:=kD.cell 0;simp at c0;clear hrow kD;go_wp2
  go_ret2
  exact ⟨by rw [<- hr'.out]; rfl,hb4⟩
def zaH (a b : ByteArray) : Nat × Bool:=if 60 < a.size \/ 60 < b.size then (0,false) else (zde (zbr a) (zbr b),true)
theorem zhX (a b : ByteArray) (w : World) : Calls Tryz.prog 151 #[.string a,.string b] w fun e w'=>e = .returned (.tuple #[.int .i64 ((zaH a b).1 : Nat),.bool (zaH a b).2]) /\ Below w.heap.size w w':=by
 have hc:=zoi a b w;have hd : Hid (zaH a b = if 60 < a.size \/ 60 < b.size then (0,false) else (zde (zbr a) (zbr b),true)):=Hd rfl;by_cases h60 : 60 < a.size \/ 60 < b.size
 ·rw [if_pos h60] at hd hc
  have hc':=Hd hc;clear h60 hc;go_enter Tryz.func151,Tryz.ntmps151;go_wp2_with fail;refine hc'.out.mono ?_;rintro e w1 ⟨rfl,hb1⟩;go_wp2
  go_ret2
  exact ⟨by rw [hd.out]; rfl,hb1⟩
 ·rw [if_neg h60] at hd hc
  have hc':=Hd hc;clear h60 hc;go_enter Tryz.func151,Tryz.ntmps151;go_wp2_with fail;refine hc'.out.mono ?_;rintro e w1 ⟨rfl,hb1⟩;go_wp2
  go_ret2
  exact ⟨by rw [hd.out]; rfl,hb1⟩
end
section
open Go.RowKit
def zcD (n : Int) : Int:=if 8 <= n then 2 else if 4 <= n then 1 else 0
theorem znH (n : Int) (w : World) : Calls Tryz.prog 18 #[.int .i64 n] w fun e w'=>e = .returned (.int .i64 (zcD n)) /\ w' = w:=by
 have hd : Hid (zcD n = if 8 <= n then 2 else if 4 <= n then 1 else 0):=Hd rfl;by_cases h8 : 8 <= n
 ·have d8 : decide (8 <= n) = true:=decide_eq_true h8
  rw [if_pos h8] at hd;clear h8;go_enter Tryz.func18,Tryz.ntmps18;go_wp2;go_ret;exact ⟨zbO hd.out.symm,rfl⟩
 have d8 : decide (8 <= n) = false:=decide_eq_false h8;rw [if_neg h8] at hd;by_cases h4 : 4 <= n
 ·have d4 : decide (4 <= n) = true:=decide_eq_true h4
  rw [if_pos h4] at hd;clear h8 h4;go_enter Tryz.func18,Tryz.ntmps18;go_wp2;go_ret;exact ⟨zbO hd.out.symm,rfl⟩
 have d4 : decide (4 <= n) = false:=decide_eq_false h4;rw [if_neg h4] at hd;clear h8 h4;go_enter Tryz.func18,Tryz.ntmps18;go_wp2;go_ret;exact ⟨zbO hd.out.symm,rfl⟩
theorem zdC (a b : ByteArray) (w : World) : Calls Tryz.prog 91 #[.string a,.string b] w fun e w'=>e = .returned (.tuple #[.int .i64 0,.bool false]) /\ Below w.heap.size w w':=by
 go_enter Tryz.func91,Tryz.ntmps91;go_wp2
 go_ret2
 exact ⟨rfl,Below.refl _ _⟩
def zaq (a b : ByteArray) : Int × Bool:=if (zaH a b).2 = true /\ (zaH a b).1 = 1 then (4,true) else (0,false)
theorem zjl (a b : ByteArray) (w : World) : Calls Tryz.prog 96 #[.string a,.string b] w fun e w'=>e = .returned (.tuple #[.int .i64 (zaq a b).1,.bool (zaq a b).2]) /\ Below w.heap.size w w':=by
 have hd : Hid (zaq a b = if (zaH a b).2 = true /\ (zaH a b).1 = 1 then (4,true) else (0,false)):=Hd rfl;have hdi:=Hd (zhX a b w);generalize zaq a b = r at *;generalize zaH a b = d at *;obtain ⟨n,ok⟩:=d;simp only at hd hdi;go_enter Tryz.func96,Tryz.ntmps96;go_wp2_with fail;refine hdi.out.mono ?_;rintro e w2 ⟨rfl,hb⟩;clear hdi
 cases ok with
 | false=>
  rw [if_neg (by simp)] at hd;go_wp2
  go_ret2
  exact ⟨by rw [hd.out]; rfl,hb⟩
 | true=>
 by_cases h1 : n = 1
 ·have e1 : ((n : Int) != 1) = false:=by simp [h1]
  rw [if_pos ⟨rfl,h1⟩] at hd;clear h1;go_wp2
  go_ret2
  exact ⟨by rw [hd.out]; rfl,hb⟩
 ·have e1 : ((n : Int) != 1) = true:=by simp; omega
  rw [if_neg (by simp [h1])] at hd;clear h1;go_wp2
  go_ret2
  exact ⟨by rw [hd.out]; rfl,hb⟩
def zaK (a b : ByteArray) : Int × Bool:=
 if zcD b.size = 0 \/ (b.size : Int) + zcD b.size < a.size \/ (a.size : Int) + zcD b.size < b.size then (0,false)
 else if (zaH a b).2 = true /\ ((zaH a b).1 : Int) <= zcD b.size then (((zaH a b).1 : Int),true) else (0,false)
theorem zmO (n : Int) : 0 <= zcD n /\ zcD n <= 2:=by
 unfold zcD
 split
 ·omega
 ·split <;> omega
theorem zjz (a b : ByteArray) (w : World) (ha : a.size <= 1000000) (hb : b.size <= 1000000) : Calls Tryz.prog 153 #[.string a,.string b] w fun e w'=>e = .returned (.tuple #[.int .i64 (zaK a b).1,.bool (zaK a b).2]) /\ Below w.heap.size w w':=by
 have hd : Hid (zaK a b = if zcD b.size = 0 \/ (b.size : Int) + zcD b.size < a.size \/ (a.size : Int) + zcD b.size < b.size then ((0 : Int),false)
  else if (zaH a b).2 = true /\ ((zaH a b).1 : Int) <= zcD b.size then (((zaH a b).1 : Int),true) else ((0 : Int),false)):=Hd rfl
 have hdi:=Hd (zhX a b w);have hsl:=Hd (znH b.size w);have hs2:=zmO b.size;generalize zaK a b = r at *;generalize zaH a b = d at *;generalize zcD b.size = s at *;obtain ⟨n,ok⟩:=d;simp only at hd hdi;go_enter Tryz.func153,Tryz.ntmps153;go_wp2_with fail;refine hsl.out.mono ?_;rintro e w1 ⟨rfl,rfl⟩;clear hsl;by_cases h0 : s = 0
 ·have e0 : (s == 0) = true:=by simp [h0]
  rw [if_pos (.inl h0)] at hd;clear h0;go_wp2
  go_ret2
  exact ⟨by rw [hd.out]; rfl,Below.refl _ _⟩
 have e0 : (s == 0) = false:=by simpa using h0
 by_cases h1 : (b.size : Int) + s < a.size
 ·have d1 : decide ((b.size : Int) + s < (a.size : Int)) = true:=decide_eq_true h1
  rw [if_pos (.inr (.inl h1))] at hd;clear h0 h1;go_wp2
  go_ret2
  exact ⟨by rw [hd.out]; rfl,Below.refl _ _⟩
 have d1 : decide ((b.size : Int) + s < (a.size : Int)) = false:=decide_eq_false h1;by_cases h2 : (a.size : Int) + s < b.size
 ·have d2 : decide ((a.size : Int) + s < (b.size : Int)) = true:=decide_eq_true h2
  rw [if_pos (.inr (.inr h2))] at hd;clear h0 h1 h2;go_wp2
  go_ret2
  exact ⟨by rw [hd.out]; rfl,Below.refl _ _⟩
 have d2 : decide ((a.size : Int) + s < (b.size : Int)) = false:=decide_eq_false h2;rw [if_neg (by omega)] at hd;clear h0 h1 h2;go_wp2_with fail;refine hdi.out.mono ?_;rintro e w2 ⟨rfl,hb2⟩;clear hdi
 cases ok with
 | false=>
  rw [if_neg (by simp)] at hd;go_wp2
  go_ret2
  exact ⟨by rw [hd.out]; rfl,hb2⟩
 | true=>
 by_cases h1 : (n : Int) <= s
 ·have e1 : decide (s < (n : Int)) = false:=decide_eq_false (by omega)
  rw [if_pos ⟨rfl,h1⟩] at hd;clear h1;go_wp2
  go_ret2
  exact ⟨by rw [hd.out]; rfl,hb2⟩
 ·have e1 : decide (s < (n : Int)) = true:=decide_eq_true (by omega)
  rw [if_neg (by simp [h1])] at hd;clear h1;go_wp2
  go_ret2
  exact ⟨by rw [hd.out]; rfl,hb2⟩
end
end Go.Proofs.YtggimnndflkjkaaGreatDoor
