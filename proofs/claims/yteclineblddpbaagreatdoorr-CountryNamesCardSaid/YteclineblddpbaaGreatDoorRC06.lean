import Derived.Test.YteclineblddpbaaGreatDoorRC01
import Derived.Test.YteclineblddpbaaGreatDoorRC04
import Derived.Test.YteclineblddpbaaGreatDoorRC05
import Derived.Great.Walk
import Derived.Laws.EntriesVeiled
set_option linter.all false
set_option maxRecDepth 100000
set_option maxHeartbeats 0
namespace Go.Proofs.YteclineblddpbaaGreatDoorR
section
open Go.RowKit Go.Maps
def clsCells (a b : Nat) : Array Value:=#[.int .u16 1,.func (.func 129) #[] #[],.int .u16 2,.func (.func 130) #[] #[],.int .u16 4,.func (.func 131) #[] #[],.int .u16 8,.func (.func 128) #[] #[.pointer (some ⟨a,0,none⟩),.pointer (some ⟨b,0,none⟩)],.int .u16 16,.func (.func 128) #[] #[.pointer (some ⟨a,0,none⟩),.pointer (some ⟨b + 1,0,none⟩)],.int .u16 32,.func (.func 128) #[] #[.pointer (some ⟨a,0,none⟩),.pointer (some ⟨b + 2,0,none⟩)],.int .u16 64,.func (.func 128) #[] #[.pointer (some ⟨a,0,none⟩),.pointer (some ⟨b + 3,0,none⟩)],.int .u16 128,.func (.func 132) #[] #[],.int .u16 256,.func (.func 135) #[] #[],.int .u16 512,.func (.func 138) #[] #[],.int .u16 1024,.func (.func 140) #[] #[],.int .u16 2048,.func (.func 141) #[] #[],.int .u16 4096,.func (.func 142) #[] #[],.int .u16 8192,.func (.func 143) #[] #[]]
theorem info199 : (Tryz.prog.info? 199).map (·.size) = some 28:=by kernel_rfl
def zero28 : Array Value:=#[.int .u16 0,.nilFunc,.int .u16 0,.nilFunc,.int .u16 0,.nilFunc,.int .u16 0,.nilFunc,.int .u16 0,.nilFunc,.int .u16 0,.nilFunc,.int .u16 0,.nilFunc,.int .u16 0,.nilFunc,.int .u16 0,.nilFunc,.int .u16 0,.nilFunc,.int .u16 0,.nilFunc,.int .u16 0,.nilFunc,.int .u16 0,.nilFunc,.int .u16 0,.nilFunc]
theorem zero211 : zero28.size = 28:=by kernel_rfl
theorem one211 (a b : Nat) : (clsCells a b).all (·.oneCell') = true:=by simp [clsCells,Value.oneCell']
def clsB (s : ByteArray) : Nat -> Bool
 | 0=>numberB s
 | 1=>letteredB s
 | 2=>nameB s
 | 3=>hasBit (kindsOf s) 1
 | 4=>hasBit (kindsOf s) 2
 | 5=>hasBit (kindsOf s) 3
 | 6=>hasBit (kindsOf s) 4
 | 7=>flatB s
 | 8=>matchB [true,true] s
 | 9=>matchB [false,false,false,false,false] s
 | 10=>matchB [true,false,true,false,true,false] s
 | 11=>matchB [true,false,true] s
 | 12=>matchB [false,true,false] s
 | 13=>matchB [false,false,false,false] s
 | _=>false
def classesOf (s : ByteArray) : Nat:=sumTo (clsB s) 14
theorem kindsTo_lt (s : ByteArray) : ∀ k,k <= 40 -> kindsTo s k < 64
 | 0,_=>Nat.zero_lt_succ _
 | k + 1,h=>by
  rw [kindsTo_succ s k (by omega)]
  refine stepK_lt (kindsTo_lt s k (by omega)) ?_
  rw [getD_at _ _ _ (show k < table.length from by rw [table_len]; omega)]
  exact (table_kind _ (List.getElem_mem _)).2
theorem kindsOf_lt (s : ByteArray) : kindsOf s < 64:=kindsTo_lt s 40 (lQ _)
theorem index_cls0 (a b : Nat) (W : World) : Sem.run Tryz.prog (Instr.index 199 (.agg (clsCells a b)) (.int .i64 0)) W = .ok (.agg #[.int .u16 1,.func (.func 129) #[] #[]]) W:=by kernel_rfl
theorem index_cls1 (a b : Nat) (W : World) : Sem.run Tryz.prog (Instr.index 199 (.agg (clsCells a b)) (.int .i64 1)) W = .ok (.agg #[.int .u16 2,.func (.func 130) #[] #[]]) W:=by kernel_rfl
theorem index_cls2 (a b : Nat) (W : World) : Sem.run Tryz.prog (Instr.index 199 (.agg (clsCells a b)) (.int .i64 2)) W = .ok (.agg #[.int .u16 4,.func (.func 131) #[] #[]]) W:=by kernel_rfl
theorem index_cls3 (a b : Nat) (W : World) : Sem.run Tryz.prog (Instr.index 199 (.agg (clsCells a b)) (.int .i64 3)) W = .ok (.agg #[.int .u16 8,.func (.func 128) #[] #[.pointer (some ⟨a,0,none⟩),.pointer (some ⟨b,0,none⟩)]]) W:=by kernel_rfl
theorem index_cls4 (a b : Nat) (W : World) : Sem.run Tryz.prog (Instr.index 199 (.agg (clsCells a b)) (.int .i64 4)) W = .ok (.agg #[.int .u16 16,.func (.func 128) #[] #[.pointer (some ⟨a,0,none⟩),.pointer (some ⟨b + 1,0,none⟩)]]) W:=by kernel_rfl
theorem index_cls5 (a b : Nat) (W : World) : Sem.run Tryz.prog (Instr.index 199 (.agg (clsCells a b)) (.int .i64 5)) W = .ok (.agg #[.int .u16 32,.func (.func 128) #[] #[.pointer (some ⟨a,0,none⟩),.pointer (some ⟨b + 2,0,none⟩)]]) W:=by kernel_rfl
theorem index_cls6 (a b : Nat) (W : World) : Sem.run Tryz.prog (Instr.index 199 (.agg (clsCells a b)) (.int .i64 6)) W = .ok (.agg #[.int .u16 64,.func (.func 128) #[] #[.pointer (some ⟨a,0,none⟩),.pointer (some ⟨b + 3,0,none⟩)]]) W:=by kernel_rfl
theorem index_cls7 (a b : Nat) (W : World) : Sem.run Tryz.prog (Instr.index 199 (.agg (clsCells a b)) (.int .i64 7)) W = .ok (.agg #[.int .u16 128,.func (.func 132) #[] #[]]) W:=by kernel_rfl
theorem index_cls8 (a b : Nat) (W : World) : Sem.run Tryz.prog (Instr.index 199 (.agg (clsCells a b)) (.int .i64 8)) W = .ok (.agg #[.int .u16 256,.func (.func 135) #[] #[]]) W:=by kernel_rfl
theorem index_cls9 (a b : Nat) (W : World) : Sem.run Tryz.prog (Instr.index 199 (.agg (clsCells a b)) (.int .i64 9)) W = .ok (.agg #[.int .u16 512,.func (.func 138) #[] #[]]) W:=by kernel_rfl
theorem index_cls10 (a b : Nat) (W : World) : Sem.run Tryz.prog (Instr.index 199 (.agg (clsCells a b)) (.int .i64 10)) W = .ok (.agg #[.int .u16 1024,.func (.func 140) #[] #[]]) W:=by kernel_rfl
theorem index_cls11 (a b : Nat) (W : World) : Sem.run Tryz.prog (Instr.index 199 (.agg (clsCells a b)) (.int .i64 11)) W = .ok (.agg #[.int .u16 2048,.func (.func 141) #[] #[]]) W:=by kernel_rfl
theorem index_cls12 (a b : Nat) (W : World) : Sem.run Tryz.prog (Instr.index 199 (.agg (clsCells a b)) (.int .i64 12)) W = .ok (.agg #[.int .u16 4096,.func (.func 142) #[] #[]]) W:=by kernel_rfl
theorem index_cls13 (a b : Nat) (W : World) : Sem.run Tryz.prog (Instr.index 199 (.agg (clsCells a b)) (.int .i64 13)) W = .ok (.agg #[.int .u16 8192,.func (.func 143) #[] #[]]) W:=by kernel_rfl
theorem classes1_at (k : Int) (a : Nat) (w : World) (n : Nat) (h : w.heap.size = n) : Calls Tryz.prog 127 #[.int .u8 k,.pointer (some ⟨a,0,none⟩)] w fun e w'=>e = .returned (.func (.func 128) #[] #[.pointer (some ⟨a,0,none⟩),.pointer (some ⟨n,0,none⟩)]) /\ w' = w.alloc (.cells #[.int .u8 k] 5):=by
 subst h; exact classes1_any k a w
theorem classes_any (s : ByteArray) (w : World) (hsz : s.size <= 1000000) : Calls Tryz.prog 72 #[.string s] w fun e w'=>e = .returned (.int .u16 (classesOf s : Int)) /\ Below w.heap.size w w':=by
 have hk:=Hd (kinds_any s w)
 have hc1:=Hd classes1_at
 go_enter Tryz.func72,Tryz.ntmps72
 go_wp2_with fail
 refine hk.out.mono ?_
 rintro e w1 ⟨rfl,hb1⟩
 go_upto_region 3 with fail
 go_wp2_with fail
 refine (hc1.out _ _ _ (w1.heap.size + 1) (by simp)).mono ?_
 rintro e w' ⟨rfl,rfl⟩
 go_wp2_with fail
 refine (hc1.out _ _ _ (w1.heap.size + 2) (by simp)).mono ?_
 rintro e w' ⟨rfl,rfl⟩
 go_wp2_with fail
 refine (hc1.out _ _ _ (w1.heap.size + 3) (by simp)).mono ?_
 rintro e w' ⟨rfl,rfl⟩
 go_wp2_with fail
 refine (hc1.out _ _ _ (w1.heap.size + 4) (by simp)).mono ?_
 rintro e w' ⟨rfl,rfl⟩
 rename_i hK
 simp only []
 refine hK _ _ ?_
 clear hK
 refine wpList_buildTo rfl 196 _ rfl (some 26) rfl #[.int .u16 64,.func (.func 128) #[] #[.pointer (some ⟨w1.heap.size,0,none⟩),.pointer (some ⟨w1.heap.size + 4,0,none⟩)]] (by kernel_rfl) ?_
 simp only [Act.put,sX,sZ,sS]
 refine wpList_buildTo rfl 196 _ rfl (some 27) rfl #[.int .u16 128,.func (.func 132) #[] #[]] (by kernel_rfl) ?_
 simp only [Act.put,sX,sZ,sS]
 refine wpList_buildTo rfl 196 _ rfl (some 28) rfl #[.int .u16 256,.func (.func 135) #[] #[]] (by kernel_rfl) ?_
 simp only [Act.put,sX,sZ,sS]
 refine wpList_buildTo rfl 196 _ rfl (some 29) rfl #[.int .u16 512,.func (.func 138) #[] #[]] (by kernel_rfl) ?_
 simp only [Act.put,sX,sZ,sS]
 refine wpList_buildTo rfl 196 _ rfl (some 30) rfl #[.int .u16 1024,.func (.func 140) #[] #[]] (by kernel_rfl) ?_
 simp only [Act.put,sX,sZ,sS]
 refine wpList_buildTo rfl 196 _ rfl (some 31) rfl #[.int .u16 2048,.func (.func 141) #[] #[]] (by kernel_rfl) ?_
 simp only [Act.put,sX,sZ,sS]
 refine wpList_buildTo rfl 196 _ rfl (some 32) rfl #[.int .u16 4096,.func (.func 142) #[] #[]] (by kernel_rfl) ?_
 simp only [Act.put,sX,sZ,sS]
 refine wpList_buildTo rfl 196 _ rfl (some 33) rfl #[.int .u16 8192,.func (.func 143) #[] #[]] (by kernel_rfl) ?_
 simp only [Act.put,sX,sZ,sS]
 refine wpList_buildTo rfl 199 _ rfl (some 34) rfl (clsCells w1.heap.size (w1.heap.size + 1)) (by kernel_rfl) ?_
 simp only [Act.put,sX,sZ,sS]
 refine Great.wpList_allocTo rfl (some 5) rfl (.pointer (some ⟨w1.heap.size + 5,0,none⟩)) (.cells zero28 199) (by rw [show w1.heap.size + 5 = (((((w1.alloc (.cells #[.int .u8 (kindsOf s : Int)] 5)).alloc (.cells #[.int .u8 1] 5)).alloc (.cells #[.int .u8 2] 5)).alloc (.cells #[.int .u8 3] 5)).alloc (.cells #[.int .u8 4] 5)).heap.size from by simp]; kernel_rfl) ?_
 simp only [Act.put,sX,sZ,sS]
 refine wpList_store_rowTo rfl 199 _ _ rfl rfl (w1.heap.size + 5) (clsCells w1.heap.size (w1.heap.size + 1)) rfl rfl 199 zero28 (by rw [show w1.heap.size + 5 = (((((w1.alloc (.cells #[.int .u8 (kindsOf s : Int)] 5)).alloc (.cells #[.int .u8 1] 5)).alloc (.cells #[.int .u8 2] 5)).alloc (.cells #[.int .u8 3] 5)).alloc (.cells #[.int .u8 4] 5)).heap.size from by simp]; exact heap_alloc_last _ _) info199 zero211 (one211 _ _) ?_
 rw [show (w1.heap.size + 5) = (((((w1.alloc (.cells #[.int .u8 (kindsOf s : Int)] 5)).alloc (.cells #[.int .u8 1] 5)).alloc (.cells #[.int .u8 2] 5)).alloc (.cells #[.int .u8 3] 5)).alloc (.cells #[.int .u8 4] 5)).heap.size from by simp,World.setRow_alloc_new]
 apply wpList_nil
 have hA : Below w.heap.size w (((((w1.alloc (.cells #[.int .u8 (kindsOf s : Int)] 5)).alloc (.cells #[.int .u8 1] 5)).alloc (.cells #[.int .u8 2] 5)).alloc (.cells #[.int .u8 3] 5)).alloc (.cells #[.int .u8 4] 5)):=by
  have h0:=hb1.size
  exact ((((hb1.alloc h0 _).alloc (by simp; omega) _).alloc (by simp; omega) _).alloc (by simp; omega) _).alloc (by simp; omega) _
 have ka:=(((((Blk.new w1 5 #[.int .u8 (kindsOf s : Int)]).alloc (.cells #[.int .u8 1] 5)).alloc (.cells #[.int .u8 2] 5)).alloc (.cells #[.int .u8 3] 5)).alloc (.cells #[.int .u8 4] 5)).cell 0
 have k1:=((((Blk.new_at (w1.alloc (.cells #[.int .u8 (kindsOf s : Int)] 5)) 5 #[.int .u8 1] (w1.heap.size + 1) (by simp)).alloc (.cells #[.int .u8 2] 5)).alloc (.cells #[.int .u8 3] 5)).alloc (.cells #[.int .u8 4] 5)).cell 0
 have k2:=(((Blk.new_at ((w1.alloc (.cells #[.int .u8 (kindsOf s : Int)] 5)).alloc (.cells #[.int .u8 1] 5)) 5 #[.int .u8 2] (w1.heap.size + 2) (by simp)).alloc (.cells #[.int .u8 3] 5)).alloc (.cells #[.int .u8 4] 5)).cell 0
 have k3:=((Blk.new_at (((w1.alloc (.cells #[.int .u8 (kindsOf s : Int)] 5)).alloc (.cells #[.int .u8 1] 5)).alloc (.cells #[.int .u8 2] 5)) 5 #[.int .u8 3] (w1.heap.size + 3) (by simp)).alloc (.cells #[.int .u8 4] 5)).cell 0
 have k4:=(Blk.new_at ((((w1.alloc (.cells #[.int .u8 (kindsOf s : Int)] 5)).alloc (.cells #[.int .u8 1] 5)).alloc (.cells #[.int .u8 2] 5)).alloc (.cells #[.int .u8 3] 5)) 5 #[.int .u8 4] (w1.heap.size + 4) (by simp)).cell 0
 simp at ka k1 k2 k3 k4
 have hz : (((((w1.alloc (.cells #[.int .u8 (kindsOf s : Int)] 5)).alloc (.cells #[.int .u8 1] 5)).alloc (.cells #[.int .u8 2] 5)).alloc (.cells #[.int .u8 3] 5)).alloc (.cells #[.int .u8 4] 5)).heap.size = w1.heap.size + 5:=by simp
 generalize ((((w1.alloc (.cells #[.int .u8 (kindsOf s : Int)] 5)).alloc (.cells #[.int .u8 1] 5)).alloc (.cells #[.int .u8 2] 5)).alloc (.cells #[.int .u8 3] 5)).alloc (.cells #[.int .u8 4] 5) = W0 at *
 have hB : Below w.heap.size w (W0.alloc (.cells (clsCells w1.heap.size (w1.heap.size + 1)) 199)):=hA.alloc hA.size _
 have hblk:=Blk.new W0 199 (clsCells w1.heap.size (w1.heap.size + 1))
 have q0 : w1.heap.size < W0.heap.size:=by omega
 have q1 : w1.heap.size + 4 < W0.heap.size:=by omega
 replace ka:=((Below.refl W0.heap.size W0).alloc (lQ _) (.cells (clsCells w1.heap.size (w1.heap.size + 1)) 199)).cell (p:=⟨w1.heap.size,0,none⟩) q0 |>.trans ka
 replace k1:=((Below.refl W0.heap.size W0).alloc (lQ _) (.cells (clsCells w1.heap.size (w1.heap.size + 1)) 199)).cell (p:=⟨w1.heap.size + 1,0,none⟩) (by simp; omega) |>.trans k1
 replace k2:=((Below.refl W0.heap.size W0).alloc (lQ _) (.cells (clsCells w1.heap.size (w1.heap.size + 1)) 199)).cell (p:=⟨w1.heap.size + 2,0,none⟩) (by simp; omega) |>.trans k2
 replace k3:=((Below.refl W0.heap.size W0).alloc (lQ _) (.cells (clsCells w1.heap.size (w1.heap.size + 1)) 199)).cell (p:=⟨w1.heap.size + 3,0,none⟩) (by simp; omega) |>.trans k3
 replace k4:=((Below.refl W0.heap.size W0).alloc (lQ _) (.cells (clsCells w1.heap.size (w1.heap.size + 1)) 199)).cell (p:=⟨w1.heap.size + 4,0,none⟩) (by simp; omega) |>.trans k4
 have hsz2 : W0.heap.size < (W0.alloc (.cells (clsCells w1.heap.size (w1.heap.size + 1)) 199)).heap.size:=by simp
 go_upto_region 5 with fail
 apply wp_region_lit
 refine wpList_load_row rfl 199 (.tmp 5) rfl W0.heap.size rfl 199 (clsCells w1.heap.size (w1.heap.size + 1)) (0,0) _ hblk Tryz.underlying199 rfl info199 ?_
 simp only [Act.put,sX,sZ,sS]
 generalize W0.alloc (.cells (clsCells w1.heap.size (w1.heap.size + 1)) 199) = W at *
 have HK:=Hd (And.intro ka (And.intro k1 (And.intro k2 (And.intro k3 k4))))
 have HS : Hid (w1.heap.size + 5 < W.heap.size):=Hd (by omega)
 clear ka k1 k2 k3 k4 hblk hsz2 q0 q1 hz hA hb1 hk hc1
 generalize w1.heap.size = a at *
 go_wp2
 go_loopw [6,36] (fun sv iv wr=>∃ (k n : Nat) (i : Int),i = k /\ k <= 14 /\ iv = .int .i64 i /\ sv = .int .u16 n /\ Hid (n = sumTo (clsB s) k) /\ Below w.heap.size w wr /\ Below W.heap.size W wr) (fun _ iv _=>14 - (intOf iv).toNat)
 case atStart=>exact ⟨0,0,0,rfl,by omega,rfl,rfl,Hd rfl,hB,Below.refl _ _⟩
 case round=>
  obtain ⟨k,n,i,hik,hk,rfl,rfl,hn,hbw,hbW⟩:=hrel
  rename World=>wr
  have hsuc : Hid (sumTo (clsB s) (k + 1) = n + if clsB s k then 2 ^ k else 0):=Hd (by rw [sumTo,<- hn.out])
  have hnl:=Hd (show n < 2 ^ k from by rw [hn.out]; exact sumTo_lt (clsB s) k)
  have hs0:=Hd hbW.size
  obtain rfl | rfl | rfl | rfl | rfl | rfl | rfl | rfl | rfl | rfl | rfl | rfl | rfl | rfl | rfl : k = 0 \/ k = 1 \/ k = 2 \/ k = 3 \/ k = 4 \/ k = 5 \/ k = 6 \/ k = 7 \/ k = 8 \/ k = 9 \/ k = 10 \/ k = 11 \/ k = 12 \/ k = 13 \/ k = 14:=by omega
  ·obtain rfl : i = 0:=by omega
   have hnb : n < 1:=hnl.out
   have hix:=index_cls0 a (a + 1)
   have hup : Below wr.heap.size wr (wr.alloc (.cells #[.int .u16 1,.func (.func 129) #[] #[]] 196)):=(Below.refl _ _).alloc (lQ _) _
   have hj:=Hd (Blk.new wr 196 #[.int .u16 1,.func (.func 129) #[] #[]])
   have hcon:=Hd ((number_any s _ hsz).mono fun _ _ h=>⟨h.1,by rw [h.2]; exact Below.refl _ _⟩ : Calls Tryz.prog _ _ (wr.alloc (.cells #[.int .u16 1,.func (.func 129) #[] #[]] 196)) fun e w'=>e = .returned (.bool (numberB s)) /\ Below (wr.alloc (.cells #[.int .u16 1,.func (.func 129) #[] #[]] 196)).heap.size (wr.alloc (.cells #[.int .u16 1,.func (.func 129) #[] #[]] 196)) w')
   have hs1:=hbw.size
   clear hnl hn hik hk
   go_wp2_with fail
   refine hcon.out.mono ?_
   rintro e w2 ⟨rfl,hb2⟩
   have hw2 : Below wr.heap.size wr w2:=hup.trans (hb2.mono hup.size)
   have z0:=(hj.out.below hb2 (by simp)).cell 0
   have hl:=(hj.out.below hb2 (by simp)).lt
   simp at z0
   have e1:=hbw.trans (hw2.mono hs1)
   have e2:=hbW.trans (hw2.mono hs0.out)
   clear hcon hb2 hj hup hix
   cases hp : numberB s with
   | true=>
    have hs' : Hid (n + 1 = sumTo (clsB s) 1):=Hd (by rw [hsuc.out,show clsB s 0 = true from hp]; rfl)
    clear hp
    go_wp2
    go_roundw
    case rel=>exact ⟨1,n + 1,1,rfl,by omega,by go_num,by go_num,hs',e1,e2⟩
    case measure=>simp [intOf]
   | false=>
    have hs' : Hid (n = sumTo (clsB s) 1):=Hd (by rw [hsuc.out,show clsB s 0 = false from hp]; rfl)
    clear hp
    go_wp2
    go_roundw
    case rel=>exact ⟨1,n,1,rfl,by omega,by go_num,rfl,hs',e1,e2⟩
    case measure=>simp [intOf]
  ·obtain rfl : i = 1:=by omega
   have hnb : n < 2:=hnl.out
   have hix:=index_cls1 a (a + 1)
   have hup : Below wr.heap.size wr (wr.alloc (.cells #[.int .u16 2,.func (.func 130) #[] #[]] 196)):=(Below.refl _ _).alloc (lQ _) _
   have hj:=Hd (Blk.new wr 196 #[.int .u16 2,.func (.func 130) #[] #[]])
   have hcon:=Hd ((lettered_any s _ hsz).mono fun _ _ h=>⟨h.1,by rw [h.2]; exact Below.refl _ _⟩ : Calls Tryz.prog _ _ (wr.alloc (.cells #[.int .u16 2,.func (.func 130) #[] #[]] 196)) fun e w'=>e = .returned (.bool (letteredB s)) /\ Below (wr.alloc (.cells #[.int .u16 2,.func (.func 130) #[] #[]] 196)).heap.size (wr.alloc (.cells #[.int .u16 2,.func (.func 130) #[] #[]] 196)) w')
   have hs1:=hbw.size
   clear hnl hn hik hk
   go_wp2_with fail
   refine hcon.out.mono ?_
   rintro e w2 ⟨rfl,hb2⟩
   have hw2 : Below wr.heap.size wr w2:=hup.trans (hb2.mono hup.size)
   have z0:=(hj.out.below hb2 (by simp)).cell 0
   have hl:=(hj.out.below hb2 (by simp)).lt
   simp at z0
   have e1:=hbw.trans (hw2.mono hs1)
   have e2:=hbW.trans (hw2.mono hs0.out)
   clear hcon hb2 hj hup hix
   cases hp : letteredB s with
   | true=>
    have hs' : Hid (n + 2 = sumTo (clsB s) 2):=Hd (by rw [hsuc.out,show clsB s 1 = true from hp]; rfl)
    clear hp
    go_wp2
    go_roundw
    case rel=>exact ⟨2,n + 2,2,rfl,by omega,by go_num,by go_num,hs',e1,e2⟩
    case measure=>simp [intOf]
   | false=>
    have hs' : Hid (n = sumTo (clsB s) 2):=Hd (by rw [hsuc.out,show clsB s 1 = false from hp]; rfl)
    clear hp
    go_wp2
    go_roundw
    case rel=>exact ⟨2,n,2,rfl,by omega,by go_num,rfl,hs',e1,e2⟩
    case measure=>simp [intOf]
  ·obtain rfl : i = 2:=by omega
   have hnb : n < 4:=hnl.out
   have hix:=index_cls2 a (a + 1)
   have hup : Below wr.heap.size wr (wr.alloc (.cells #[.int .u16 4,.func (.func 131) #[] #[]] 196)):=(Below.refl _ _).alloc (lQ _) _
   have hj:=Hd (Blk.new wr 196 #[.int .u16 4,.func (.func 131) #[] #[]])
   have hcon:=Hd (name_any s _ hsz : Calls Tryz.prog _ _ (wr.alloc (.cells #[.int .u16 4,.func (.func 131) #[] #[]] 196)) fun e w'=>e = .returned (.bool (nameB s)) /\ Below (wr.alloc (.cells #[.int .u16 4,.func (.func 131) #[] #[]] 196)).heap.size (wr.alloc (.cells #[.int .u16 4,.func (.func 131) #[] #[]] 196)) w')
   have hs1:=hbw.size
   clear hnl hn hik hk
   go_wp2_with fail
   refine hcon.out.mono ?_
   rintro e w2 ⟨rfl,hb2⟩
   have hw2 : Below wr.heap.size wr w2:=hup.trans (hb2.mono hup.size)
   have z0:=(hj.out.below hb2 (by simp)).cell 0
   have hl:=(hj.out.below hb2 (by simp)).lt
   simp at z0
   have e1:=hbw.trans (hw2.mono hs1)
   have e2:=hbW.trans (hw2.mono hs0.out)
   clear hcon hb2 hj hup hix
   cases hp : nameB s with
   | true=>
    have hs' : Hid (n + 4 = sumTo (clsB s) 3):=Hd (by rw [hsuc.out,show clsB s 2 = true from hp]; rfl)
    clear hp
    go_wp2
    go_roundw
    case rel=>exact ⟨3,n + 4,3,rfl,by omega,by go_num,by go_num,hs',e1,e2⟩
    case measure=>simp [intOf]
   | false=>
    have hs' : Hid (n = sumTo (clsB s) 3):=Hd (by rw [hsuc.out,show clsB s 2 = false from hp]; rfl)
    clear hp
    go_wp2
    go_roundw
    case rel=>exact ⟨3,n,3,rfl,by omega,by go_num,rfl,hs',e1,e2⟩
    case measure=>simp [intOf]
  ·obtain rfl : i = 3:=by omega
   have hnb : n < 8:=hnl.out
   have hix:=index_cls3 a (a + 1)
   have hup : Below wr.heap.size wr (wr.alloc (.cells #[.int .u16 8,.func (.func 128) #[] #[.pointer (some ⟨a,0,none⟩),.pointer (some ⟨a + 1,0,none⟩)]] 196)):=(Below.refl _ _).alloc (lQ _) _
   have hj:=Hd (Blk.new wr 196 #[.int .u16 8,.func (.func 128) #[] #[.pointer (some ⟨a,0,none⟩),.pointer (some ⟨a + 1,0,none⟩)]])
   have ca:=(hbW.alloc hs0.out (.cells #[.int .u16 8,.func (.func 128) #[] #[.pointer (some ⟨a,0,none⟩),.pointer (some ⟨a + 1,0,none⟩)]] 196)).cell (p:=⟨a,0,none⟩) (by have:=HS.out; simp; omega) |>.trans HK.out.1
   have cb0:=(hbW.alloc hs0.out (.cells #[.int .u16 8,.func (.func 128) #[] #[.pointer (some ⟨a,0,none⟩),.pointer (some ⟨a + 1,0,none⟩)]] 196)).cell (p:=⟨a + 1,0,none⟩) (by have:=HS.out; simp; omega) |>.trans HK.out.2.1
   have hcon:=Hd ((classes11_any s ⟨kindsOf s,kindsOf_lt s⟩ 1 _ _ _ ca cb0).mono fun _ _ h=>⟨h.1,by rw [h.2]; exact Below.refl _ _⟩ : Calls Tryz.prog _ _ (wr.alloc (.cells #[.int .u16 8,.func (.func 128) #[] #[.pointer (some ⟨a,0,none⟩),.pointer (some ⟨a + 1,0,none⟩)]] 196)) fun e w'=>e = .returned (.bool (hasBit (kindsOf s) 1)) /\ Below (wr.alloc (.cells #[.int .u16 8,.func (.func 128) #[] #[.pointer (some ⟨a,0,none⟩),.pointer (some ⟨a + 1,0,none⟩)]] 196)).heap.size (wr.alloc (.cells #[.int .u16 8,.func (.func 128) #[] #[.pointer (some ⟨a,0,none⟩),.pointer (some ⟨a + 1,0,none⟩)]] 196)) w')
   have hs1:=hbw.size
   clear ca cb0
   clear hnl hn hik hk
   go_wp2_with fail
   refine hcon.out.mono ?_
   rintro e w2 ⟨rfl,hb2⟩
   have hw2 : Below wr.heap.size wr w2:=hup.trans (hb2.mono hup.size)
   have z0:=(hj.out.below hb2 (by simp)).cell 0
   have hl:=(hj.out.below hb2 (by simp)).lt
   simp at z0
   have e1:=hbw.trans (hw2.mono hs1)
   have e2:=hbW.trans (hw2.mono hs0.out)
   clear hcon hb2 hj hup hix
   cases hp : hasBit (kindsOf s) 1 with
   | true=>
    have hs' : Hid (n + 8 = sumTo (clsB s) 4):=Hd (by rw [hsuc.out,show clsB s 3 = true from hp]; rfl)
    clear hp
    go_wp2
    go_roundw
    case rel=>exact ⟨4,n + 8,4,rfl,by omega,by go_num,by go_num,hs',e1,e2⟩
    case measure=>simp [intOf]
   | false=>
    have hs' : Hid (n = sumTo (clsB s) 4):=Hd (by rw [hsuc.out,show clsB s 3 = false from hp]; rfl)
    clear hp
    go_wp2
    go_roundw
    case rel=>exact ⟨4,n,4,rfl,by omega,by go_num,rfl,hs',e1,e2⟩
    case measure=>simp [intOf]
  ·obtain rfl : i = 4:=by omega
   have hnb : n < 16:=hnl.out
   have hix:=index_cls4 a (a + 1)
   have hup : Below wr.heap.size wr (wr.alloc (.cells #[.int .u16 16,.func (.func 128) #[] #[.pointer (some ⟨a,0,none⟩),.pointer (some ⟨a + 2,0,none⟩)]] 196)):=(Below.refl _ _).alloc (lQ _) _
   have hj:=Hd (Blk.new wr 196 #[.int .u16 16,.func (.func 128) #[] #[.pointer (some ⟨a,0,none⟩),.pointer (some ⟨a + 2,0,none⟩)]])
   have ca:=(hbW.alloc hs0.out (.cells #[.int .u16 16,.func (.func 128) #[] #[.pointer (some ⟨a,0,none⟩),.pointer (some ⟨a + 2,0,none⟩)]] 196)).cell (p:=⟨a,0,none⟩) (by have:=HS.out; simp; omega) |>.trans HK.out.1
   have cb1:=(hbW.alloc hs0.out (.cells #[.int .u16 16,.func (.func 128) #[] #[.pointer (some ⟨a,0,none⟩),.pointer (some ⟨a + 2,0,none⟩)]] 196)).cell (p:=⟨a + 2,0,none⟩) (by have:=HS.out; simp; omega) |>.trans HK.out.2.2.1
   have hcon:=Hd ((classes11_any s ⟨kindsOf s,kindsOf_lt s⟩ 2 _ _ _ ca cb1).mono fun _ _ h=>⟨h.1,by rw [h.2]; exact Below.refl _ _⟩ : Calls Tryz.prog _ _ (wr.alloc (.cells #[.int .u16 16,.func (.func 128) #[] #[.pointer (some ⟨a,0,none⟩),.pointer (some ⟨a + 2,0,none⟩)]] 196)) fun e w'=>e = .returned (.bool (hasBit (kindsOf s) 2)) /\ Below (wr.alloc (.cells #[.int .u16 16,.func (.func 128) #[] #[.pointer (some ⟨a,0,none⟩),.pointer (some ⟨a + 2,0,none⟩)]] 196)).heap.size (wr.alloc (.cells #[.int .u16 16,.func (.func 128) #[] #[.pointer (some ⟨a,0,none⟩),.pointer (some ⟨a + 2,0,none⟩)]] 196)) w')
   have hs1:=hbw.size
   clear ca cb1
   clear hnl hn hik hk
   go_wp2_with fail
   refine hcon.out.mono ?_
   rintro e w2 ⟨rfl,hb2⟩
   have hw2 : Below wr.heap.size wr w2:=hup.trans (hb2.mono hup.size)
   have z0:=(hj.out.below hb2 (by simp)).cell 0
   have hl:=(hj.out.below hb2 (by simp)).lt
   simp at z0
   have e1:=hbw.trans (hw2.mono hs1)
   have e2:=hbW.trans (hw2.mono hs0.out)
   clear hcon hb2 hj hup hix
   cases hp : hasBit (kindsOf s) 2 with
   | true=>
    have hs' : Hid (n + 16 = sumTo (clsB s) 5):=Hd (by rw [hsuc.out,show clsB s 4 = true from hp]; rfl)
    clear hp
    go_wp2
    go_roundw
    case rel=>exact ⟨5,n + 16,5,rfl,by omega,by go_num,by go_num,hs',e1,e2⟩
    case measure=>simp [intOf]
   | false=>
    have hs' : Hid (n = sumTo (clsB s) 5):=Hd (by rw [hsuc.out,show clsB s 4 = false from hp]; rfl)
    clear hp
    go_wp2
    go_roundw
    case rel=>exact ⟨5,n,5,rfl,by omega,by go_num,rfl,hs',e1,e2⟩
    case measure=>simp [intOf]
  ·obtain rfl : i = 5:=by omega
   have hnb : n < 32:=hnl.out
   have hix:=index_cls5 a (a + 1)
   have hup : Below wr.heap.size wr (wr.alloc (.cells #[.int .u16 32,.func (.func 128) #[] #[.pointer (some ⟨a,0,none⟩),.pointer (some ⟨a + 3,0,none⟩)]] 196)):=(Below.refl _ _).alloc (lQ _) _
   have hj:=Hd (Blk.new wr 196 #[.int .u16 32,.func (.func 128) #[] #[.pointer (some ⟨a,0,none⟩),.pointer (some ⟨a + 3,0,none⟩)]])
   have ca:=(hbW.alloc hs0.out (.cells #[.int .u16 32,.func (.func 128) #[] #[.pointer (some ⟨a,0,none⟩),.pointer (some ⟨a + 3,0,none⟩)]] 196)).cell (p:=⟨a,0,none⟩) (by have:=HS.out; simp; omega) |>.trans HK.out.1
   have cb2:=(hbW.alloc hs0.out (.cells #[.int .u16 32,.func (.func 128) #[] #[.pointer (some ⟨a,0,none⟩),.pointer (some ⟨a + 3,0,none⟩)]] 196)).cell (p:=⟨a + 3,0,none⟩) (by have:=HS.out; simp; omega) |>.trans HK.out.2.2.2.1
   have hcon:=Hd ((classes11_any s ⟨kindsOf s,kindsOf_lt s⟩ 3 _ _ _ ca cb2).mono fun _ _ h=>⟨h.1,by rw [h.2]; exact Below.refl _ _⟩ : Calls Tryz.prog _ _ (wr.alloc (.cells #[.int .u16 32,.func (.func 128) #[] #[.pointer (some ⟨a,0,none⟩),.pointer (some ⟨a + 3,0,none⟩)]] 196)) fun e w'=>e = .returned (.bool (hasBit (kindsOf s) 3)) /\ Below (wr.alloc (.cells #[.int .u16 32,.func (.func 128) #[] #[.pointer (some ⟨a,0,none⟩),.pointer (some ⟨a + 3,0,none⟩)]] 196)).heap.size (wr.alloc (.cells #[.int .u16 32,.func (.func 128) #[] #[.pointer (some ⟨a,0,none⟩),.pointer (some ⟨a + 3,0,none⟩)]] 196)) w')
   have hs1:=hbw.size
   clear ca cb2
   clear hnl hn hik hk
   go_wp2_with fail
   refine hcon.out.mono ?_
   rintro e w2 ⟨rfl,hb2⟩
   have hw2 : Below wr.heap.size wr w2:=hup.trans (hb2.mono hup.size)
   have z0:=(hj.out.below hb2 (by simp)).cell 0
   have hl:=(hj.out.below hb2 (by simp)).lt
   simp at z0
   have e1:=hbw.trans (hw2.mono hs1)
   have e2:=hbW.trans (hw2.mono hs0.out)
   clear hcon hb2 hj hup hix
   cases hp : hasBit (kindsOf s) 3 with
   | true=>
    have hs' : Hid (n + 32 = sumTo (clsB s) 6):=Hd (by rw [hsuc.out,show clsB s 5 = true from hp]; rfl)
    clear hp
    go_wp2
    go_roundw
    case rel=>exact ⟨6,n + 32,6,rfl,by omega,by go_num,by go_num,hs',e1,e2⟩
    case measure=>simp [intOf]
   | false=>
    have hs' : Hid (n = sumTo (clsB s) 6):=Hd (by rw [hsuc.out,show clsB s 5 = false from hp]; rfl)
    clear hp
    go_wp2
    go_roundw
    case rel=>exact ⟨6,n,6,rfl,by omega,by go_num,rfl,hs',e1,e2⟩
    case measure=>simp [intOf]
  ·obtain rfl : i = 6:=by omega
   have hnb : n < 64:=hnl.out
   have hix:=index_cls6 a (a + 1)
   have hup : Below wr.heap.size wr (wr.alloc (.cells #[.int .u16 64,.func (.func 128) #[] #[.pointer (some ⟨a,0,none⟩),.pointer (some ⟨a + 4,0,none⟩)]] 196)):=(Below.refl _ _).alloc (lQ _) _
   have hj:=Hd (Blk.new wr 196 #[.int .u16 64,.func (.func 128) #[] #[.pointer (some ⟨a,0,none⟩),.pointer (some ⟨a + 4,0,none⟩)]])
   have ca:=(hbW.alloc hs0.out (.cells #[.int .u16 64,.func (.func 128) #[] #[.pointer (some ⟨a,0,none⟩),.pointer (some ⟨a + 4,0,none⟩)]] 196)).cell (p:=⟨a,0,none⟩) (by have:=HS.out; simp; omega) |>.trans HK.out.1
   have cb3:=(hbW.alloc hs0.out (.cells #[.int .u16 64,.func (.func 128) #[] #[.pointer (some ⟨a,0,none⟩),.pointer (some ⟨a + 4,0,none⟩)]] 196)).cell (p:=⟨a + 4,0,none⟩) (by have:=HS.out; simp; omega) |>.trans HK.out.2.2.2.2
   have hcon:=Hd ((classes11_any s ⟨kindsOf s,kindsOf_lt s⟩ 4 _ _ _ ca cb3).mono fun _ _ h=>⟨h.1,by rw [h.2]; exact Below.refl _ _⟩ : Calls Tryz.prog _ _ (wr.alloc (.cells #[.int .u16 64,.func (.func 128) #[] #[.pointer (some ⟨a,0,none⟩),.pointer (some ⟨a + 4,0,none⟩)]] 196)) fun e w'=>e = .returned (.bool (hasBit (kindsOf s) 4)) /\ Below (wr.alloc (.cells #[.int .u16 64,.func (.func 128) #[] #[.pointer (some ⟨a,0,none⟩),.pointer (some ⟨a + 4,0,none⟩)]] 196)).heap.size (wr.alloc (.cells #[.int .u16 64,.func (.func 128) #[] #[.pointer (some ⟨a,0,none⟩),.pointer (some ⟨a + 4,0,none⟩)]] 196)) w')
   have hs1:=hbw.size
   clear ca cb3
   clear hnl hn hik hk
   go_wp2_with fail
   refine hcon.out.mono ?_
   rintro e w2 ⟨rfl,hb2⟩
   have hw2 : Below wr.heap.size wr w2:=hup.trans (hb2.mono hup.size)
   have z0:=(hj.out.below hb2 (by simp)).cell 0
   have hl:=(hj.out.below hb2 (by simp)).lt
   simp at z0
   have e1:=hbw.trans (hw2.mono hs1)
   have e2:=hbW.trans (hw2.mono hs0.out)
   clear hcon hb2 hj hup hix
   cases hp : hasBit (kindsOf s) 4 with
   | true=>
    have hs' : Hid (n + 64 = sumTo (clsB s) 7):=Hd (by rw [hsuc.out,show clsB s 6 = true from hp]; rfl)
    clear hp
    go_wp2
    go_roundw
    case rel=>exact ⟨7,n + 64,7,rfl,by omega,by go_num,by go_num,hs',e1,e2⟩
    case measure=>simp [intOf]
   | false=>
    have hs' : Hid (n = sumTo (clsB s) 7):=Hd (by rw [hsuc.out,show clsB s 6 = false from hp]; rfl)
    clear hp
    go_wp2
    go_roundw
    case rel=>exact ⟨7,n,7,rfl,by omega,by go_num,rfl,hs',e1,e2⟩
    case measure=>simp [intOf]
  ·obtain rfl : i = 7:=by omega
   have hnb : n < 128:=hnl.out
   have hix:=index_cls7 a (a + 1)
   have hup : Below wr.heap.size wr (wr.alloc (.cells #[.int .u16 128,.func (.func 132) #[] #[]] 196)):=(Below.refl _ _).alloc (lQ _) _
   have hj:=Hd (Blk.new wr 196 #[.int .u16 128,.func (.func 132) #[] #[]])
   have hcon:=Hd ((flats_any s _ hsz).mono fun _ _ h=>⟨h.1,by rw [h.2]; exact Below.refl _ _⟩ : Calls Tryz.prog _ _ (wr.alloc (.cells #[.int .u16 128,.func (.func 132) #[] #[]] 196)) fun e w'=>e = .returned (.bool (flatB s)) /\ Below (wr.alloc (.cells #[.int .u16 128,.func (.func 132) #[] #[]] 196)).heap.size (wr.alloc (.cells #[.int .u16 128,.func (.func 132) #[] #[]] 196)) w')
   have hs1:=hbw.size
   clear hnl hn hik hk
   go_wp2_with fail
   refine hcon.out.mono ?_
   rintro e w2 ⟨rfl,hb2⟩
   have hw2 : Below wr.heap.size wr w2:=hup.trans (hb2.mono hup.size)
   have z0:=(hj.out.below hb2 (by simp)).cell 0
   have hl:=(hj.out.below hb2 (by simp)).lt
   simp at z0
   have e1:=hbw.trans (hw2.mono hs1)
   have e2:=hbW.trans (hw2.mono hs0.out)
   clear hcon hb2 hj hup hix
   cases hp : flatB s with
   | true=>
    have hs' : Hid (n + 128 = sumTo (clsB s) 8):=Hd (by rw [hsuc.out,show clsB s 7 = true from hp]; rfl)
    clear hp
    go_wp2
    go_roundw
    case rel=>exact ⟨8,n + 128,8,rfl,by omega,by go_num,by go_num,hs',e1,e2⟩
    case measure=>simp [intOf]
   | false=>
    have hs' : Hid (n = sumTo (clsB s) 8):=Hd (by rw [hsuc.out,show clsB s 7 = false from hp]; rfl)
    clear hp
    go_wp2
    go_roundw
    case rel=>exact ⟨8,n,8,rfl,by omega,by go_num,rfl,hs',e1,e2⟩
    case measure=>simp [intOf]
  ·obtain rfl : i = 8:=by omega
   have hnb : n < 256:=hnl.out
   have hix:=index_cls8 a (a + 1)
   have hup : Below wr.heap.size wr (wr.alloc (.cells #[.int .u16 256,.func (.func 135) #[] #[]] 196)):=(Below.refl _ _).alloc (lQ _) _
   have hj:=Hd (Blk.new wr 196 #[.int .u16 256,.func (.func 135) #[] #[]])
   have hcon:=Hd (region_any s _ hsz : Calls Tryz.prog _ _ (wr.alloc (.cells #[.int .u16 256,.func (.func 135) #[] #[]] 196)) fun e w'=>e = .returned (.bool (matchB [true,true] s)) /\ Below (wr.alloc (.cells #[.int .u16 256,.func (.func 135) #[] #[]] 196)).heap.size (wr.alloc (.cells #[.int .u16 256,.func (.func 135) #[] #[]] 196)) w')
   have hs1:=hbw.size
   clear hnl hn hik hk
   go_wp2_with fail
   refine hcon.out.mono ?_
   rintro e w2 ⟨rfl,hb2⟩
   have hw2 : Below wr.heap.size wr w2:=hup.trans (hb2.mono hup.size)
   have z0:=(hj.out.below hb2 (by simp)).cell 0
   have hl:=(hj.out.below hb2 (by simp)).lt
   simp at z0
   have e1:=hbw.trans (hw2.mono hs1)
   have e2:=hbW.trans (hw2.mono hs0.out)
   clear hcon hb2 hj hup hix
   cases hp : matchB [true,true] s with
   | true=>
    have hs' : Hid (n + 256 = sumTo (clsB s) 9):=Hd (by rw [hsuc.out,show clsB s 8 = true from hp]; rfl)
    clear hp
    go_wp2
    go_roundw
    case rel=>exact ⟨9,n + 256,9,rfl,by omega,by go_num,by go_num,hs',e1,e2⟩
    case measure=>simp [intOf]
   | false=>
    have hs' : Hid (n = sumTo (clsB s) 9):=Hd (by rw [hsuc.out,show clsB s 8 = false from hp]; rfl)
    clear hp
    go_wp2
    go_roundw
    case rel=>exact ⟨9,n,9,rfl,by omega,by go_num,rfl,hs',e1,e2⟩
    case measure=>simp [intOf]
  ·obtain rfl : i = 9:=by omega
   have hnb : n < 512:=hnl.out
   have hix:=index_cls9 a (a + 1)
   have hup : Below wr.heap.size wr (wr.alloc (.cells #[.int .u16 512,.func (.func 138) #[] #[]] 196)):=(Below.refl _ _).alloc (lQ _) _
   have hj:=Hd (Blk.new wr 196 #[.int .u16 512,.func (.func 138) #[] #[]])
   have hcon:=Hd (codeA_any s _ hsz : Calls Tryz.prog _ _ (wr.alloc (.cells #[.int .u16 512,.func (.func 138) #[] #[]] 196)) fun e w'=>e = .returned (.bool (matchB [false,false,false,false,false] s)) /\ Below (wr.alloc (.cells #[.int .u16 512,.func (.func 138) #[] #[]] 196)).heap.size (wr.alloc (.cells #[.int .u16 512,.func (.func 138) #[] #[]] 196)) w')
   have hs1:=hbw.size
   clear hnl hn hik hk
   go_wp2_with fail
   refine hcon.out.mono ?_
   rintro e w2 ⟨rfl,hb2⟩
   have hw2 : Below wr.heap.size wr w2:=hup.trans (hb2.mono hup.size)
   have z0:=(hj.out.below hb2 (by simp)).cell 0
   have hl:=(hj.out.below hb2 (by simp)).lt
   simp at z0
   have e1:=hbw.trans (hw2.mono hs1)
   have e2:=hbW.trans (hw2.mono hs0.out)
   clear hcon hb2 hj hup hix
   cases hp : matchB [false,false,false,false,false] s with
   | true=>
    have hs' : Hid (n + 512 = sumTo (clsB s) 10):=Hd (by rw [hsuc.out,show clsB s 9 = true from hp]; rfl)
    clear hp
    go_wp2
    go_roundw
    case rel=>exact ⟨10,n + 512,10,rfl,by omega,by go_num,by go_num,hs',e1,e2⟩
    case measure=>simp [intOf]
   | false=>
    have hs' : Hid (n = sumTo (clsB s) 10):=Hd (by rw [hsuc.out,show clsB s 9 = false from hp]; rfl)
    clear hp
    go_wp2
    go_roundw
    case rel=>exact ⟨10,n,10,rfl,by omega,by go_num,rfl,hs',e1,e2⟩
    case measure=>simp [intOf]
  ·obtain rfl : i = 10:=by omega
   have hnb : n < 1024:=hnl.out
   have hix:=index_cls10 a (a + 1)
   have hup : Below wr.heap.size wr (wr.alloc (.cells #[.int .u16 1024,.func (.func 140) #[] #[]] 196)):=(Below.refl _ _).alloc (lQ _) _
   have hj:=Hd (Blk.new wr 196 #[.int .u16 1024,.func (.func 140) #[] #[]])
   have hcon:=Hd (codeB_any s _ hsz : Calls Tryz.prog _ _ (wr.alloc (.cells #[.int .u16 1024,.func (.func 140) #[] #[]] 196)) fun e w'=>e = .returned (.bool (matchB [true,false,true,false,true,false] s)) /\ Below (wr.alloc (.cells #[.int .u16 1024,.func (.func 140) #[] #[]] 196)).heap.size (wr.alloc (.cells #[.int .u16 1024,.func (.func 140) #[] #[]] 196)) w')
   have hs1:=hbw.size
   clear hnl hn hik hk
   go_wp2_with fail
   refine hcon.out.mono ?_
   rintro e w2 ⟨rfl,hb2⟩
   have hw2 : Below wr.heap.size wr w2:=hup.trans (hb2.mono hup.size)
   have z0:=(hj.out.below hb2 (by simp)).cell 0
   have hl:=(hj.out.below hb2 (by simp)).lt
   simp at z0
   have e1:=hbw.trans (hw2.mono hs1)
   have e2:=hbW.trans (hw2.mono hs0.out)
   clear hcon hb2 hj hup hix
   cases hp : matchB [true,false,true,false,true,false] s with
   | true=>
    have hs' : Hid (n + 1024 = sumTo (clsB s) 11):=Hd (by rw [hsuc.out,show clsB s 10 = true from hp]; rfl)
    clear hp
    go_wp2
    go_roundw
    case rel=>exact ⟨11,n + 1024,11,rfl,by omega,by go_num,by go_num,hs',e1,e2⟩
    case measure=>simp [intOf]
   | false=>
    have hs' : Hid (n = sumTo (clsB s) 11):=Hd (by rw [hsuc.out,show clsB s 10 = false from hp]; rfl)
    clear hp
    go_wp2
    go_roundw
    case rel=>exact ⟨11,n,11,rfl,by omega,by go_num,rfl,hs',e1,e2⟩
    case measure=>simp [intOf]
  ·obtain rfl : i = 11:=by omega
   have hnb : n < 2048:=hnl.out
   have hix:=index_cls11 a (a + 1)
   have hup : Below wr.heap.size wr (wr.alloc (.cells #[.int .u16 2048,.func (.func 141) #[] #[]] 196)):=(Below.refl _ _).alloc (lQ _) _
   have hj:=Hd (Blk.new wr 196 #[.int .u16 2048,.func (.func 141) #[] #[]])
   have hcon:=Hd (first3_any s _ hsz : Calls Tryz.prog _ _ (wr.alloc (.cells #[.int .u16 2048,.func (.func 141) #[] #[]] 196)) fun e w'=>e = .returned (.bool (matchB [true,false,true] s)) /\ Below (wr.alloc (.cells #[.int .u16 2048,.func (.func 141) #[] #[]] 196)).heap.size (wr.alloc (.cells #[.int .u16 2048,.func (.func 141) #[] #[]] 196)) w')
   have hs1:=hbw.size
   clear hnl hn hik hk
   go_wp2_with fail
   refine hcon.out.mono ?_
   rintro e w2 ⟨rfl,hb2⟩
   have hw2 : Below wr.heap.size wr w2:=hup.trans (hb2.mono hup.size)
   have z0:=(hj.out.below hb2 (by simp)).cell 0
   have hl:=(hj.out.below hb2 (by simp)).lt
   simp at z0
   have e1:=hbw.trans (hw2.mono hs1)
   have e2:=hbW.trans (hw2.mono hs0.out)
   clear hcon hb2 hj hup hix
   cases hp : matchB [true,false,true] s with
   | true=>
    have hs' : Hid (n + 2048 = sumTo (clsB s) 12):=Hd (by rw [hsuc.out,show clsB s 11 = true from hp]; rfl)
    clear hp
    go_wp2
    go_roundw
    case rel=>exact ⟨12,n + 2048,12,rfl,by omega,by go_num,by go_num,hs',e1,e2⟩
    case measure=>simp [intOf]
   | false=>
    have hs' : Hid (n = sumTo (clsB s) 12):=Hd (by rw [hsuc.out,show clsB s 11 = false from hp]; rfl)
    clear hp
    go_wp2
    go_roundw
    case rel=>exact ⟨12,n,12,rfl,by omega,by go_num,rfl,hs',e1,e2⟩
    case measure=>simp [intOf]
  ·obtain rfl : i = 12:=by omega
   have hnb : n < 4096:=hnl.out
   have hix:=index_cls12 a (a + 1)
   have hup : Below wr.heap.size wr (wr.alloc (.cells #[.int .u16 4096,.func (.func 142) #[] #[]] 196)):=(Below.refl _ _).alloc (lQ _) _
   have hj:=Hd (Blk.new wr 196 #[.int .u16 4096,.func (.func 142) #[] #[]])
   have hcon:=Hd (last3_any s _ hsz : Calls Tryz.prog _ _ (wr.alloc (.cells #[.int .u16 4096,.func (.func 142) #[] #[]] 196)) fun e w'=>e = .returned (.bool (matchB [false,true,false] s)) /\ Below (wr.alloc (.cells #[.int .u16 4096,.func (.func 142) #[] #[]] 196)).heap.size (wr.alloc (.cells #[.int .u16 4096,.func (.func 142) #[] #[]] 196)) w')
   have hs1:=hbw.size
   clear hnl hn hik hk
   go_wp2_with fail
   refine hcon.out.mono ?_
   rintro e w2 ⟨rfl,hb2⟩
   have hw2 : Below wr.heap.size wr w2:=hup.trans (hb2.mono hup.size)
   have z0:=(hj.out.below hb2 (by simp)).cell 0
   have hl:=(hj.out.below hb2 (by simp)).lt
   simp at z0
   have e1:=hbw.trans (hw2.mono hs1)
   have e2:=hbW.trans (hw2.mono hs0.out)
   clear hcon hb2 hj hup hix
   cases hp : matchB [false,true,false] s with
   | true=>
    have hs' : Hid (n + 4096 = sumTo (clsB s) 13):=Hd (by rw [hsuc.out,show clsB s 12 = true from hp]; rfl)
    clear hp
    go_wp2
    go_roundw
    case rel=>exact ⟨13,n + 4096,13,rfl,by omega,by go_num,by go_num,hs',e1,e2⟩
    case measure=>simp [intOf]
   | false=>
    have hs' : Hid (n = sumTo (clsB s) 13):=Hd (by rw [hsuc.out,show clsB s 12 = false from hp]; rfl)
    clear hp
    go_wp2
    go_roundw
    case rel=>exact ⟨13,n,13,rfl,by omega,by go_num,rfl,hs',e1,e2⟩
    case measure=>simp [intOf]
  ·obtain rfl : i = 13:=by omega
   have hnb : n < 8192:=hnl.out
   have hix:=index_cls13 a (a + 1)
   have hup : Below wr.heap.size wr (wr.alloc (.cells #[.int .u16 8192,.func (.func 143) #[] #[]] 196)):=(Below.refl _ _).alloc (lQ _) _
   have hj:=Hd (Blk.new wr 196 #[.int .u16 8192,.func (.func 143) #[] #[]])
   have hcon:=Hd (codeC_any s _ hsz : Calls Tryz.prog _ _ (wr.alloc (.cells #[.int .u16 8192,.func (.func 143) #[] #[]] 196)) fun e w'=>e = .returned (.bool (matchB [false,false,false,false] s)) /\ Below (wr.alloc (.cells #[.int .u16 8192,.func (.func 143) #[] #[]] 196)).heap.size (wr.alloc (.cells #[.int .u16 8192,.func (.func 143) #[] #[]] 196)) w')
   have hs1:=hbw.size
   clear hnl hn hik hk
   go_wp2_with fail
   refine hcon.out.mono ?_
   rintro e w2 ⟨rfl,hb2⟩
   have hw2 : Below wr.heap.size wr w2:=hup.trans (hb2.mono hup.size)
   have z0:=(hj.out.below hb2 (by simp)).cell 0
   have hl:=(hj.out.below hb2 (by simp)).lt
   simp at z0
   have e1:=hbw.trans (hw2.mono hs1)
   have e2:=hbW.trans (hw2.mono hs0.out)
   clear hcon hb2 hj hup hix
   cases hp : matchB [false,false,false,false] s with
   | true=>
    have hs' : Hid (n + 8192 = sumTo (clsB s) 14):=Hd (by rw [hsuc.out,show clsB s 13 = true from hp]; rfl)
    clear hp
    go_wp2
    go_roundw
    case rel=>exact ⟨14,n + 8192,14,rfl,by omega,by go_num,by go_num,hs',e1,e2⟩
    case measure=>simp [intOf]
   | false=>
    have hs' : Hid (n = sumTo (clsB s) 14):=Hd (by rw [hsuc.out,show clsB s 13 = false from hp]; rfl)
    clear hp
    go_wp2
    go_roundw
    case rel=>exact ⟨14,n,14,rfl,by omega,by go_num,rfl,hs',e1,e2⟩
    case measure=>simp [intOf]
  ·obtain rfl : i = 14:=by omega
   have hfin : Hid ((n : Int) = (classesOf s : Int)):=Hd (by rw [hn.out]; rfl)
   clear hsuc hnl hik hk hn
   go_wp2
   go_ret
   exact ⟨ret_int hfin.out,hbw⟩
end
end Go.Proofs.YteclineblddpbaaGreatDoorR
