import Derived.Test.YtggimnndflkjkaaGreatDoorR01
import Derived.Test.YtggimnndflkjkaaGreatDoorR03
import Derived.WalkKit
import Derived.Laws.BitsAllLaws
import Derived.Great.Walk
import Derived.Laws.EntriesVeiled
set_option linter.all false
set_option maxRecDepth 100000
set_option maxHeartbeats 0
namespace Go.Proofs.YtggimnndflkjkaaGreatDoor
section
open Go.RowKit
def zck (b : Nat -> Bool) : Nat -> Nat
 | 0=>0
 | k + 1=>zck b k + (if b k then 2 ^ k else 0)
theorem zkn (b : Nat -> Bool) : ∀ k,zck b k < 2 ^ k
 | 0=>Nat.lt_of_lt_of_le Nat.zero_lt_one (lQ _)
 | k + 1=>by
  have:=zkn b k;rw [zck,Nat.pow_succ]
  split <;> omega
theorem zpq (b : Nat -> Bool) : ∀ k i,i < k -> (zck b k).testBit i = b i
 | k + 1,i,h=>by
  have hlt:=zkn b k;rw [zck];by_cases he : i = k
  ·subst he
   cases hb : b i
   ·simp [Nat.testBit_lt_two_pow hlt]
   ·rw [if_pos rfl,Nat.add_comm,Nat.testBit_two_pow_add_eq,Nat.testBit_lt_two_pow hlt]; rfl
  ·have ih:=zpq b k i (by omega)
   cases hb : b k
   ·simpa using ih
   ·rw [if_pos rfl,Nat.add_comm,Nat.testBit_two_pow_add_gt (by omega),ih]
theorem zyc (n i : Nat) : n &&& 2 ^ i = if n.testBit i then 2 ^ i else 0:=by
 apply Nat.eq_of_testBit_eq
 intro j;rw [Nat.testBit_and,Nat.testBit_two_pow];by_cases h : i = j
 ·subst h; cases n.testBit i <;> simp
 ·simp [h]; split
  ·rw [Nat.testBit_two_pow]; simp [h]
  ·simp
theorem zhw (a b : Nat) (ha : a < 65536) (hb : b < 65536) : bits BinOp.and IntKind.u16 (a : Int) (b : Int) = ((a &&& b : Nat) : Int):=by
 have h : a &&& b < 65536:=Nat.lt_of_le_of_lt Nat.and_le_left ha;show IntKind.u16.wrap (((BitVec.ofInt 16 (a : Int) &&& BitVec.ofInt 16 (b : Int)).toNat : Nat) : Int) = _;rw [BitVec.ofInt_natCast,BitVec.ofInt_natCast,BitVec.toNat_and,BitVec.toNat_ofNat,BitVec.toNat_ofNat,Nat.mod_eq_of_lt (by omega),Nat.mod_eq_of_lt (by omega)];generalize a &&& b = c at h;simp [IntKind.wrap,IntKind.bits,IntKind.signed]; omega
theorem zsn (n i : Nat) (hn : n < 65536) (hi : i < 16) : (bits BinOp.and IntKind.u16 (n : Int) ((2 ^ i : Nat) : Int) != 0) = n.testBit i:=by
 have h2 : 2 ^ i < 2 ^ 16:=Nat.pow_lt_pow_right (by omega) hi;have h3 : 0 < 2 ^ i:=Nat.pow_pos (by omega);rw [zhw _ _ hn h2,zyc];generalize 2 ^ i = q at h3;cases n.testBit i
 ·rfl
 ·simp; omega
end
section
open Go.RowKit Go.Maps
def zat (a b : Nat) : Array Value:=#[.int .u16 1,.func (.func 127) #[] #[],.int .u16 2,.func (.func 128) #[] #[],.int .u16 4,.func (.func 129) #[] #[],.int .u16 8,.func (.func 126) #[] #[.pointer (some ⟨a,0,none⟩),.pointer (some ⟨b,0,none⟩)],.int .u16 16,.func (.func 126) #[] #[.pointer (some ⟨a,0,none⟩),.pointer (some ⟨b + 1,0,none⟩)],.int .u16 32,.func (.func 126) #[] #[.pointer (some ⟨a,0,none⟩),.pointer (some ⟨b + 2,0,none⟩)],.int .u16 64,.func (.func 126) #[] #[.pointer (some ⟨a,0,none⟩),.pointer (some ⟨b + 3,0,none⟩)],.int .u16 128,.func (.func 130) #[] #[],.int .u16 256,.func (.func 133) #[] #[],.int .u16 512,.func (.func 136) #[] #[],.int .u16 1024,.func (.func 138) #[] #[],.int .u16 2048,.func (.func 139) #[] #[],.int .u16 4096,.func (.func 140) #[] #[],.int .u16 8192,.func (.func 141) #[] #[]]
theorem zuO : (Tryz.prog.info? 211).map (·.size) = some 28:=by kernel_rfl
def zwt : Array Value:=#[.int .u16 0,.nilFunc,.int .u16 0,.nilFunc,.int .u16 0,.nilFunc,.int .u16 0,.nilFunc,.int .u16 0,.nilFunc,.int .u16 0,.nilFunc,.int .u16 0,.nilFunc,.int .u16 0,.nilFunc,.int .u16 0,.nilFunc,.int .u16 0,.nilFunc,.int .u16 0,.nilFunc,.int .u16 0,.nilFunc,.int .u16 0,.nilFunc,.int .u16 0,.nilFunc]
theorem zza : zwt.size = 28:=by kernel_rfl
theorem zzE (a b : Nat) : (zat a b).all (·.oneCell') = true:=by simp [zat,Value.oneCell']
def zaF (s : ByteArray) : Nat -> Bool
 | 0=>zct s
 | 1=>zdS s
 | 2=>zvl s
 | 3=>zfc (zaG s) 1
 | 4=>zfc (zaG s) 2
 | 5=>zfc (zaG s) 3
 | 6=>zfc (zaG s) 4
 | 7=>zjQ s
 | 8=>zbj [true,true] s
 | 9=>zbj [false,false,false,false,false] s
 | 10=>zbj [true,false,true,false,true,false] s
 | 11=>zbj [true,false,true] s
 | 12=>zbj [false,true,false] s
 | 13=>zbj [false,false,false,false] s
 | _=>false
def zdh (s : ByteArray) : Nat:=zck (zaF s) 14
theorem zmz (s : ByteArray) : ∀ k,k <= 40 -> ziP s k < 64
 | 0,_=>Nat.zero_lt_succ _
 | k + 1,h=>by
  rw [zjx s k (by omega)];refine zsc (zmz s k (by omega)) ?_;rw [zD _ _ _ (show k < zaY.length from by rw [zps]; omega)];exact (zjd _ (List.getElem_mem _)).2
theorem zgT (s : ByteArray) : zaG s < 64:=zmz s 40 (lQ _)
theorem zsJ (a b : Nat) (W : World) : Sem.run Tryz.prog (Instr.index 211 (.agg (zat a b)) (.int .i64 0)) W = .ok (.agg #[.int .u16 1,.func (.func 127) #[] #[]]) W:=by kernel_rfl
theorem zsK (a b : Nat) (W : World) : Sem.run Tryz.prog (Instr.index 211 (.agg (zat a b)) (.int .i64 1)) W = .ok (.agg #[.int .u16 2,.func (.func 128) #[] #[]]) W:=by kernel_rfl
theorem zsL (a b : Nat) (W : World) : Sem.run Tryz.prog (Instr.index 211 (.agg (zat a b)) (.int .i64 2)) W = .ok (.agg #[.int .u16 4,.func (.func 129) #[] #[]]) W:=by kernel_rfl
theorem zsM (a b : Nat) (W : World) : Sem.run Tryz.prog (Instr.index 211 (.agg (zat a b)) (.int .i64 3)) W = .ok (.agg #[.int .u16 8,.func (.func 126) #[] #[.pointer (some ⟨a,0,none⟩),.pointer (some ⟨b,0,none⟩)]]) W:=by kernel_rfl
theorem zsN (a b : Nat) (W : World) : Sem.run Tryz.prog (Instr.index 211 (.agg (zat a b)) (.int .i64 4)) W = .ok (.agg #[.int .u16 16,.func (.func 126) #[] #[.pointer (some ⟨a,0,none⟩),.pointer (some ⟨b + 1,0,none⟩)]]) W:=by kernel_rfl
theorem zsO (a b : Nat) (W : World) : Sem.run Tryz.prog (Instr.index 211 (.agg (zat a b)) (.int .i64 5)) W = .ok (.agg #[.int .u16 32,.func (.func 126) #[] #[.pointer (some ⟨a,0,none⟩),.pointer (some ⟨b + 2,0,none⟩)]]) W:=by kernel_rfl
theorem zsP (a b : Nat) (W : World) : Sem.run Tryz.prog (Instr.index 211 (.agg (zat a b)) (.int .i64 6)) W = .ok (.agg #[.int .u16 64,.func (.func 126) #[] #[.pointer (some ⟨a,0,none⟩),.pointer (some ⟨b + 3,0,none⟩)]]) W:=by kernel_rfl
theorem zsQ (a b : Nat) (W : World) : Sem.run Tryz.prog (Instr.index 211 (.agg (zat a b)) (.int .i64 7)) W = .ok (.agg #[.int .u16 128,.func (.func 130) #[] #[]]) W:=by kernel_rfl
theorem zsR (a b : Nat) (W : World) : Sem.run Tryz.prog (Instr.index 211 (.agg (zat a b)) (.int .i64 8)) W = .ok (.agg #[.int .u16 256,.func (.func 133) #[] #[]]) W:=by kernel_rfl
theorem zsS (a b : Nat) (W : World) : Sem.run Tryz.prog (Instr.index 211 (.agg (zat a b)) (.int .i64 9)) W = .ok (.agg #[.int .u16 512,.func (.func 136) #[] #[]]) W:=by kernel_rfl
theorem zqn (a b : Nat) (W : World) : Sem.run Tryz.prog (Instr.index 211 (.agg (zat a b)) (.int .i64 10)) W = .ok (.agg #[.int .u16 1024,.func (.func 138) #[] #[]]) W:=by kernel_rfl
theorem zqo (a b : Nat) (W : World) : Sem.run Tryz.prog (Instr.index 211 (.agg (zat a b)) (.int .i64 11)) W = .ok (.agg #[.int .u16 2048,.func (.func 139) #[] #[]]) W:=by kernel_rfl
theorem zqp (a b : Nat) (W : World) : Sem.run Tryz.prog (Instr.index 211 (.agg (zat a b)) (.int .i64 12)) W = .ok (.agg #[.int .u16 4096,.func (.func 140) #[] #[]]) W:=by kernel_rfl
theorem zqq (a b : Nat) (W : World) : Sem.run Tryz.prog (Instr.index 211 (.agg (zat a b)) (.int .i64 13)) W = .ok (.agg #[.int .u16 8192,.func (.func 141) #[] #[]]) W:=by kernel_rfl
theorem zpS (k : Int) (a : Nat) (w : World) (n : Nat) (h : w.heap.size = n) : Calls Tryz.prog 125 #[.int .u8 k,.pointer (some ⟨a,0,none⟩)] w fun e w'=>e = .returned (.func (.func 126) #[] #[.pointer (some ⟨a,0,none⟩),.pointer (some ⟨n,0,none⟩)]) /\ w' = w.alloc (.cells #[.int .u8 k] 5):=by
 subst h; exact zob k a w
theorem zdy (s : ByteArray) (w : World) (hsz : s.size <= 1000000) : Calls Tryz.prog 79 #[.string s] w fun e w'=>e = .returned (.int .u16 (zdh s : Int)) /\ Below w.heap.size w w':=by
 have hk:=Hd (zuX s w);have hc1:=Hd zpS;go_enter Tryz.func79,Tryz.ntmps79;go_wp2_with fail;refine hk.out.mono ?_;rintro e w1 ⟨rfl,hb1⟩;go_upto_region 3 with fail;go_wp2_with fail;refine (hc1.out _ _ _ (w1.heap.size + 1) (by simp)).mono ?_;rintro e w' ⟨rfl,rfl⟩;go_wp2_with fail;refine (hc1.out _ _ _ (w1.heap.size + 2) (by simp)).mono ?_;rintro e w' ⟨rfl,rfl⟩;go_wp2_with fail;refine (hc1.out _ _ _ (w1.heap.size + 3) (by simp)).mono ?_;rintro e w' ⟨rfl,rfl⟩;go_wp2_with fail;refine (hc1.out _ _ _ (w1.heap.size + 4) (by simp)).mono ?_;rintro e w' ⟨rfl,rfl⟩;rename_i hK;simp only [];refine hK _ _ ?_;clear hK;refine wpList_buildTo rfl 208 _ rfl (some 26) rfl #[.int .u16 64,.func (.func 126) #[] #[.pointer (some ⟨w1.heap.size,0,none⟩),.pointer (some ⟨w1.heap.size + 4,0,none⟩)]] (by kernel_rfl) ?_;simp only [Act.put,sX,sZ,sS];refine wpList_buildTo rfl 208 _ rfl (some 27) rfl #[.int .u16 128,.func (.func 130) #[] #[]] (by kernel_rfl) ?_;simp only [Act.put,sX,sZ,sS];refine wpList_buildTo rfl 208 _ rfl (some 28) rfl #[.int .u16 256,.func (.func 133) #[] #[]] (by kernel_rfl) ?_;simp only [Act.put,sX,sZ,sS];refine wpList_buildTo rfl 208 _ rfl (some 29) rfl #[.int .u16 512,.func (.func 136) #[] #[]] (by kernel_rfl) ?_;simp only [Act.put,sX,sZ,sS];refine wpList_buildTo rfl 208 _ rfl (some 30) rfl #[.int .u16 1024,.func (.func 138) #[] #[]] (by kernel_rfl) ?_;simp only [Act.put,sX,sZ,sS];refine wpList_buildTo rfl 208 _ rfl (some 31) rfl #[.int .u16 2048,.func (.func 139) #[] #[]] (by kernel_rfl) ?_;simp only [Act.put,sX,sZ,sS];refine wpList_buildTo rfl 208 _ rfl (some 32) rfl #[.int .u16 4096,.func (.func 140) #[] #[]] (by kernel_rfl) ?_;simp only [Act.put,sX,sZ,sS];refine wpList_buildTo rfl 208 _ rfl (some 33) rfl #[.int .u16 8192,.func (.func 141) #[] #[]] (by kernel_rfl) ?_;simp only [Act.put,sX,sZ,sS];refine wpList_buildTo rfl 211 _ rfl (some 34) rfl (zat w1.heap.size (w1.heap.size + 1)) (by kernel_rfl) ?_;simp only [Act.put,sX,sZ,sS];refine Great.wpList_allocTo rfl (some 5) rfl (.pointer (some ⟨w1.heap.size + 5,0,none⟩)) (.cells zwt 211) (by rw [show w1.heap.size + 5 = (((((w1.alloc (.cells #[.int .u8 (zaG s : Int)] 5)).alloc (.cells #[.int .u8 1] 5)).alloc (.cells #[.int .u8 2] 5)).alloc (.cells #[.int .u8 3] 5)).alloc (.cells #[.int .u8 4] 5)).heap.size from by simp]; kernel_rfl) ?_;simp only [Act.put,sX,sZ,sS];refine wpList_store_rowTo rfl 211 _ _ rfl rfl (w1.heap.size + 5) (zat w1.heap.size (w1.heap.size + 1)) rfl rfl 211 zwt (by rw [show w1.heap.size + 5 = (((((w1.alloc (.cells #[.int .u8 (zaG s : Int)] 5)).alloc (.cells #[.int .u8 1] 5)).alloc (.cells #[.int .u8 2] 5)).alloc (.cells #[.int .u8 3] 5)).alloc (.cells #[.int .u8 4] 5)).heap.size from by simp]; exact heap_alloc_last _ _) zuO zza (zzE _ _) ?_;rw [show (w1.heap.size + 5) = (((((w1.alloc (.cells #[.int .u8 (zaG s : Int)] 5)).alloc (.cells #[.int .u8 1] 5)).alloc (.cells #[.int .u8 2] 5)).alloc (.cells #[.int .u8 3] 5)).alloc (.cells #[.int .u8 4] 5)).heap.size from by simp,World.setRow_alloc_new]
 apply wpList_nil
 have hA : Below w.heap.size w (((((w1.alloc (.cells #[.int .u8 (zaG s : Int)] 5)).alloc (.cells #[.int .u8 1] 5)).alloc (.cells #[.int .u8 2] 5)).alloc (.cells #[.int .u8 3] 5)).alloc (.cells #[.int .u8 4] 5)):=by
  have h0:=hb1.size;exact ((((hb1.alloc h0 _).alloc (by simp; omega) _).alloc (by simp; omega) _).alloc (by simp; omega) _).alloc (by simp; omega) _
 have ka:=(((((Blk.new w1 5 #[.int .u8 (zaG s : Int)]).alloc (.cells #[.int .u8 1] 5)).alloc (.cells #[.int .u8 2] 5)).alloc (.cells #[.int .u8 3] 5)).alloc (.cells #[.int .u8 4] 5)).cell 0;have k1:=((((Blk.new_at (w1.alloc (.cells #[.int .u8 (zaG s : Int)] 5)) 5 #[.int .u8 1] (w1.heap.size + 1) (by simp)).alloc (.cells #[.int .u8 2] 5)).alloc (.cells #[.int .u8 3] 5)).alloc (.cells #[.int .u8 4] 5)).cell 0;have k2:=(((Blk.new_at ((w1.alloc (.cells #[.int .u8 (zaG s : Int)] 5)).alloc (.cells #[.int .u8 1] 5)) 5 #[.int .u8 2] (w1.heap.size + 2) (by simp)).alloc (.cells #[.int .u8 3] 5)).alloc (.cells #[.int .u8 4] 5)).cell 0;have k3:=((Blk.new_at (((w1.alloc (.cells #[.int .u8 (zaG s : Int)] 5)).alloc (.cells #[.int .u8 1] 5)).alloc (.cells #[.int .u8 2] 5)) 5 #[.int .u8 3] (w1.heap.size + 3) (by simp)).alloc (.cells #[.int .u8 4] 5)).cell 0;have k4:=(Blk.new_at ((((w1.alloc (.cells #[.int .u8 (zaG s : Int)] 5)).alloc (.cells #[.int .u8 1] 5)).alloc (.cells #[.int .u8 2] 5)).alloc (.cells #[.int .u8 3] 5)) 5 #[.int .u8 4] (w1.heap.size + 4) (by simp)).cell 0;simp at ka k1 k2 k3 k4;have hz : (((((w1.alloc (.cells #[.int .u8 (zaG s : Int)] 5)).alloc (.cells #[.int .u8 1] 5)).alloc (.cells #[.int .u8 2] 5)).alloc (.cells #[.int .u8 3] 5)).alloc (.cells #[.int .u8 4] 5)).heap.size = w1.heap.size + 5:=by simp
 generalize ((((w1.alloc (.cells #[.int .u8 (zaG s : Int)] 5)).alloc (.cells #[.int .u8 1] 5)).alloc (.cells #[.int .u8 2] 5)).alloc (.cells #[.int .u8 3] 5)).alloc (.cells #[.int .u8 4] 5) = W0 at *;have hB : Below w.heap.size w (W0.alloc (.cells (zat w1.heap.size (w1.heap.size + 1)) 211)):=hA.alloc hA.size _;have hblk:=Blk.new W0 211 (zat w1.heap.size (w1.heap.size + 1));have q0 : w1.heap.size < W0.heap.size:=by omega
 have q1 : w1.heap.size + 4 < W0.heap.size:=by omega
 replace ka:=((Below.refl W0.heap.size W0).alloc (lQ _) (.cells (zat w1.heap.size (w1.heap.size + 1)) 211)).cell (p:=⟨w1.heap.size,0,none⟩) q0 |>.trans ka
 replace k1:=((Below.refl W0.heap.size W0).alloc (lQ _) (.cells (zat w1.heap.size (w1.heap.size + 1)) 211)).cell (p:=⟨w1.heap.size + 1,0,none⟩) (by simp; omega) |>.trans k1
 replace k2:=((Below.refl W0.heap.size W0).alloc (lQ _) (.cells (zat w1.heap.size (w1.heap.size + 1)) 211)).cell (p:=⟨w1.heap.size + 2,0,none⟩) (by simp; omega) |>.trans k2
 replace k3:=((Below.refl W0.heap.size W0).alloc (lQ _) (.cells (zat w1.heap.size (w1.heap.size + 1)) 211)).cell (p:=⟨w1.heap.size + 3,0,none⟩) (by simp; omega) |>.trans k3
 replace k4:=((Below.refl W0.heap.size W0).alloc (lQ _) (.cells (zat w1.heap.size (w1.heap.size + 1)) 211)).cell (p:=⟨w1.heap.size + 4,0,none⟩) (by simp; omega) |>.trans k4
 have hsz2 : W0.heap.size < (W0.alloc (.cells (zat w1.heap.size (w1.heap.size + 1)) 211)).heap.size:=by simp
 go_upto_region 5 with fail
 apply wp_region_lit
 refine wpList_load_row rfl 211 (.tmp 5) rfl W0.heap.size rfl 211 (zat w1.heap.size (w1.heap.size + 1)) (0,0) _ hblk Tryz.underlying211 rfl zuO ?_;simp only [Act.put,sX,sZ,sS];generalize W0.alloc (.cells (zat w1.heap.size (w1.heap.size + 1)) 211) = W at *;have HK:=Hd (And.intro ka (And.intro k1 (And.intro k2 (And.intro k3 k4))));have HS : Hid (w1.heap.size + 5 < W.heap.size):=Hd (by omega);clear ka k1 k2 k3 k4 hblk hsz2 q0 q1 hz hA hb1 hk hc1;generalize w1.heap.size = a at *;go_wp2
 go_loopw [6,36] (fun sv iv wr=>∃ (k n : Nat) (i : Int),i = k /\ k <= 14 /\ iv = .int .i64 i /\ sv = .int .u16 n /\ Hid (n = zck (zaF s) k) /\ Below w.heap.size w wr /\ Below W.heap.size W wr) (fun _ iv _=>14 - (intOf iv).toNat)
 case atStart=>exact ⟨0,0,0,rfl,by omega,rfl,rfl,Hd rfl,hB,Below.refl _ _⟩
 case round=>
  obtain ⟨k,n,i,hik,hk,rfl,rfl,hn,hbw,hbW⟩:=hrel;rename World=>wr;have hsuc : Hid (zck (zaF s) (k + 1) = n + if zaF s k then 2 ^ k else 0):=Hd (by rw [zck,<- hn.out]);have hnl:=Hd (show n < 2 ^ k from by rw [hn.out]; exact zkn (zaF s) k);have hs0:=Hd hbW.size;obtain rfl | rfl | rfl | rfl | rfl | rfl | rfl | rfl | rfl | rfl | rfl | rfl | rfl | rfl | rfl : k = 0 \/ k = 1 \/ k = 2 \/ k = 3 \/ k = 4 \/ k = 5 \/ k = 6 \/ k = 7 \/ k = 8 \/ k = 9 \/ k = 10 \/ k = 11 \/ k = 12 \/ k = 13 \/ k = 14:=by omega
  ·obtain rfl : i = 0:=by omega
   have hnb : n < 1:=hnl.out;have hix:=zsJ a (a + 1);have hup : Below wr.heap.size wr (wr.alloc (.cells #[.int .u16 1,.func (.func 127) #[] #[]] 208)):=(Below.refl _ _).alloc (lQ _) _;have hj:=Hd (Blk.new wr 208 #[.int .u16 1,.func (.func 127) #[] #[]]);have hcon:=Hd ((zmE s _ hsz).mono fun _ _ h=>⟨h.1,by rw [h.2]; exact Below.refl _ _⟩ : Calls Tryz.prog _ _ (wr.alloc (.cells #[.int .u16 1,.func (.func 127) #[] #[]] 208)) fun e w'=>e = .returned (.bool (zct s)) /\ Below (wr.alloc (.cells #[.int .u16 1,.func (.func 127) #[] #[]] 208)).heap.size (wr.alloc (.cells #[.int .u16 1,.func (.func 127) #[] #[]] 208)) w');have hs1:=hbw.size;clear hnl hn hik hk;go_wp2_with fail;refine hcon.out.mono ?_;rintro e w2 ⟨rfl,hb2⟩;have hw2 : Below wr.heap.size wr w2:=hup.trans (hb2.mono hup.size);have z0:=(hj.out.below hb2 (by simp)).cell 0;have hl:=(hj.out.below hb2 (by simp)).lt;simp at z0;have e1:=hbw.trans (hw2.mono hs1);have e2:=hbW.trans (hw2.mono hs0.out);clear hcon hb2 hj hup hix
   cases hp : zct s with
   | true=>
    have hs' : Hid (n + 1 = zck (zaF s) 1):=Hd (by rw [hsuc.out,show zaF s 0 = true from hp]; rfl);clear hp;go_wp2;go_roundw
    case rel=>exact ⟨1,n + 1,1,rfl,by omega,by go_num,by go_num,hs',e1,e2⟩
    case measure=>simp [intOf]
   | false=>
    have hs' : Hid (n = zck (zaF s) 1):=Hd (by rw [hsuc.out,show zaF s 0 = false from hp]; rfl);clear hp;go_wp2;go_roundw
    case rel=>exact ⟨1,n,1,rfl,by omega,by go_num,rfl,hs',e1,e2⟩
    case measure=>simp [intOf]
  ·obtain rfl : i = 1:=by omega
   have hnb : n < 2:=hnl.out;have hix:=zsK a (a + 1);have hup : Below wr.heap.size wr (wr.alloc (.cells #[.int .u16 2,.func (.func 128) #[] #[]] 208)):=(Below.refl _ _).alloc (lQ _) _;have hj:=Hd (Blk.new wr 208 #[.int .u16 2,.func (.func 128) #[] #[]]);have hcon:=Hd ((zoE s _ hsz).mono fun _ _ h=>⟨h.1,by rw [h.2]; exact Below.refl _ _⟩ : Calls Tryz.prog _ _ (wr.alloc (.cells #[.int .u16 2,.func (.func 128) #[] #[]] 208)) fun e w'=>e = .returned (.bool (zdS s)) /\ Below (wr.alloc (.cells #[.int .u16 2,.func (.func 128) #[] #[]] 208)).heap.size (wr.alloc (.cells #[.int .u16 2,.func (.func 128) #[] #[]] 208)) w');have hs1:=hbw.size;clear hnl hn hik hk;go_wp2_with fail;refine hcon.out.mono ?_;rintro e w2 ⟨rfl,hb2⟩;have hw2 : Below wr.heap.size wr w2:=hup.trans (hb2.mono hup.size);have z0:=(hj.out.below hb2 (by simp)).cell 0;have hl:=(hj.out.below hb2 (by simp)).lt;simp at z0;have e1:=hbw.trans (hw2.mono hs1);have e2:=hbW.trans (hw2.mono hs0.out);clear hcon hb2 hj hup hix
   cases hp : zdS s with
   | true=>
    have hs' : Hid (n + 2 = zck (zaF s) 2):=Hd (by rw [hsuc.out,show zaF s 1 = true from hp]; rfl);clear hp;go_wp2;go_roundw
    case rel=>exact ⟨2,n + 2,2,rfl,by omega,by go_num,by go_num,hs',e1,e2⟩
    case measure=>simp [intOf]
   | false=>
    have hs' : Hid (n = zck (zaF s) 2):=Hd (by rw [hsuc.out,show zaF s 1 = false from hp]; rfl);clear hp;go_wp2;go_roundw
    case rel=>exact ⟨2,n,2,rfl,by omega,by go_num,rfl,hs',e1,e2⟩
    case measure=>simp [intOf]
  ·obtain rfl : i = 2:=by omega
   have hnb : n < 4:=hnl.out;have hix:=zsL a (a + 1);have hup : Below wr.heap.size wr (wr.alloc (.cells #[.int .u16 4,.func (.func 129) #[] #[]] 208)):=(Below.refl _ _).alloc (lQ _) _;have hj:=Hd (Blk.new wr 208 #[.int .u16 4,.func (.func 129) #[] #[]]);have hcon:=Hd (zxg s _ hsz : Calls Tryz.prog _ _ (wr.alloc (.cells #[.int .u16 4,.func (.func 129) #[] #[]] 208)) fun e w'=>e = .returned (.bool (zvl s)) /\ Below (wr.alloc (.cells #[.int .u16 4,.func (.func 129) #[] #[]] 208)).heap.size (wr.alloc (.cells #[.int .u16 4,.func (.func 129) #[] #[]] 208)) w');have hs1:=hbw.size;clear hnl hn hik hk;go_wp2_with fail;refine hcon.out.mono ?_;rintro e w2 ⟨rfl,hb2⟩;have hw2 : Below wr.heap.size wr w2:=hup.trans (hb2.mono hup.size);have z0:=(hj.out.below hb2 (by simp)).cell 0;have hl:=(hj.out.below hb2 (by simp)).lt;simp at z0;have e1:=hbw.trans (hw2.mono hs1);have e2:=hbW.trans (hw2.mono hs0.out);clear hcon hb2 hj hup hix
   cases hp : zvl s with
   | true=>
    have hs' : Hid (n + 4 = zck (zaF s) 3):=Hd (by rw [hsuc.out,show zaF s 2 = true from hp]; rfl);clear hp;go_wp2;go_roundw
    case rel=>exact ⟨3,n + 4,3,rfl,by omega,by go_num,by go_num,hs',e1,e2⟩
    case measure=>simp [intOf]
   | false=>
    have hs' : Hid (n = zck (zaF s) 3):=Hd (by rw [hsuc.out,show zaF s 2 = false from hp]; rfl);clear hp;go_wp2;go_roundw
    case rel=>exact ⟨3,n,3,rfl,by omega,by go_num,rfl,hs',e1,e2⟩
    case measure=>simp [intOf]
  ·obtain rfl : i = 3:=by omega
   have hnb : n < 8:=hnl.out;have hix:=zsM a (a + 1);have hup : Below wr.heap.size wr (wr.alloc (.cells #[.int .u16 8,.func (.func 126) #[] #[.pointer (some ⟨a,0,none⟩),.pointer (some ⟨a + 1,0,none⟩)]] 208)):=(Below.refl _ _).alloc (lQ _) _;have hj:=Hd (Blk.new wr 208 #[.int .u16 8,.func (.func 126) #[] #[.pointer (some ⟨a,0,none⟩),.pointer (some ⟨a + 1,0,none⟩)]]);have ca:=(hbW.alloc hs0.out (.cells #[.int .u16 8,.func (.func 126) #[] #[.pointer (some ⟨a,0,none⟩),.pointer (some ⟨a + 1,0,none⟩)]] 208)).cell (p:=⟨a,0,none⟩) (by have:=HS.out; simp; omega) |>.trans HK.out.1;have cb0:=(hbW.alloc hs0.out (.cells #[.int .u16 8,.func (.func 126) #[] #[.pointer (some ⟨a,0,none⟩),.pointer (some ⟨a + 1,0,none⟩)]] 208)).cell (p:=⟨a + 1,0,none⟩) (by have:=HS.out; simp; omega) |>.trans HK.out.2.1;have hcon:=Hd ((zei s ⟨zaG s,zgT s⟩ 1 _ _ _ ca cb0).mono fun _ _ h=>⟨h.1,by rw [h.2]; exact Below.refl _ _⟩ : Calls Tryz.prog _ _ (wr.alloc (.cells #[.int .u16 8,.func (.func 126) #[] #[.pointer (some ⟨a,0,none⟩),.pointer (some ⟨a + 1,0,none⟩)]] 208)) fun e w'=>e = .returned (.bool (zfc (zaG s) 1)) /\ Below (wr.alloc (.cells #[.int .u16 8,.func (.func 126) #[] #[.pointer (some ⟨a,0,none⟩),.pointer (some ⟨a + 1,0,none⟩)]] 208)).heap.size (wr.alloc (.cells #[.int .u16 8,.func (.func 126) #[] #[.pointer (some ⟨a,0,none⟩),.pointer (some ⟨a + 1,0,none⟩)]] 208)) w');have hs1:=hbw.size;clear ca cb0;clear hnl hn hik hk;go_wp2_with fail;refine hcon.out.mono ?_;rintro e w2 ⟨rfl,hb2⟩;have hw2 : Below wr.heap.size wr w2:=hup.trans (hb2.mono hup.size);have z0:=(hj.out.below hb2 (by simp)).cell 0;have hl:=(hj.out.below hb2 (by simp)).lt;simp at z0;have e1:=hbw.trans (hw2.mono hs1);have e2:=hbW.trans (hw2.mono hs0.out);clear hcon hb2 hj hup hix
   cases hp : zfc (zaG s) 1 with
   | true=>
    have hs' : Hid (n + 8 = zck (zaF s) 4):=Hd (by rw [hsuc.out,show zaF s 3 = true from hp]; rfl);clear hp;go_wp2;go_roundw
    case rel=>exact ⟨4,n + 8,4,rfl,by omega,by go_num,by go_num,hs',e1,e2⟩
    case measure=>simp [intOf]
   | false=>
    have hs' : Hid (n = zck (zaF s) 4):=Hd (by rw [hsuc.out,show zaF s 3 = false from hp]; rfl);clear hp;go_wp2;go_roundw
    case rel=>exact ⟨4,n,4,rfl,by omega,by go_num,rfl,hs',e1,e2⟩
    case measure=>simp [intOf]
  ·obtain rfl : i = 4:=by omega
   have hnb : n < 16:=hnl.out;have hix:=zsN a (a + 1);have hup : Below wr.heap.size wr (wr.alloc (.cells #[.int .u16 16,.func (.func 126) #[] #[.pointer (some ⟨a,0,none⟩),.pointer (some ⟨a + 2,0,none⟩)]] 208)):=(Below.refl _ _).alloc (lQ _) _;have hj:=Hd (Blk.new wr 208 #[.int .u16 16,.func (.func 126) #[] #[.pointer (some ⟨a,0,none⟩),.pointer (some ⟨a + 2,0,none⟩)]]);have ca:=(hbW.alloc hs0.out (.cells #[.int .u16 16,.func (.func 126) #[] #[.pointer (some ⟨a,0,none⟩),.pointer (some ⟨a + 2,0,none⟩)]] 208)).cell (p:=⟨a,0,none⟩) (by have:=HS.out; simp; omega) |>.trans HK.out.1;have cb1:=(hbW.alloc hs0.out (.cells #[.int .u16 16,.func (.func 126) #[] #[.pointer (some ⟨a,0,none⟩),.pointer (some ⟨a + 2,0,none⟩)]] 208)).cell (p:=⟨a + 2,0,none⟩) (by have:=HS.out; simp; omega) |>.trans HK.out.2.2.1;have hcon:=Hd ((zei s ⟨zaG s,zgT s⟩ 2 _ _ _ ca cb1).mono fun _ _ h=>⟨h.1,by rw [h.2]; exact Below.refl _ _⟩ : Calls Tryz.prog _ _ (wr.alloc (.cells #[.int .u16 16,.func (.func 126) #[] #[.pointer (some ⟨a,0,none⟩),.pointer (some ⟨a + 2,0,none⟩)]] 208)) fun e w'=>e = .returned (.bool (zfc (zaG s) 2)) /\ Below (wr.alloc (.cells #[.int .u16 16,.func (.func 126) #[] #[.pointer (some ⟨a,0,none⟩),.pointer (some ⟨a + 2,0,none⟩)]] 208)).heap.size (wr.alloc (.cells #[.int .u16 16,.func (.func 126) #[] #[.pointer (some ⟨a,0,none⟩),.pointer (some ⟨a + 2,0,none⟩)]] 208)) w');have hs1:=hbw.size;clear ca cb1;clear hnl hn hik hk;go_wp2_with fail;refine hcon.out.mono ?_;rintro e w2 ⟨rfl,hb2⟩;have hw2 : Below wr.heap.size wr w2:=hup.trans (hb2.mono hup.size);have z0:=(hj.out.below hb2 (by simp)).cell 0;have hl:=(hj.out.below hb2 (by simp)).lt;simp at z0;have e1:=hbw.trans (hw2.mono hs1);have e2:=hbW.trans (hw2.mono hs0.out);clear hcon hb2 hj hup hix
   cases hp : zfc (zaG s) 2 with
   | true=>
    have hs' : Hid (n + 16 = zck (zaF s) 5):=Hd (by rw [hsuc.out,show zaF s 4 = true from hp]; rfl);clear hp;go_wp2;go_roundw
    case rel=>exact ⟨5,n + 16,5,rfl,by omega,by go_num,by go_num,hs',e1,e2⟩
    case measure=>simp [intOf]
   | false=>
    have hs' : Hid (n = zck (zaF s) 5):=Hd (by rw [hsuc.out,show zaF s 4 = false from hp]; rfl);clear hp;go_wp2;go_roundw
    case rel=>exact ⟨5,n,5,rfl,by omega,by go_num,rfl,hs',e1,e2⟩
    case measure=>simp [intOf]
  ·obtain rfl : i = 5:=by omega
   have hnb : n < 32:=hnl.out;have hix:=zsO a (a + 1);have hup : Below wr.heap.size wr (wr.alloc (.cells #[.int .u16 32,.func (.func 126) #[] #[.pointer (some ⟨a,0,none⟩),.pointer (some ⟨a + 3,0,none⟩)]] 208)):=(Below.refl _ _).alloc (lQ _) _;have hj:=Hd (Blk.new wr 208 #[.int .u16 32,.func (.func 126) #[] #[.pointer (some ⟨a,0,none⟩),.pointer (some ⟨a + 3,0,none⟩)]]);have ca:=(hbW.alloc hs0.out (.cells #[.int .u16 32,.func (.func 126) #[] #[.pointer (some ⟨a,0,none⟩),.pointer (some ⟨a + 3,0,none⟩)]] 208)).cell (p:=⟨a,0,none⟩) (by have:=HS.out; simp; omega) |>.trans HK.out.1;have cb2:=(hbW.alloc hs0.out (.cells #[.int .u16 32,.func (.func 126) #[] #[.pointer (some ⟨a,0,none⟩),.pointer (some ⟨a + 3,0,none⟩)]] 208)).cell (p:=⟨a + 3,0,none⟩) (by have:=HS.out; simp; omega) |>.trans HK.out.2.2.2.1;have hcon:=Hd ((zei s ⟨zaG s,zgT s⟩ 3 _ _ _ ca cb2).mono fun _ _ h=>⟨h.1,by rw [h.2]; exact Below.refl _ _⟩ : Calls Tryz.prog _ _ (wr.alloc (.cells #[.int .u16 32,.func (.func 126) #[] #[.pointer (some ⟨a,0,none⟩),.pointer (some ⟨a + 3,0,none⟩)]] 208)) fun e w'=>e = .returned (.bool (zfc (zaG s) 3)) /\ Below (wr.alloc (.cells #[.int .u16 32,.func (.func 126) #[] #[.pointer (some ⟨a,0,none⟩),.pointer (some ⟨a + 3,0,none⟩)]] 208)).heap.size (wr.alloc (.cells #[.int .u16 32,.func (.func 126) #[] #[.pointer (some ⟨a,0,none⟩),.pointer (some ⟨a + 3,0,none⟩)]] 208)) w');have hs1:=hbw.size;clear ca cb2;clear hnl hn hik hk;go_wp2_with fail;refine hcon.out.mono ?_;rintro e w2 ⟨rfl,hb2⟩;have hw2 : Below wr.heap.size wr w2:=hup.trans (hb2.mono hup.size);have z0:=(hj.out.below hb2 (by simp)).cell 0;have hl:=(hj.out.below hb2 (by simp)).lt;simp at z0;have e1:=hbw.trans (hw2.mono hs1);have e2:=hbW.trans (hw2.mono hs0.out);clear hcon hb2 hj hup hix
   cases hp : zfc (zaG s) 3 with
   | true=>
    have hs' : Hid (n + 32 = zck (zaF s) 6):=Hd (by rw [hsuc.out,show zaF s 5 = true from hp]; rfl);clear hp;go_wp2;go_roundw
    case rel=>exact ⟨6,n + 32,6,rfl,by omega,by go_num,by go_num,hs',e1,e2⟩
    case measure=>simp [intOf]
   | false=>
    have hs' : Hid (n = zck (zaF s) 6):=Hd (by rw [hsuc.out,show zaF s 5 = false from hp]; rfl);clear hp;go_wp2;go_roundw
    case rel=>exact ⟨6,n,6,rfl,by omega,by go_num,rfl,hs',e1,e2⟩
    case measure=>simp [intOf]
  ·obtain rfl : i = 6:=by omega
   have hnb : n < 64:=hnl.out;have hix:=zsP a (a + 1);have hup : Below wr.heap.size wr (wr.alloc (.cells #[.int .u16 64,.func (.func 126) #[] #[.pointer (some ⟨a,0,none⟩),.pointer (some ⟨a + 4,0,none⟩)]] 208)):=(Below.refl _ _).alloc (lQ _) _;have hj:=Hd (Blk.new wr 208 #[.int .u16 64,.func (.func 126) #[] #[.pointer (some ⟨a,0,none⟩),.pointer (some ⟨a + 4,0,none⟩)]]);have ca:=(hbW.alloc hs0.out (.cells #[.int .u16 64,.func (.func 126) #[] #[.pointer (some ⟨a,0,none⟩),.pointer (some ⟨a + 4,0,none⟩)]] 208)).cell (p:=⟨a,0,none⟩) (by have:=HS.out; simp; omega) |>.trans HK.out.1;have cb3:=(hbW.alloc hs0.out (.cells #[.int .u16 64,.func (.func 126) #[] #[.pointer (some ⟨a,0,none⟩),.pointer (some ⟨a + 4,0,none⟩)]] 208)).cell (p:=⟨a + 4,0,none⟩) (by have:=HS.out; simp; omega) |>.trans HK.out.2.2.2.2;have hcon:=Hd ((zei s ⟨zaG s,zgT s⟩ 4 _ _ _ ca cb3).mono fun _ _ h=>⟨h.1,by rw [h.2]; exact Below.refl _ _⟩ : Calls Tryz.prog _ _ (wr.alloc (.cells #[.int .u16 64,.func (.func 126) #[] #[.pointer (some ⟨a,0,none⟩),.pointer (some ⟨a + 4,0,none⟩)]] 208)) fun e w'=>e = .returned (.bool (zfc (zaG s) 4)) /\ Below (wr.alloc (.cells #[.int .u16 64,.func (.func 126) #[] #[.pointer (some ⟨a,0,none⟩),.pointer (some ⟨a + 4,0,none⟩)]] 208)).heap.size (wr.alloc (.cells #[.int .u16 64,.func (.func 126) #[] #[.pointer (some ⟨a,0,none⟩),.pointer (some ⟨a + 4,0,none⟩)]] 208)) w');have hs1:=hbw.size;clear ca cb3;clear hnl hn hik hk;go_wp2_with fail;refine hcon.out.mono ?_;rintro e w2 ⟨rfl,hb2⟩;have hw2 : Below wr.heap.size wr w2:=hup.trans (hb2.mono hup.size);have z0:=(hj.out.below hb2 (by simp)).cell 0;have hl:=(hj.out.below hb2 (by simp)).lt;simp at z0;have e1:=hbw.trans (hw2.mono hs1);have e2:=hbW.trans (hw2.mono hs0.out);clear hcon hb2 hj hup hix
   cases hp : zfc (zaG s) 4 with
   | true=>
    have hs' : Hid (n + 64 = zck (zaF s) 7):=Hd (by rw [hsuc.out,show zaF s 6 = true from hp]; rfl);clear hp;go_wp2;go_roundw
    case rel=>exact ⟨7,n + 64,7,rfl,by omega,by go_num,by go_num,hs',e1,e2⟩
    case measure=>simp [intOf]
   | false=>
    have hs' : Hid (n = zck (zaF s) 7):=Hd (by rw [hsuc.out,show zaF s 6 = false from hp]; rfl);clear hp;go_wp2;go_roundw
    case rel=>exact ⟨7,n,7,rfl,by omega,by go_num,rfl,hs',e1,e2⟩
    case measure=>simp [intOf]
  ·obtain rfl : i = 7:=by omega
   have hnb : n < 128:=hnl.out;have hix:=zsQ a (a + 1);have hup : Below wr.heap.size wr (wr.alloc (.cells #[.int .u16 128,.func (.func 130) #[] #[]] 208)):=(Below.refl _ _).alloc (lQ _) _;have hj:=Hd (Blk.new wr 208 #[.int .u16 128,.func (.func 130) #[] #[]]);have hcon:=Hd ((zuI s _ hsz).mono fun _ _ h=>⟨h.1,by rw [h.2]; exact Below.refl _ _⟩ : Calls Tryz.prog _ _ (wr.alloc (.cells #[.int .u16 128,.func (.func 130) #[] #[]] 208)) fun e w'=>e = .returned (.bool (zjQ s)) /\ Below (wr.alloc (.cells #[.int .u16 128,.func (.func 130) #[] #[]] 208)).heap.size (wr.alloc (.cells #[.int .u16 128,.func (.func 130) #[] #[]] 208)) w');have hs1:=hbw.size;clear hnl hn hik hk;go_wp2_with fail;refine hcon.out.mono ?_;rintro e w2 ⟨rfl,hb2⟩;have hw2 : Below wr.heap.size wr w2:=hup.trans (hb2.mono hup.size);have z0:=(hj.out.below hb2 (by simp)).cell 0;have hl:=(hj.out.below hb2 (by simp)).lt;simp at z0;have e1:=hbw.trans (hw2.mono hs1);have e2:=hbW.trans (hw2.mono hs0.out);clear hcon hb2 hj hup hix
   cases hp : zjQ s with
   | true=>
    have hs' : Hid (n + 128 = zck (zaF s) 8):=Hd (by rw [hsuc.out,show zaF s 7 = true from hp]; rfl);clear hp;go_wp2;go_roundw
    case rel=>exact ⟨8,n + 128,8,rfl,by omega,by go_num,by go_num,hs',e1,e2⟩
    case measure=>simp [intOf]
   | false=>
    have hs' : Hid (n = zck (zaF s) 8):=Hd (by rw [hsuc.out,show zaF s 7 = false from hp]; rfl);clear hp;go_wp2;go_roundw
    case rel=>exact ⟨8,n,8,rfl,by omega,by go_num,rfl,hs',e1,e2⟩
    case measure=>simp [intOf]
  ·obtain rfl : i = 8:=by omega
   have hnb : n < 256:=hnl.out;have hix:=zsR a (a + 1);have hup : Below wr.heap.size wr (wr.alloc (.cells #[.int .u16 256,.func (.func 133) #[] #[]] 208)):=(Below.refl _ _).alloc (lQ _) _;have hj:=Hd (Blk.new wr 208 #[.int .u16 256,.func (.func 133) #[] #[]]);have hcon:=Hd (ztA s _ hsz : Calls Tryz.prog _ _ (wr.alloc (.cells #[.int .u16 256,.func (.func 133) #[] #[]] 208)) fun e w'=>e = .returned (.bool (zbj [true,true] s)) /\ Below (wr.alloc (.cells #[.int .u16 256,.func (.func 133) #[] #[]] 208)).heap.size (wr.alloc (.cells #[.int .u16 256,.func (.func 133) #[] #[]] 208)) w');have hs1:=hbw.size;clear hnl hn hik hk;go_wp2_with fail;refine hcon.out.mono ?_;rintro e w2 ⟨rfl,hb2⟩;have hw2 : Below wr.heap.size wr w2:=hup.trans (hb2.mono hup.size);have z0:=(hj.out.below hb2 (by simp)).cell 0;have hl:=(hj.out.below hb2 (by simp)).lt;simp at z0;have e1:=hbw.trans (hw2.mono hs1);have e2:=hbW.trans (hw2.mono hs0.out);clear hcon hb2 hj hup hix
   cases hp : zbj [true,true] s with
   | true=>
    have hs' : Hid (n + 256 = zck (zaF s) 9):=Hd (by rw [hsuc.out,show zaF s 8 = true from hp]; rfl);clear hp;go_wp2;go_roundw
    case rel=>exact ⟨9,n + 256,9,rfl,by omega,by go_num,by go_num,hs',e1,e2⟩
    case measure=>simp [intOf]
   | false=>
    have hs' : Hid (n = zck (zaF s) 9):=Hd (by rw [hsuc.out,show zaF s 8 = false from hp]; rfl);clear hp;go_wp2;go_roundw
    case rel=>exact ⟨9,n,9,rfl,by omega,by go_num,rfl,hs',e1,e2⟩
    case measure=>simp [intOf]
  ·obtain rfl : i = 9:=by omega
   have hnb : n < 512:=hnl.out;have hix:=zsS a (a + 1);have hup : Below wr.heap.size wr (wr.alloc (.cells #[.int .u16 512,.func (.func 136) #[] #[]] 208)):=(Below.refl _ _).alloc (lQ _) _;have hj:=Hd (Blk.new wr 208 #[.int .u16 512,.func (.func 136) #[] #[]]);have hcon:=Hd (zuw s _ hsz : Calls Tryz.prog _ _ (wr.alloc (.cells #[.int .u16 512,.func (.func 136) #[] #[]] 208)) fun e w'=>e = .returned (.bool (zbj [false,false,false,false,false] s)) /\ Below (wr.alloc (.cells #[.int .u16 512,.func (.func 136) #[] #[]] 208)).heap.size (wr.alloc (.cells #[.int .u16 512,.func (.func 136) #[] #[]] 208)) w');have hs1:=hbw.size;clear hnl hn hik hk;go_wp2_with fail;refine hcon.out.mono ?_;rintro e w2 ⟨rfl,hb2⟩;have hw2 : Below wr.heap.size wr w2:=hup.trans (hb2.mono hup.size);have z0:=(hj.out.below hb2 (by simp)).cell 0;have hl:=(hj.out.below hb2 (by simp)).lt;simp at z0;have e1:=hbw.trans (hw2.mono hs1);have e2:=hbW.trans (hw2.mono hs0.out);clear hcon hb2 hj hup hix
   cases hp : zbj [false,false,false,false,false] s with
   | true=>
    have hs' : Hid (n + 512 = zck (zaF s) 10):=Hd (by rw [hsuc.out,show zaF s 9 = true from hp]; rfl);clear hp;go_wp2;go_roundw
    case rel=>exact ⟨10,n + 512,10,rfl,by omega,by go_num,by go_num,hs',e1,e2⟩
    case measure=>simp [intOf]
   | false=>
    have hs' : Hid (n = zck (zaF s) 10):=Hd (by rw [hsuc.out,show zaF s 9 = false from hp]; rfl);clear hp;go_wp2;go_roundw
    case rel=>exact ⟨10,n,10,rfl,by omega,by go_num,rfl,hs',e1,e2⟩
    case measure=>simp [intOf]
  ·obtain rfl : i = 10:=by omega
   have hnb : n < 1024:=hnl.out;have hix:=zqn a (a + 1);have hup : Below wr.heap.size wr (wr.alloc (.cells #[.int .u16 1024,.func (.func 138) #[] #[]] 208)):=(Below.refl _ _).alloc (lQ _) _;have hj:=Hd (Blk.new wr 208 #[.int .u16 1024,.func (.func 138) #[] #[]]);have hcon:=Hd (zux s _ hsz : Calls Tryz.prog _ _ (wr.alloc (.cells #[.int .u16 1024,.func (.func 138) #[] #[]] 208)) fun e w'=>e = .returned (.bool (zbj [true,false,true,false,true,false] s)) /\ Below (wr.alloc (.cells #[.int .u16 1024,.func (.func 138) #[] #[]] 208)).heap.size (wr.alloc (.cells #[.int .u16 1024,.func (.func 138) #[] #[]] 208)) w');have hs1:=hbw.size;clear hnl hn hik hk;go_wp2_with fail;refine hcon.out.mono ?_;rintro e w2 ⟨rfl,hb2⟩;have hw2 : Below wr.heap.size wr w2:=hup.trans (hb2.mono hup.size);have z0:=(hj.out.below hb2 (by simp)).cell 0;have hl:=(hj.out.below hb2 (by simp)).lt;simp at z0;have e1:=hbw.trans (hw2.mono hs1);have e2:=hbW.trans (hw2.mono hs0.out);clear hcon hb2 hj hup hix
   cases hp : zbj [true,false,true,false,true,false] s with
   | true=>
    have hs' : Hid (n + 1024 = zck (zaF s) 11):=Hd (by rw [hsuc.out,show zaF s 10 = true from hp]; rfl);clear hp;go_wp2;go_roundw
    case rel=>exact ⟨11,n + 1024,11,rfl,by omega,by go_num,by go_num,hs',e1,e2⟩
    case measure=>simp [intOf]
   | false=>
    have hs' : Hid (n = zck (zaF s) 11):=Hd (by rw [hsuc.out,show zaF s 10 = false from hp]; rfl);clear hp;go_wp2;go_roundw
    case rel=>exact ⟨11,n,11,rfl,by omega,by go_num,rfl,hs',e1,e2⟩
    case measure=>simp [intOf]
  ·obtain rfl : i = 11:=by omega
   have hnb : n < 2048:=hnl.out;have hix:=zqo a (a + 1);have hup : Below wr.heap.size wr (wr.alloc (.cells #[.int .u16 2048,.func (.func 139) #[] #[]] 208)):=(Below.refl _ _).alloc (lQ _) _;have hj:=Hd (Blk.new wr 208 #[.int .u16 2048,.func (.func 139) #[] #[]]);have hcon:=Hd (zsA s _ hsz : Calls Tryz.prog _ _ (wr.alloc (.cells #[.int .u16 2048,.func (.func 139) #[] #[]] 208)) fun e w'=>e = .returned (.bool (zbj [true,false,true] s)) /\ Below (wr.alloc (.cells #[.int .u16 2048,.func (.func 139) #[] #[]] 208)).heap.size (wr.alloc (.cells #[.int .u16 2048,.func (.func 139) #[] #[]] 208)) w');have hs1:=hbw.size;clear hnl hn hik hk;go_wp2_with fail;refine hcon.out.mono ?_;rintro e w2 ⟨rfl,hb2⟩;have hw2 : Below wr.heap.size wr w2:=hup.trans (hb2.mono hup.size);have z0:=(hj.out.below hb2 (by simp)).cell 0;have hl:=(hj.out.below hb2 (by simp)).lt;simp at z0;have e1:=hbw.trans (hw2.mono hs1);have e2:=hbW.trans (hw2.mono hs0.out);clear hcon hb2 hj hup hix
   cases hp : zbj [true,false,true] s with
   | true=>
    have hs' : Hid (n + 2048 = zck (zaF s) 12):=Hd (by rw [hsuc.out,show zaF s 11 = true from hp]; rfl);clear hp;go_wp2;go_roundw
    case rel=>exact ⟨12,n + 2048,12,rfl,by omega,by go_num,by go_num,hs',e1,e2⟩
    case measure=>simp [intOf]
   | false=>
    have hs' : Hid (n = zck (zaF s) 12):=Hd (by rw [hsuc.out,show zaF s 11 = false from hp]; rfl);clear hp;go_wp2;go_roundw
    case rel=>exact ⟨12,n,12,rfl,by omega,by go_num,rfl,hs',e1,e2⟩
    case measure=>simp [intOf]
  ·obtain rfl : i = 12:=by omega
   have hnb : n < 4096:=hnl.out;have hix:=zqp a (a + 1);have hup : Below wr.heap.size wr (wr.alloc (.cells #[.int .u16 4096,.func (.func 140) #[] #[]] 208)):=(Below.refl _ _).alloc (lQ _) _;have hj:=Hd (Blk.new wr 208 #[.int .u16 4096,.func (.func 140) #[] #[]]);have hcon:=Hd (zuZ s _ hsz : Calls Tryz.prog _ _ (wr.alloc (.cells #[.int .u16 4096,.func (.func 140) #[] #[]] 208)) fun e w'=>e = .returned (.bool (zbj [false,true,false] s)) /\ Below (wr.alloc (.cells #[.int .u16 4096,.func (.func 140) #[] #[]] 208)).heap.size (wr.alloc (.cells #[.int .u16 4096,.func (.func 140) #[] #[]] 208)) w');have hs1:=hbw.size;clear hnl hn hik hk;go_wp2_with fail;refine hcon.out.mono ?_;rintro e w2 ⟨rfl,hb2⟩;have hw2 : Below wr.heap.size wr w2:=hup.trans (hb2.mono hup.size);have z0:=(hj.out.below hb2 (by simp)).cell 0;have hl:=(hj.out.below hb2 (by simp)).lt;simp at z0;have e1:=hbw.trans (hw2.mono hs1);have e2:=hbW.trans (hw2.mono hs0.out);clear hcon hb2 hj hup hix
   cases hp : zbj [false,true,false] s with
   | true=>
    have hs' : Hid (n + 4096 = zck (zaF s) 13):=Hd (by rw [hsuc.out,show zaF s 12 = true from hp]; rfl);clear hp;go_wp2;go_roundw
    case rel=>exact ⟨13,n + 4096,13,rfl,by omega,by go_num,by go_num,hs',e1,e2⟩
    case measure=>simp [intOf]
   | false=>
    have hs' : Hid (n = zck (zaF s) 13):=Hd (by rw [hsuc.out,show zaF s 12 = false from hp]; rfl);clear hp;go_wp2;go_roundw
    case rel=>exact ⟨13,n,13,rfl,by omega,by go_num,rfl,hs',e1,e2⟩
    case measure=>simp [intOf]
  ·obtain rfl : i = 13:=by omega
   have hnb : n < 8192:=hnl.out;have hix:=zqq a (a + 1);have hup : Below wr.heap.size wr (wr.alloc (.cells #[.int .u16 8192,.func (.func 141) #[] #[]] 208)):=(Below.refl _ _).alloc (lQ _) _;have hj:=Hd (Blk.new wr 208 #[.int .u16 8192,.func (.func 141) #[] #[]]);have hcon:=Hd (zuy s _ hsz : Calls Tryz.prog _ _ (wr.alloc (.cells #[.int .u16 8192,.func (.func 141) #[] #[]] 208)) fun e w'=>e = .returned (.bool (zbj [false,false,false,false] s)) /\ Below (wr.alloc (.cells #[.int .u16 8192,.func (.func 141) #[] #[]] 208)).heap.size (wr.alloc (.cells #[.int .u16 8192,.func (.func 141) #[] #[]] 208)) w');have hs1:=hbw.size;clear hnl hn hik hk;go_wp2_with fail;refine hcon.out.mono ?_;rintro e w2 ⟨rfl,hb2⟩;have hw2 : Below wr.heap.size wr w2:=hup.trans (hb2.mono hup.size);have z0:=(hj.out.below hb2 (by simp)).cell 0;have hl:=(hj.out.below hb2 (by simp)).lt;simp at z0;have e1:=hbw.trans (hw2.mono hs1);have e2:=hbW.trans (hw2.mono hs0.out);clear hcon hb2 hj hup hix
   cases hp : zbj [false,false,false,false] s with
   | true=>
    have hs' : Hid (n + 8192 = zck (zaF s) 14):=Hd (by rw [hsuc.out,show zaF s 13 = true from hp]; rfl);clear hp;go_wp2;go_roundw
    case rel=>exact ⟨14,n + 8192,14,rfl,by omega,by go_num,by go_num,hs',e1,e2⟩
    case measure=>simp [intOf]
   | false=>
    have hs' : Hid (n = zck (zaF s) 14):=Hd (by rw [hsuc.out,show zaF s 13 = false from hp]; rfl);clear hp;go_wp2;go_roundw
    case rel=>exact ⟨14,n,14,rfl,by omega,by go_num,rfl,hs',e1,e2⟩
    case measure=>simp [intOf]
  ·obtain rfl : i = 14:=by omega
   have hfin : Hid ((n : Int) = (zdh s : Int)):=Hd (by rw [hn.out]; rfl);clear hsuc hnl hik hk hn;go_wp2;go_ret;exact ⟨zbO hfin.out,hbw⟩
end
end Go.Proofs.YtggimnndflkjkaaGreatDoor
