import Derived.Test.YtggimnndflkjkaaGreatDoorR01
import Derived.WalkKit
import Derived.Great.BuildSlice
import Derived.WalkLawsBesides
import Derived.Laws.OwnMore
import Derived.Deep.RegionHeld3
import Derived.Lib.CutLaws
set_option linter.all false
set_option maxRecDepth 100000
set_option maxHeartbeats 0
namespace Go.Proofs.YtggimnndflkjkaaGreatDoor
section
def zpr (c : Nat) (c2 : Option Nat) (d : Nat) (d2 : Option Nat) : Bool:=decide (c2 = some d) && decide (d2 = some c) && decide (c ≠ d)
def zhT (c d x1 x2 y1 : Nat) : Nat:=min (x2 + (if c = d then 0 else 1)) (min (x1 + 1) (y1 + 1))
def ziJ (c : Nat) (c2 : Option Nat) (d : Nat) (d2 : Option Nat) (x1 x2 y1 z : Nat) : Nat:=
 if zpr c c2 d d2 then min (zhT c d x1 x2 y1) (z + 1) else zhT c d x1 x2 y1
def zde : List Nat -> List Nat -> Nat
 | [],b=>b.length
 | _ :: a,[]=>a.length + 1
 | c :: a,d :: b=>ziJ c a.head? d b.head? (zde a (d :: b)) (zde a b) (zde (c :: a) b) (zde a.tail b.tail)
termination_by a b=>a.length + b.length
decreasing_by all_goals (simp [List.length_tail]; try omega)
def zzJ : List Nat -> List Nat
 | []=>[0]
 | _ :: b=>(b.length + 1) :: zzJ b
def zfY (c : Nat) (c2 : Option Nat) : List Nat -> List Nat -> List Nat -> List Nat
 | [],r1,_=>[r1.headD 0 + 1]
 | d :: b,r1,r2=>
  let rest:=zfY c c2 b r1.tail r2.tail
  ziJ c c2 d b.head? (r1.headD 0) (r1.tail.headD 0) (rest.headD 0) (r2.tail.tail.headD 0) :: rest
def zpf : List Nat -> List Nat -> List Nat × List Nat
 | [],b=>(zzJ b,[])
 | c :: a,b=>(zfY c a.head? b (zpf a b).1 (zpf a b).2,(zpf a b).1)
def zyq (a b : List Nat) : Nat:=(zpf a b).1.headD 0
def suf (a : List Nat) : List Nat -> List Nat
 | []=>[zde a []]
 | d :: b=>zde a (d :: b) :: suf a b
theorem zfj (a b : List Nat) : (suf a b).headD 0 = zde a b:=by cases b <;> rfl
theorem zkm (a : List Nat) (d : Nat) (b : List Nat) : (suf a (d :: b)).tail = suf a b:=rfl
theorem zrZ : ∀ b,zzJ b = suf [] b
 | []=>by simp [zzJ,suf,zde]
 | d :: b=>by simp [zzJ,suf,zde,zrZ b]
theorem zrF (a : List Nat) : zde a [] = a.length:=by cases a <;> simp [zde]
theorem zgv (c d : Nat) (a b : List Nat) : zde (c :: a) (d :: b) = ziJ c a.head? d b.head? (zde a (d :: b)) (zde a b) (zde (c :: a) b) (zde a.tail b.tail):=by
 rw [zde]
theorem zyl (c d : Nat) (d2 : Option Nat) (x1 x2 y1 z z' : Nat) : ziJ c none d d2 x1 x2 y1 z = ziJ c none d d2 x1 x2 y1 z':=by simp [ziJ,zpr]
theorem zym (c d : Nat) (c2 : Option Nat) (x1 x2 y1 z z' : Nat) : ziJ c c2 d none x1 x2 y1 z = ziJ c c2 d none x1 x2 y1 z':=by simp [ziJ,zpr]
theorem zsd (a : List Nat) (d : Nat) (b : List Nat) : suf a (d :: b) = zde a (d :: b) :: suf a b:=rfl
theorem zly (c : Nat) : ∀ b r2,zfY c none b (suf [] b) r2 = suf [c] b
 | [],r2=>by simp [zfY,suf,zde]
 | d :: b,r2=>by
  have ih:=zly c b r2.tail;rw [zfY,zkm,ih,zsd [c],zfj,zfj,zfj,zgv];exact congrArg (· :: _) (zyl _ _ _ _ _ _ _ _)
theorem zjG (c c2 : Nat) (a : List Nat) : ∀ b,zfY c (some c2) b (suf (c2 :: a) b) (suf a b) = suf (c :: c2 :: a) b
 | []=>by simp [zfY,suf,zrF]
 | d :: b=>by
  have ih:=zjG c c2 a b;rw [zfY,zkm,zkm,ih,zsd (c :: c2 :: a),zfj,zfj,zfj,zgv c]
  cases b with
  | nil=>exact congrArg (· :: _) (zym _ _ _ _ _ _ _ _)
  | cons d2 b=>rw [zkm,zfj]; rfl
theorem zpg : ∀ a b,(zpf a b).1 = suf a b /\ (∀ c a0,a = c :: a0 -> (zpf a b).2 = suf a0 b)
 | [],b=>⟨zrZ b,fun _ _ h=>by cases h⟩
 | c :: a,b=>by
  have ih:=zpg a b;refine ⟨?_,fun c' a0 h=>?_⟩
  ·show zfY c a.head? b (zpf a b).1 (zpf a b).2 = _
   cases a with
   | nil=>rw [ih.1]; exact zly c b _
   | cons c2 a=>rw [ih.1,ih.2 c2 a rfl]; exact zjG c c2 a b
  ·cases h; exact ih.1
theorem zwK (a b : List Nat) : zyq a b = zde a b:=by unfold zyq; rw [(zpg a b).1,zfj]
theorem zwH (c : Nat) (c2 : Option Nat) (d : Nat) (d2 : Option Nat) (x1 x2 y1 z : Nat) : ziJ c c2 d d2 x1 x2 y1 z <= zhT c d x1 x2 y1:=by
 unfold ziJ
 split
 ·exact Nat.min_le_left _ _
 ·exact lQ _
end
section
open Go.RowKit
def ztQ : Value:=.agg #[.int .i64 1,.int .i64 1,.int .i64 1,.int .i64 1]
theorem zsT : ∀ k : Nat,k < 4 -> ∀ W : World,Sem.run Tryz.prog (Instr.index 306 (.agg #[.int .i64 1,.int .i64 1,.int .i64 1,.int .i64 1]) (.int .i64 (k : Int))) W = .ok (.int .i64 1) W
 | 0,_,_=>by kernel_rfl
 | 1,_,_=>by kernel_rfl
 | 2,_,_=>by kernel_rfl
 | 3,_,_=>by kernel_rfl
 | n + 4,h,_=>absurd h (by omega)
theorem zpX (w : World) : Calls Tryz.prog 238 #[ztQ] w fun e w'=>e = .returned (.bool true) /\ Below w.heap.size w w':=by
 have hb : Below w.heap.size w (w.alloc (.cells #[.int .i64 1,.int .i64 1,.int .i64 1,.int .i64 1] 259)):=(Below.refl _ _).alloc (lQ _) _;unfold ztQ;go_enter Tryz.func238,Tryz.ntmps238;go_wp2
 go_loop [14] (fun iv=>∃ k : Nat,k <= 4 /\ iv = .int .i64 k) (fun iv=>4 - (intOf iv).toNat)
 case atStart=>exact ⟨0,by omega,rfl⟩
 case round=>
  obtain ⟨k,hk,rfl⟩:=hrel;have n0 : (0 : Int) <= (k : Int):=by omega
  by_cases hlt : k < 4
  ·have n1 : (k : Int) < 4:=by omega
   have hix:=zsT k hlt;go_wp2
   go_round
   case rel=>exact ⟨k + 1,by omega,by go_num⟩
   case measure=>simp [intOf]; omega
  ·obtain rfl : k = 4:=by omega
   go_wp2;go_ret;exact ⟨rfl,hb⟩
def znd (a b : ByteArray) : Int:=if 60 < a.size \/ 60 < b.size then 3 else 0
theorem zpQ (a b : ByteArray) (w : World) : Calls Tryz.prog 221 #[.string a,.string b,ztQ] w fun e w'=>e = .returned (.int .i64 (znd a b)) /\ Below w.heap.size w w':=by
 have hb : Below w.heap.size w (w.alloc (.cells #[.int .i64 1,.int .i64 1,.int .i64 1,.int .i64 1] 259)):=(Below.refl _ _).alloc (lQ _) _;have hc:=Hd (zpX (w.alloc (.cells #[.int .i64 1,.int .i64 1,.int .i64 1,.int .i64 1] 259)));have hd : Hid (znd a b = if 60 < a.size \/ 60 < b.size then 3 else 0):=Hd rfl;unfold ztQ at *;go_enter Tryz.func221,Tryz.ntmps221;go_wp2_with fail;refine hc.out.mono ?_;rintro e w' ⟨rfl,hb2⟩;have hend:=hb.trans (hb2.mono hb.size);clear hc hb2;by_cases h1 : 60 < a.size
 ·have e1 : decide ((60 : Int) < (a.size : Int)) = true:=decide_eq_true (by omega)
  rw [if_pos (.inl h1)] at hd;clear h1;go_wp2;go_ret;exact ⟨zbO hd.out.symm,hend⟩
 ·have e1 : decide ((60 : Int) < (a.size : Int)) = false:=decide_eq_false (by omega)
  by_cases h2 : 60 < b.size
  ·have e2 : decide ((60 : Int) < (b.size : Int)) = true:=decide_eq_true (by omega)
   rw [if_pos (.inr h2)] at hd;clear h1 h2;go_wp2;go_ret;exact ⟨zbO hd.out.symm,hend⟩
  ·have e2 : decide ((60 : Int) < (b.size : Int)) = false:=decide_eq_false (by omega)
   rw [if_neg (by omega)] at hd;clear h1 h2;go_wp2;go_ret;exact ⟨zbO hd.out.symm,hend⟩
def zcI (s : ByteArray) (i : Nat) : Nat:=(s.data.toList.getD i 0).toNat
theorem zdG (s : ByteArray) (i : Nat) (h : i < s.size) : zcI s i = (s[i]'h).toNat:=by
 unfold zcI;rw [zD _ _ _ (by simpa using h)];rfl
def zhL (a b : ByteArray) : Bool:=decide (1 < a.size) && decide (1 < b.size) && (zcI a 0 == zcI b 1) && (zcI a 1 == zcI b 0) && (zcI a 0 != zcI a 1)
theorem zga (a b : ByteArray) (w : World) : Calls Tryz.prog 246 #[.string a,.string b] w fun e w'=>e = .returned (.bool (zhL a b)) /\ ∃ n,w' = w.drewN n:=by
 have hd : Hid (zhL a b = (decide (1 < a.size) && decide (1 < b.size) && (zcI a 0 == zcI b 1) && (zcI a 1 == zcI b 0) && (zcI a 0 != zcI a 1))):=Hd rfl;by_cases h1 : 1 < a.size
 ·have e1 : decide ((1 : Int) < (a.size : Int)) = true:=decide_eq_true (by omega)
  have a0 : 0 < a.size:=by omega
  by_cases h2 : 1 < b.size
  ·have e2 : decide ((1 : Int) < (b.size : Int)) = true:=decide_eq_true (by omega)
   have b0 : 0 < b.size:=by omega
   rw [zdG a 0 a0,zdG a 1 h1,zdG b 0 b0,zdG b 1 h2,decide_eq_true h1,decide_eq_true h2] at hd;have i1 : (1 : Int) < (a.size : Int):=by omega
   have i2 : (1 : Int) < (b.size : Int):=by omega
   cases x1 : (((a[0]'a0).toNat : Int) == ((b[1]'h2).toNat : Int)) with
   | false=>
    have y1 : ((a[0]'a0).toNat == (b[1]'h2).toNat) = false:=by simp at x1 ⊢; omega
    rw [y1] at hd;clear y1;go_enter Tryz.func246,Tryz.ntmps246;go_wp2_with fail
    go_quiet (fail)
    go_wp2;go_ret;exact ⟨zf (by rw [hd.out]; rfl),_,rfl⟩
   | true=>
    have y1 : ((a[0]'a0).toNat == (b[1]'h2).toNat) = true:=by simp at x1 ⊢; omega
    rw [y1] at hd;clear y1
    cases x2 : (((a[1]'h1).toNat : Int) == ((b[0]'b0).toNat : Int)) with
    | false=>
     have y2 : ((a[1]'h1).toNat == (b[0]'b0).toNat) = false:=by simp at x2 ⊢; omega
     rw [y2] at hd;clear y2;go_enter Tryz.func246,Tryz.ntmps246;go_wp2_with fail
     go_quiet (fail)
     go_wp2;go_ret;exact ⟨zf (by rw [hd.out]; rfl),_,rfl⟩
    | true=>
     have y2 : ((a[1]'h1).toNat == (b[0]'b0).toNat) = true:=by simp at x2 ⊢; omega
     rw [y2] at hd;clear y2
     cases x3 : (((a[0]'a0).toNat : Int) != ((a[1]'h1).toNat : Int)) with
     | false=>
      have y3 : ((a[0]'a0).toNat != (a[1]'h1).toNat) = false:=by simp at x3 ⊢; omega
      rw [y3] at hd;clear y3;go_enter Tryz.func246,Tryz.ntmps246;go_wp2_with fail
      go_quiet (fail)
      go_wp2;go_ret;exact ⟨zf (by rw [hd.out]; rfl),_,rfl⟩
     | true=>
      have y3 : ((a[0]'a0).toNat != (a[1]'h1).toNat) = true:=by simp at x3 ⊢; omega
      rw [y3] at hd;clear y3;go_enter Tryz.func246,Tryz.ntmps246;go_wp2_with fail
      go_quiet (fail)
      go_wp2;go_ret;exact ⟨zf (by rw [hd.out]; rfl),_,rfl⟩
  ·have e2 : decide ((1 : Int) < (b.size : Int)) = false:=decide_eq_false (by omega)
   rw [decide_eq_true h1,decide_eq_false h2] at hd;clear h2;go_enter Tryz.func246,Tryz.ntmps246;go_wp2_with fail
   go_quiet (fail)
   go_wp2;go_ret;exact ⟨zf (by rw [hd.out]; rfl),_,rfl⟩
 ·have e1 : decide ((1 : Int) < (a.size : Int)) = false:=decide_eq_false (by omega)
  rw [decide_eq_false h1] at hd;clear h1;go_enter Tryz.func246,Tryz.ntmps246;go_wp2_with fail
  go_quiet (fail)
  go_wp2;go_ret;exact ⟨zf (by rw [hd.out]; rfl),_,rfl⟩
theorem znp (g d n c : Nat) (x : Int) (w : World) (hc : w.cell? ⟨g,0,none⟩ = some (.int .i64 x)) (hn : 0 < n) (hd : ∃ u,w.cell? ⟨d,0,none⟩ = some u) (hf : w.frozen? ⟨d,0,none⟩ = false) :
  Calls Tryz.prog 223 #[.slice (some ⟨g,0,none⟩) n c,.pointer (some ⟨d,0,none⟩)] w fun e w'=>e = .returned (.tuple #[]) /\ w' = w.setCell ⟨d,0,none⟩ (.int .i64 x):=by
 obtain ⟨u,hu⟩:=hd;have n0 : (0 : Int) < (n : Int):=by omega
 go_enter Tryz.func223,Tryz.ntmps223;go_wp2
 go_end0
 exact ⟨rfl,rfl⟩
end
section
open Go.RowKit
theorem zgw {s : ByteArray} : s.toList.isEmpty = decide (s.size = 0):=by
 rw [Lib.toList_data]
 cases h : s.data.toList with
 | nil=>
  have : s.size = 0:=by show s.data.size = 0; rw [<- Array.length_toList,h]; rfl
  simp [this]
 | cons a l=>
  have : s.size ≠ 0:=by show s.data.size ≠ 0; rw [<- Array.length_toList,h]; simp
  simp [this]
def zbr (s : ByteArray) : List Nat:=s.data.toList.map (·.toNat)
structure zrw (w : World) (gT g0 g1 g2 n j bs : Nat) (x1 x2 y1 z : Nat) : Prop where
 t0 : w.cell? ⟨gT,0,none⟩ = some (.slice (some ⟨g0,0,none⟩) (n + 1) (n + 1))
 t1 : w.cell? ⟨gT,1,none⟩ = some (.slice (some ⟨g1,0,none⟩) (n + 1) (n + 1))
 t2 : w.cell? ⟨gT,2,none⟩ = some (.slice (some ⟨g2,0,none⟩) (n + 1) (n + 1))
 c1 : w.cell? ⟨g1,j,none⟩ = some (.int .i64 (x1 : Int))
 c2 : w.cell? ⟨g1,j + 1,none⟩ = some (.int .i64 (x2 : Int))
 c3 : w.cell? ⟨g0,j + 1,none⟩ = some (.int .i64 (y1 : Int))
 c4 : 1 < bs -> w.cell? ⟨g2,j + 2,none⟩ = some (.int .i64 (z : Int))
def zee (a b : ByteArray) (x1 x2 y1 z : Nat) : Nat:=
 if a.size = 0 then b.size else if b.size = 0 then a.size
 else if zhL a b then min (zhT (zcI a 0) (zcI b 0) x1 x2 y1) (z + 1) else zhT (zcI a 0) (zcI b 0) x1 x2 y1
theorem zvd (a b : ByteArray) (gT j : Nat) (w : World) (ha : a.size <= 1000) (hb1 : b.size <= 1000) (h : a.size = 0 \/ b.size = 0) :
  Calls Tryz.prog 239 #[.string a,.string b,ztQ,.pointer (some ⟨gT,0,none⟩),.int .i64 j] w fun e w'=>e = .returned (.int .i64 ((zee a b 0 0 0 0 : Nat) : Int)) /\ Below w.heap.size w w':=by
 have hb : Below w.heap.size w (w.alloc (.cells #[.int .i64 1,.int .i64 1,.int .i64 1,.int .i64 1] 259)):=(Below.refl _ _).alloc (lQ _) _;unfold ztQ;by_cases h0 : a.size = 0
 ·have e0 : a.toList.isEmpty = true:=by rw [zgw]; exact decide_eq_true h0
  have hd : Hid (zee a b 0 0 0 0 = b.size):=Hd (by unfold zee; rw [if_pos h0]);clear h h0;go_enter Tryz.func239,Tryz.ntmps239;go_wp2;go_ret;exact ⟨zbO (by rw [hd.out]),hb⟩
 ·have h1 : b.size = 0:=by omega
  have e0 : a.toList.isEmpty = false:=by rw [zgw]; exact decide_eq_false h0
  have e1 : b.toList.isEmpty = true:=by rw [zgw]; exact decide_eq_true h1
  have hd : Hid (zee a b 0 0 0 0 = a.size):=Hd (by unfold zee; rw [if_neg h0,if_pos h1]);clear h h0 h1;go_enter Tryz.func239,Tryz.ntmps239;go_wp2;go_ret;exact ⟨zbO (by rw [hd.out]),hb⟩
theorem zsX (a b : ByteArray) (gT g0 g1 g2 n j : Nat) (x1 x2 y1 z : Nat) (w : World) (ha : 0 < a.size) (hb1 : 0 < b.size) (hj : j + b.size = n) (hn : n <= 1000) (hx1 : x1 <= 1000) (hx2 : x2 <= 1000) (hy1 : y1 <= 1000) (hz : z <= 1000)
  (hm : zrw w gT g0 g1 g2 n j b.size x1 x2 y1 z) :
  Calls Tryz.prog 239 #[.string a,.string b,ztQ,.pointer (some ⟨gT,0,none⟩),.int .i64 j] w fun e w'=>e = .returned (.int .i64 ((zee a b x1 x2 y1 z : Nat) : Int)) /\ Below w.heap.size w w':=by
 have hb : Below w.heap.size w (w.alloc (.cells #[.int .i64 1,.int .i64 1,.int .i64 1,.int .i64 1] 259)):=(Below.refl _ _).alloc (lQ _) _;have e0 : a.toList.isEmpty = false:=by rw [zgw]; exact decide_eq_false (by omega)
 have e1 : b.toList.isEmpty = false:=by rw [zgw]; exact decide_eq_false (by omega)
 have hd : Hid (zee a b x1 x2 y1 z = if zhL a b then min (zhT (zcI a 0) (zcI b 0) x1 x2 y1) (z + 1) else zhT (zcI a 0) (zcI b 0) x1 x2 y1):=Hd (by unfold zee; rw [if_neg (by omega),if_neg (by omega)]);have hd3 : Hid (zhT (zcI a 0) (zcI b 0) x1 x2 y1 = min (x2 + (if zcI a 0 = zcI b 0 then 0 else 1)) (min (x1 + 1) (y1 + 1))):=Hd rfl;rw [zdG a 0 ha,zdG b 0 hb1] at hd3;obtain ⟨t0,t1,t2,c1,c2,c3,c4⟩:=hm
 have old : ∀ g o v,w.cell? ⟨g,o,none⟩ = some v -> ∀ ob,(w.alloc ob).cell? ⟨g,o,none⟩ = some v:=fun g o v h ob=>by
  rw [World.cell?_alloc_old _ _ _ (Nat.ne_of_lt (World.block_lt_of_cell? _ _ h))]; exact h
 have d0:=old _ _ _ t0;have d1:=old _ _ _ t1;have d2:=old _ _ _ t2;have d3:=old _ _ _ c1;have d4:=old _ _ _ c2;have d5:=old _ _ _ c3;have d6:=Hd (fun h=>old _ _ _ (c4 h));have i0 : (0 : Int) < (a.size : Int):=by omega
 have i1 : (0 : Int) < (b.size : Int):=by omega
 have j0 : (0 : Int) <= (j : Int):=by omega
 have j1 : (j : Int) + 1 < (n : Int) + 1:=by omega
 have j2 : (j : Int) < (n : Int) + 1:=by omega
 have j3 : (j : Int) <= 1000:=by omega
 have j4 : ((j : Int) + 1).toNat = j + 1:=by omega
 have j5 : (0 : Int) <= (j : Int) + 1:=by omega
 have k1 : (x1 : Int) <= 1000:=by omega
 have k2 : (x2 : Int) <= 1000:=by omega
 have k3 : (y1 : Int) <= 1000:=by omega
 have k4 : (z : Int) <= 1000:=by omega
 clear old t0 t1 t2 c1 c2 c3 c4;unfold ztQ;by_cases he : (a[0]'ha).toNat = (b[0]'hb1).toNat
 ·have q1 : (((a[0]'ha).toNat : Int) != ((b[0]'hb1).toNat : Int)) = false:=by simp; omega
  have hd3' : Hid (zhT (zcI a 0) (zcI b 0) x1 x2 y1 = min (x2 + 0) (min (x1 + 1) (y1 + 1))):=Hd (by rw [zdG a 0 ha,zdG b 0 hb1,hd3.out,if_pos he])
  cases hs : zhL a b with
  | false=>
   have hsw : Hid (∀ W,Calls Tryz.prog 246 #[.string a,.string b] W fun e w'=>e = .returned (.bool false) /\ ∃ n,w' = W.drewN n):=Hd fun W=>by have:=zga a b W; rwa [hs] at this
   have hfin : Hid (zee a b x1 x2 y1 z = min (x2 + 0) (min (x1 + 1) (y1 + 1))):=Hd (by rw [hd.out,hs]; exact hd3'.out);clear he hs;go_enter Tryz.func239,Tryz.ntmps239;go_wp2_with fail
   go_quiet (fail)
   go_wp2_with fail
   go_quiet (fail)
   go_wp2_with fail
   all_goals
    refine (hsw.out _).mono ?_;rintro e w2 ⟨rfl,n2,rfl⟩;go_wp2;go_ret;exact ⟨zbO (by rw [hfin.out]; omega),zmY hb _⟩
  | true=>
   have hsw : Hid (∀ W,Calls Tryz.prog 246 #[.string a,.string b] W fun e w'=>e = .returned (.bool true) /\ ∃ n,w' = W.drewN n):=Hd fun W=>by have:=zga a b W; rwa [hs] at this
   have hfin : Hid (zee a b x1 x2 y1 z = min (min (x2 + 0) (min (x1 + 1) (y1 + 1))) (z + 1)):=Hd (by rw [hd.out,hs,hd3'.out]; rfl);have hb2 : 1 < b.size:=by unfold zhL at hs; simp at hs; exact hs.1.1.1.2
   have d7:=d6.out hb2;have j6 : ((j : Int) + 2).toNat = j + 2:=by omega
   have j7 : (0 : Int) <= (j : Int) + 2:=by omega
   have j8 : (j : Int) + 2 < (n : Int) + 1:=by omega
   clear he hs;go_enter Tryz.func239,Tryz.ntmps239;go_wp2_with fail
   go_quiet (fail)
   go_wp2_with fail
   go_quiet (fail)
   go_wp2_with fail
   all_goals
    refine (hsw.out _).mono ?_;rintro e w2 ⟨rfl,n2,rfl⟩;go_wp2_with fail
    go_quiet (fail)
    go_wp2
    all_goals
     go_ret;exact ⟨zbO (by rw [hfin.out]; omega),zmY hb _⟩
 ·have q1 : (((a[0]'ha).toNat : Int) != ((b[0]'hb1).toNat : Int)) = true:=by simp; omega
  have hd3' : Hid (zhT (zcI a 0) (zcI b 0) x1 x2 y1 = min (x2 + 1) (min (x1 + 1) (y1 + 1))):=Hd (by rw [zdG a 0 ha,zdG b 0 hb1,hd3.out,if_neg he])
  cases hs : zhL a b with
  | false=>
   have hsw : Hid (∀ W,Calls Tryz.prog 246 #[.string a,.string b] W fun e w'=>e = .returned (.bool false) /\ ∃ n,w' = W.drewN n):=Hd fun W=>by have:=zga a b W; rwa [hs] at this
   have hfin : Hid (zee a b x1 x2 y1 z = min (x2 + 1) (min (x1 + 1) (y1 + 1))):=Hd (by rw [hd.out,hs]; exact hd3'.out);clear he hs;go_enter Tryz.func239,Tryz.ntmps239;go_wp2_with fail
   go_quiet (fail)
   go_wp2_with fail
   go_quiet (fail)
   go_wp2_with fail
   all_goals
    refine (hsw.out _).mono ?_;rintro e w2 ⟨rfl,n2,rfl⟩;go_wp2;go_ret;exact ⟨zbO (by rw [hfin.out]; omega),zmY hb _⟩
  | true=>
   have hsw : Hid (∀ W,Calls Tryz.prog 246 #[.string a,.string b] W fun e w'=>e = .returned (.bool true) /\ ∃ n,w' = W.drewN n):=Hd fun W=>by have:=zga a b W; rwa [hs] at this
   have hfin : Hid (zee a b x1 x2 y1 z = min (min (x2 + 1) (min (x1 + 1) (y1 + 1))) (z + 1)):=Hd (by rw [hd.out,hs,hd3'.out]; rfl);have hb2 : 1 < b.size:=by unfold zhL at hs; simp at hs; exact hs.1.1.1.2
   have d7:=d6.out hb2;have j6 : ((j : Int) + 2).toNat = j + 2:=by omega
   have j7 : (0 : Int) <= (j : Int) + 2:=by omega
   have j8 : (j : Int) + 2 < (n : Int) + 1:=by omega
   clear he hs;go_enter Tryz.func239,Tryz.ntmps239;go_wp2_with fail
   go_quiet (fail)
   go_wp2_with fail
   go_quiet (fail)
   go_wp2_with fail
   all_goals
    refine (hsw.out _).mono ?_;rintro e w2 ⟨rfl,n2,rfl⟩;go_wp2_with fail
    go_quiet (fail)
    go_wp2
    all_goals
     go_ret;exact ⟨zbO (by rw [hfin.out]; omega),zmY hb _⟩
end
section
open Go.RowKit
theorem zdI (s : ByteArray) : (zbr s).length = s.size:=by simp [zbr]
theorem zet (s : ByteArray) (i : Nat) : zcI s i = (zbr s).getD i 0:=by
 unfold zcI zbr;rw [List.getD_eq_getElem?_getD,List.getD_eq_getElem?_getD,List.getElem?_map];cases s.data.toList[i]? <;> rfl
theorem zyU (a b : ByteArray) (c d : Nat) (a' b' : List Nat) (ha : zbr a = c :: a') (hb : zbr b = d :: b') : zhL a b = zpr c a'.head? d b'.head?:=by
 have la:=zdI a;have lb:=zdI b;unfold zhL zpr;rw [zet,zet,zet,zet,<- la,<- lb,ha,hb]
 cases a' with
 | nil=>simp
 | cons c2 a'=>
  cases b' with
  | nil=>simp
  | cons d2 b'=>
   simp only [List.getD_cons_zero,List.getD_cons_succ,List.length_cons,List.head?_cons];rw [Bool.eq_iff_iff];simp;omega
theorem zsY (a b : ByteArray) (ha : 0 < a.size) (hb : 0 < b.size) (z : Nat) (hz : zhL a b = true -> z = zde (zbr a).tail.tail (zbr b).tail.tail) :
  zee a b (zde (zbr a).tail (zbr b)) (zde (zbr a).tail (zbr b).tail) (zde (zbr a) (zbr b).tail) z = zde (zbr a) (zbr b):=by
 have la:=zdI a;have lb:=zdI b;unfold zee;rw [if_neg (by omega),if_neg (by omega),zet,zet]
 cases e1 : zbr a with
 | nil=>rw [e1] at la; simp at la; omega
 | cons c a'=>
  cases e2 : zbr b with
  | nil=>rw [e2] at lb; simp at lb; omega
  | cons d b'=>
   rw [zgv];unfold ziJ;rw [<- zyU a b c d a' b' e1 e2];simp only [List.getD_cons_zero,List.tail_cons]
   cases hs : zhL a b with
   | false=>rfl
   | true=>rw [hz hs,e1,e2]; rfl
theorem zlU (a b : ByteArray) (h : a.size = 0 \/ b.size = 0) : zee a b 0 0 0 0 = zde (zbr a) (zbr b):=by
 have la:=zdI a;have lb:=zdI b;unfold zee;by_cases h0 : a.size = 0
 ·rw [if_pos h0]
  rw [h0] at la;rw [List.length_eq_zero_iff.1 la,zde,lb]
 ·rw [if_neg h0,if_pos (by omega)]
  have hb0 : b.size = 0:=by omega
  rw [hb0] at lb;rw [List.length_eq_zero_iff.1 lb,zrF,la]
theorem zoJ (s : ByteArray) (i : Nat) (_h : i <= s.size) : zbr (s.extract i s.size) = (zbr s).drop i:=by
 unfold zbr;rw [Lib.extract_to_end,List.map_drop]
def rowD (A B : List Nat) (i : Nat) : List Nat:=(List.range (B.length + 1)).map fun j=>zde (A.drop i) (B.drop j)
theorem znE (A B : List Nat) (i j : Nat) (h : j <= B.length) : (rowD A B i)[j]? = some (zde (A.drop i) (B.drop j)):=by
 unfold rowD;rw [List.getElem?_map,List.getElem?_range (by omega)]; rfl
theorem zkK : ∀ (A B : List Nat),zde A B <= A.length + B.length
 | [],B=>by rw [zde]; simp
 | c :: A,[]=>by rw [zde]; simp
 | c :: A,d :: B=>by
  have ih:=zkK A (d :: B);have h:=zwH c A.head? d B.head? (zde A (d :: B)) (zde A B) (zde (c :: A) B) (zde A.tail B.tail);rw [zgv];unfold zhT at h;simp at ih ⊢;omega
def zbG (l : List Nat) : Array Value:=(l.map fun x=>Value.int .i64 ((x : Nat) : Int)).toArray
def ziH (w : World) (g : Nat) (l : List Nat) : Prop:=Blk w g 3 (zbG l)
theorem ziH.cell {w : World} {g : Nat} {l : List Nat} (h : ziH w g l) {i x : Nat} (hx : l[i]? = some x) : w.cell? ⟨g,i,none⟩ = some (.int .i64 (x : Int)):=by
 rw [Blk.cell h i];simp [zbG,hx]
theorem ziH.set {w : World} {g : Nat} {l : List Nat} (h : ziH w g l) (i x : Nat) : ziH (w.setCell ⟨g,i,none⟩ (.int .i64 (x : Int))) g (l.set i x):=by
 have:=Blk.set_ h i (.int .i64 (x : Int));unfold ziH;rw [show zbG (l.set i x) = (zbG l).setIfInBounds i (.int .i64 (x : Int)) from by simp [zbG,List.map_set]];exact this
end
end Go.Proofs.YtggimnndflkjkaaGreatDoor
