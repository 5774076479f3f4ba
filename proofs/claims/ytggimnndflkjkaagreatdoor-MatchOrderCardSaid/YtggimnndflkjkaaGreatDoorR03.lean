import Derived.Test.YtggimnndflkjkaaGreatDoorR01
import Derived.Test.YtggimnndflkjkaaGreatDoorR02
import Derived.Lib.AppendStr
import Derived.Laws.IdiomStrings
set_option linter.all false
set_option maxRecDepth 100000
set_option maxHeartbeats 0
namespace Go.Proofs.YtggimnndflkjkaaGreatDoor
section
open Go.RowKit Go.Maps
def zcR (b : UInt8) : Value:=.int .u8 (b.toNat : Int)
def zgf (s : ByteArray) : Nat -> Bool × List UInt8
 | 0=>(false,[])
 | i + 1=>if zU s i = 32 then (true,(zgf s i).2) else (false,((zgf s i).2 ++ (if (zgf s i).1 = true /\ 0 < (zgf s i).2.length then [32] else [])) ++ [UInt8.ofNat (zU s i)])
def zhk (s : ByteArray) : ByteArray:=⟨(zgf s s.size).2.toArray⟩
def zkv (s : ByteArray) : Prop:=∀ i,i < s.size -> zvE (zU s i) \/ zU s i = 32
theorem zmw (s : ByteArray) : ∀ i,(zgf s i).2.length <= 2 * i
 | 0=>lQ _
 | i + 1=>by
  have:=zmw s i;unfold zgf
  split
  ·simp only []; omega
  ·simp only []
   split
   ·simp; omega
   ·simp; omega
theorem zut (s : ByteArray) (i : Nat) (h : i < s.size) : Lib.strCells (s.extract i (i + 1)) = [zcR (UInt8.ofNat (zU s i))] /\ (s.extract i (i + 1)).size = 1:=by
 have hsz : (s.extract i (i + 1)).size = 1:=by rw [ByteArray.size_extract]; omega
 refine ⟨?_,hsz⟩;have hb : zU s i = (s[i]'h).toNat:=by unfold zU; rw [dif_pos h]
 have hl:=Lib.strCells_length (s.extract i (i + 1));rw [hsz] at hl;obtain ⟨c,hc⟩:=List.length_eq_one_iff.1 hl;rw [hc];have h0 : (Lib.strCells (s.extract i (i + 1)))[0]? = some c:=by rw [hc]; rfl
 unfold Lib.strCells at h0;rw [List.getElem?_map,Array.getElem?_toList] at h0
 have h1 : (s.extract i (i + 1)).data[0]? = some s[i]:=by
  rw [ByteArray.data_extract,Array.getElem?_extract];simp;exact ⟨by omega,Array.getElem?_eq_getElem h⟩
 rw [h1] at h0;simp only [Option.map_some,Option.some.injEq] at h0;rw [<- h0,hb];simp [zcR]
theorem zzU : (Tryz.prog.info? 5).map (fun i=>(i.zero,i.size,i.bytes)) = some (some (.int .u8 0),1,1):=by kernel_rfl
theorem zkR {B g cap : Nat} {l : List UInt8} {cb : UInt8} {z : ByteArray} {v3 : Value} {w3 : World} (hz : Lib.strCells z = [zcR cb]) (hz1 : z.size = 1)
  (hown3 : w3.ownsRow B 5 1 v3 (l.length + z.size) (l.map zcR ++ Lib.strCells z)) (hnn3 : v3 = .slice none 0 0 ↔ Value.slice (some ⟨g,0,none⟩) l.length cap = .slice none 0 0 /\ z.size = 0) :
  ∃ g3 cap3,v3 = .slice (some ⟨g3,0,none⟩) (l ++ [cb]).length cap3 /\ Hid (w3.ownsRow B 5 1 (.slice (some ⟨g3,0,none⟩) (l ++ [cb]).length cap3) (l ++ [cb]).length ((l ++ [cb]).map zcR)):=by
 have e1 : l.length + z.size = (l ++ [cb]).length:=by simp [hz1]
 have e2 : l.map zcR ++ Lib.strCells z = (l ++ [cb]).map zcR:=by rw [hz]; simp
 rw [e1,e2] at hown3;rcases hown3.2 with ⟨e,_⟩ | ⟨g3,cap3,cur,e,_⟩
 ·exact absurd (hnn3.1 e).1 (by simp)
 ·subst e
  exact ⟨g3,cap3,rfl,Hd hown3⟩
theorem zwS (s : ByteArray) (w : World) (hsz : s.size <= 1000000) (hpl : zkv s) :
  Calls Tryz.prog 187 #[.string s] w fun e w'=>e = .returned (.string (zhk s)) /\ Below w.heap.size w w':=by
 obtain ⟨i0,hi0,hz0,hz1,hz2⟩:=info_parts zzU;have hW1 : Below w.heap.size w (w.alloc (.cells #[.string s] 9)):=(Below.refl _ _).alloc (lQ _) _;have b1 : Blk (w.alloc (.cells #[.string s] 9)) w.heap.size 9 #[.string s]:=Blk.new _ _ _;obtain ⟨wM,hmk,hownM,hgrM⟩:=run_make_own (P:=Tryz.prog) (w.alloc (.cells #[.string s] 9)) (w.heap.size + 1) 22 5 i0 _ 1 Tryz.underlying22 hi0 hz0 hz1 .i64 .i64 s.size (by rw [hz2]; omega) (by unfold maxLen; omega) (by simp);have hbM : Below w.heap.size w wM:=hW1.grown hgrM (by simp) (fun _ e=>by cases e);have hbM1 : Below (w.heap.size + 1) (w.alloc (.cells #[.string s] 9)) wM:=(Below.refl _ _).grown hgrM (by simp) (fun _ e=>by cases e);have hc0:=b1.cell 0;have hbk:=Hd (b1.below hbM1 (by omega));have hoM:=Hd hownM;have hpl':=Hd hpl;clear hownM hgrM b1 hpl;simp at hc0;rw [show (w.alloc (.cells #[.string s] 9)).heap.size = w.heap.size + 1 from by simp] at hmk hoM;go_enter Tryz.func187,Tryz.ntmps187;go_wp2
 go_loopw [4,5,6] (fun ov bv iv wr=>∃ (k g cap : Nat) (ap : Bool) (l : List UInt8),k <= s.size /\ iv = .int .i64 k /\ bv = .bool ap /\ ov = .slice (some ⟨g,0,none⟩) l.length cap /\ Below w.heap.size w wr /\ Hid (Blk wr w.heap.size 9 #[.string s]) /\ Hid (wr.ownsRow (w.heap.size + 1) 5 1 (.slice (some ⟨g,0,none⟩) l.length cap) l.length (l.map zcR)) /\ Hid (zgf s k = (ap,l)))
  (fun _ _ iv _=>s.size - (intOf iv).toNat)
 case atStart=>exact ⟨0,w.heap.size + 1,s.size,false,[],by omega,rfl,rfl,rfl,hbM,hbk,hoM,Hd rfl⟩
 case round=>
  obtain ⟨k,g,cap,ap,l,hk,rfl,rfl,rfl,hbw,hbk2,hown,hl⟩:=hrel;rename World=>wr;have n0 : (0 : Int) <= (k : Int):=by omega
  have c0:=hbk2.out.cell 0;simp at c0;have hsM:=hbM1.size;simp at hsM;have hll : l.length <= 2000000:=by have:=zmw s k; rw [hl.out] at this; simp only [] at this; omega
  have hs0:=hbw.size;have hg:=hown.out.lt g rfl;by_cases hlt : k < s.size
  ·have n1 : (k : Int) < (s.size : Int):=by omega
   have hbec:=Hd (zpP s k hlt w.heap.size wr hsz c0 (hpl'.out k hlt));go_wp2_with fail;refine hbec.out.mono ?_;rintro e w' ⟨rfl,rfl⟩;clear hbec;by_cases h32 : zU s k = 32
   ·have hnx : Hid (zgf s (k + 1) = (true,l)):=Hd (by rw [zgf,if_pos h32,hl.out])
    rw [show zuk s k = ⟨#[]⟩ from if_pos h32];clear h32;go_wp2;go_roundw
    case rel=>exact ⟨k + 1,g,cap,true,l,by omega,by go_num,rfl,rfl,hbw,hbk2,hown,hnx⟩
    case measure=>simp [intOf]; omega
   ·rw [show zuk s k = s.extract k (k + 1) from if_neg h32]
    have hnx : Hid (zgf s (k + 1) = (false,(l ++ (if ap = true /\ 0 < l.length then [32] else [])) ++ [UInt8.ofNat (zU s k)])):=Hd (by rw [zgf,if_neg h32,hl.out]);obtain ⟨hzc,hz1s⟩:=zut s k hlt;have hzc':=Hd hzc;generalize UInt8.ofNat (zU s k) = cb at hzc' hnx;clear h32 hzc;generalize s.extract k (k + 1) = z at hzc' hz1s ⊢;have hzn : z ≠ ⟨#[]⟩:=by rintro rfl; exact absurd hz1s (by decide)
    have bz : z.toList.isEmpty = false:=by
     cases e : z.toList.isEmpty
     ·rfl
     ·exact absurd (zvW e) hzn
    clear hzn;by_cases hap : ap = true /\ 0 < l.length
    ·rw [if_pos hap] at hnx
     obtain ⟨rfl,h0⟩:=hap;have hal:=Hd (hown.out.alloc (.cells #[.int .u8 32] 5));have hbA:=hbw.alloc hs0 (.cells #[.int .u8 32] 5);have hkA:=Hd (hbk2.out.alloc (.cells #[.int .u8 32] 5));have hsA : (w'.alloc (.cells #[.int .u8 32] 5)).heap.size = w'.heap.size + 1:=by simp
     go_wp2_with (at_builtin; first | (refine wpList_append_lies _ rfl (.tmp 34) (.tmp 35) 22 rfl (w.heap.size + 1) 5 i0 (.int .u8 0) 1 1 Tryz.underlying22 hi0 hz0 hz1 hz2 rfl (by decide) (.slice (some ⟨g,0,none⟩) l.length cap) l.length (l.map zcR) rfl (by exact hal.out) ⟨w'.heap.size,0,none⟩ 1 1 [.int .u8 32] rfl rfl (by exact World.news_of_block (cs:=#[.int .u8 32]) (heap_alloc_new _ _)) (zzO rfl) Nat.one_pos (by unfold maxLen; omega) (by omega) (by simp; omega) (w'.heap.size + 1) (by simp) ?_; intro g2 cap2 w2 hown2 hgr2 hat2 hlt2) | (refine Lib.wpList_append_own_string (P:=Tryz.prog) _ rfl (.tmp 37) (.tmp 38) 22 9 rfl (w.heap.size + 1) 5 i0 Tryz.underlying22 Tryz.underlying9 hi0 hz0 hz1 hz2 (.slice (some ⟨g2,0,none⟩) (l.length + 1) cap2) (l.length + 1) (l.map zcR ++ [.int .u8 32]) rfl (by exact hown2) z rfl (by rw [hz1s]; unfold maxLen; omega) (by rw [hz1s]; omega) (by have:=hgr2.size; omega) ?_; intro v3 w3 hown3 hgr3 hnn3));have hs2:=hgr2.size;have hg2:=hown2.lt g2 rfl;obtain ⟨g3,cap3,rfl,ho3⟩:=zkR (g:=g2) (cap:=cap2) (l:=l ++ [32]) hzc'.out hz1s (by rw [List.length_append,List.map_append]; exact hown3) (by rw [List.length_append]; exact hnn3);have hb3:=(hbA.grown hgr2 (by omega) (fun j e=>by simp [Value.ownBlock] at e; omega)).grown hgr3 (by omega) (fun j e=>by simp [Value.ownBlock] at e; omega);have hk3:=Hd ((hkA.out.grown hgr2 (by simp [Value.ownBlock]; omega)).grown hgr3 (by simp [Value.ownBlock]; omega));clear hown3 hnn3 hgr3 hown2 hgr2 hat2 hlt2;go_roundw
     case rel=>exact ⟨k + 1,g3,cap3,false,_,by omega,by go_num,rfl,rfl,hb3,hk3,ho3,hnx⟩
     case measure=>simp [intOf]; omega
    ·rw [if_neg hap,List.append_nil] at hnx
     cases ap with
     | false=>
      clear hap;go_wp2_with (at_builtin; refine Lib.wpList_append_own_string (P:=Tryz.prog) _ rfl (.tmp 37) (.tmp 38) 22 9 rfl (w.heap.size + 1) 5 i0 Tryz.underlying22 Tryz.underlying9 hi0 hz0 hz1 hz2 (.slice (some ⟨g,0,none⟩) l.length cap) l.length (l.map zcR) rfl (by exact hown.out) z rfl (by rw [hz1s]; unfold maxLen; omega) (by rw [hz1s]; omega) (by omega) ?_; intro v3 w3 hown3 hgr3 hnn3);obtain ⟨g3,cap3,rfl,ho3⟩:=zkR hzc'.out hz1s hown3 hnn3;have hb3:=hbw.grown hgr3 (by omega) (fun j e=>by simp [Value.ownBlock] at e; omega);have hk3:=Hd (hbk2.out.grown hgr3 (by simp [Value.ownBlock]; omega));clear hown3 hnn3 hgr3;go_roundw
      case rel=>exact ⟨k + 1,g3,cap3,false,_,by omega,by go_num,rfl,rfl,hb3,hk3,ho3,hnx⟩
      case measure=>simp [intOf]; omega
     | true=>
      have hl0 : l = []:=by
       cases l with
       | nil=>rfl
       | cons a l=>exact absurd ⟨rfl,by simp⟩ hap
      subst hl0;clear hap;go_wp2_with (at_builtin; refine Lib.wpList_append_own_string (P:=Tryz.prog) _ rfl (.tmp 37) (.tmp 38) 22 9 rfl (w.heap.size + 1) 5 i0 Tryz.underlying22 Tryz.underlying9 hi0 hz0 hz1 hz2 (.slice (some ⟨g,0,none⟩) 0 cap) 0 (List.map zcR []) rfl (by exact hown.out) z rfl (by rw [hz1s]; unfold maxLen; omega) (by rw [hz1s]; omega) (by omega) ?_; intro v3 w3 hown3 hgr3 hnn3);obtain ⟨g3,cap3,rfl,ho3⟩:=zkR hzc'.out hz1s hown3 hnn3;have hb3:=hbw.grown hgr3 (by omega) (fun j e=>by simp [Value.ownBlock] at e; omega);have hk3:=Hd (hbk2.out.grown hgr3 (by simp [Value.ownBlock]; omega));clear hown3 hnn3 hgr3;go_roundw
      case rel=>exact ⟨k + 1,g3,cap3,false,_,by omega,by go_num,rfl,rfl,hb3,hk3,ho3,hnx⟩
      case measure=>simp [intOf]; omega
  ·obtain rfl : k = s.size:=by omega
   have hcv:=run_convert_bytes_back (P:=Tryz.prog) wr 22 9 5 ⟨g,0,none⟩ cap l Tryz.underlying22 Tryz.underlying5 Tryz.underlying9 (fun j hj=>hown.out.cells (g:=g) rfl j _ (by rw [List.getElem?_map,List.getElem?_eq_getElem hj]; rfl));have hfin : Hid (zhk s = ⟨l.toArray⟩):=Hd (by unfold zhk; rw [hl.out]);go_wp2;go_ret;exact ⟨by rw [hfin.out]; rfl,hbw⟩
end
section
open Go.RowKit Go.Maps
theorem zvJ (s : ByteArray) (w : World) (hsz : s.size <= 1000000) (hpl : zkv s) :
  Calls Tryz.prog 145 #[.string s] w fun e w'=>e = .returned (.bool (decide (zhk s = s))) /\ Below w.heap.size w w':=by
 have hcon:=Hd (zwS s w hsz hpl);have hfin:=Hd (zsf (zhk s) s);go_enter Tryz.func145,Tryz.ntmps145;go_wp2_with fail;refine hcon.out.mono ?_;rintro e w' ⟨rfl,hb⟩;clear hcon;go_wp2;go_ret;exact ⟨zf hfin.out,hb⟩
theorem zqr (v : Value) (l : List ByteArray) (s : ByteArray) (w : World) (h : zan w v l) : Calls Tryz.prog 158 #[v,.string s] w fun e w'=>∃ i : Int,e = .returned (.int .i64 i) /\ decide (0 <= i) = zcg s l /\ w' = w:=by
 obtain ⟨A,c,rfl,hn,hc,hA⟩:=h;unfold maxLen at hc;have hA':=Hd hA;clear hA;go_enter Tryz.func158,Tryz.ntmps158;go_wp2
 go_loop [8] (fun iv=>∃ k : Nat,k <= l.length /\ iv = .int .i64 k /\ Hid (s ∉ l.take k)) (fun iv=>l.length - (intOf iv).toNat)
 case atStart=>exact ⟨0,by omega,rfl,Hd (by simp)⟩
 case round=>
  obtain ⟨k,hk,rfl,hno⟩:=hrel;have n0 : (0 : Int) <= (k : Int):=by omega
  by_cases hlt : k < l.length
  ·have n1 : (k : Int) < (l.length : Int):=by omega
   obtain ⟨b,off,rfl,hb,hi⟩:=hA'.out (by omega);have g:=(hi k hlt).1
   have hstep:=Hd (show l.getD k ByteArray.empty ≠ s -> s ∉ l.take (k + 1) from fun hne hm=>by
    rw [List.take_succ_eq_append_getElem hlt,List.mem_append] at hm;rcases hm with hm | hm
    ·exact hno.out hm
    ·rw [zD l _ k hlt] at hne
     exact hne (mS.1 hm).symm)
   have hin:=Hd (show l.getD k ByteArray.empty ∈ l from by rw [zD l _ k hlt]; exact List.getElem_mem hlt);clear hi;generalize l.getD k ByteArray.empty = x at g hstep hin;by_cases hx : x = s
   ·subst hx
    have hfin:=Hd (zih.2 hin.out);have b1 : (x.toList == x.toList) = true:=by simp
    go_wp2;go_ret;exact ⟨k,rfl,by rw [hfin.out]; exact decide_eq_true n0,rfl⟩
   ·have b1:=zlI (fun e : s = x=>hx e.symm)
    have hs:=Hd (hstep.out hx);clear hx;go_wp2
    go_round
    case rel=>exact ⟨k + 1,by omega,by go_num,hs⟩
    case measure=>simp [intOf]; omega
  ·have hfin:=Hd (show zcg s l = false from zdg (by have:=hno.out; rwa [List.take_of_length_le (by omega)] at this))
   go_wp2;go_ret;exact ⟨-1,rfl,by rw [hfin.out]; rfl,rfl⟩
theorem zbE (v : Value) (l : List ByteArray) (s : ByteArray) (w : World) (h : zan w v l) : Calls Tryz.prog 99 #[v,.string s] w fun e w'=>e = .returned (.bool (zcg s l)) /\ w' = w:=by
 have hcon:=Hd (zqr v l s w h);go_enter Tryz.func99,Tryz.ntmps99;go_wp2_with fail;refine hcon.out.mono ?_;rintro e w' ⟨i,rfl,hi,rfl⟩;clear hcon;have hi':=Hd hi;clear hi;go_wp2;go_ret;exact ⟨zf hi'.out,rfl⟩
end
section
open Go.RowKit Go.Maps
def zbI (b : Int) : Bool:=decide (65 <= b) && decide (b <= 90)
def zdZ (b : Int) : Bool:=decide (48 <= b) && decide (b <= 57)
def zgA (b : Int) : Bool:=zbI b || zdZ b
theorem zgU (b : Int) (w : World) : Calls Tryz.prog 135 #[.int .u8 b] w fun e w'=>e = .returned (.bool (zbI b)) /\ w' = w:=by
 have hf:=Hd (show zbI b = (decide (65 <= b) && decide (b <= 90)) from rfl);go_enter Tryz.func135,Tryz.ntmps135;cases b1 : decide (65 <= b) <;> cases b2 : decide (b <= 90) <;> (rw [b1,b2] at hf; go_wp2; go_ret; exact ⟨zf hf.out.symm,rfl⟩)
theorem zkJ (b : Int) (w : World) : Calls Tryz.prog 137 #[.int .u8 b] w fun e w'=>e = .returned (.bool (zdZ b)) /\ w' = w:=by
 have hf:=Hd (show zdZ b = (decide (48 <= b) && decide (b <= 57)) from rfl);go_enter Tryz.func137,Tryz.ntmps137;cases b1 : decide (48 <= b) <;> cases b2 : decide (b <= 57) <;> (rw [b1,b2] at hf; go_wp2; go_ret; exact ⟨zf hf.out.symm,rfl⟩)
theorem zrH (b : Int) (w : World) : Calls Tryz.prog 132 #[.int .u8 b] w fun e w'=>e = .returned (.bool (zgA b)) /\ w' = w:=by
 have h1:=Hd (zgU b w);have h2:=Hd (zkJ b w);have hf:=Hd (show zgA b = (zbI b || zdZ b) from rfl);go_enter Tryz.func132,Tryz.ntmps132;go_wp2_with fail;refine h1.out.mono ?_;rintro e w' ⟨rfl,rfl⟩;cases b1 : zbI b
 ·rw [b1] at hf
  go_wp2_with fail;refine h2.out.mono ?_;rintro e w' ⟨rfl,rfl⟩;go_wp2;go_ret;exact ⟨zf hf.out.symm,rfl⟩
 ·rw [b1] at hf
  go_wp2;go_ret;exact ⟨zf hf.out.symm,rfl⟩
def znX (p : Int -> Bool) (s : ByteArray) : Bool:=(List.range s.size).all fun i=>p (zU s i)
theorem zgr {p : Int -> Bool} {s : ByteArray} (h : ∀ i,i < s.size -> p (zU s i) = true) : znX p s = true:=by
 unfold znX;rw [List.all_eq_true];intro i hi;exact h i (List.mem_range.1 hi)
theorem ziI {p : Int -> Bool} {s : ByteArray} {i : Nat} (hi : i < s.size) (h : p (zU s i) = false) : znX p s = false:=by
 unfold znX;rw [List.all_eq_false];exact ⟨i,List.mem_range.2 hi,by simp [h]⟩
theorem zsm (p : Int -> Bool) (s : ByteArray) (w : World) (hsz : s.size <= 1000000) (hp : ∀ b : Int,Calls Tryz.prog 137 #[.int .u8 b] w fun e w'=>e = .returned (.bool (p b)) /\ w' = w) :
  Calls Tryz.prog 131 #[.string s,.func (.func 137) #[] #[]] w fun e w'=>e = .returned (.bool (znX p s)) /\ w' = w:=by
 have hp':=Hd hp;clear hp;go_enter Tryz.func131,Tryz.ntmps131;go_wp2
 go_loop [5] (fun iv=>∃ k : Nat,k <= s.size /\ iv = .int .i64 k /\ Hid (∀ i,i < k -> p (zU s i) = true)) (fun iv=>s.size - (intOf iv).toNat)
 case atStart=>exact ⟨0,by omega,rfl,Hd fun i hi=>absurd hi (by omega)⟩
 case round=>
  obtain ⟨k,hk,rfl,hall⟩:=hrel;have n0 : (0 : Int) <= (k : Int):=by omega
  by_cases hlt : k < s.size
  ·have n1 : (k : Int) < (s.size : Int):=by omega
   have hb : zU s k = (s[k]'hlt).toNat:=by unfold zU; rw [dif_pos hlt]
   have hcon:=hp'.out ((s[k]'hlt).toNat : Int);rw [<- hb] at hcon
   cases hpk : p (zU s k) with
   | true=>
    rw [hpk,hb] at hcon;have hcon':=Hd hcon
    have hall' : Hid (∀ i,i < k + 1 -> p (zU s i) = true):=Hd fun i hi=>by
     rcases Nat.lt_or_ge i k with h | h
     ·exact hall.out i h
     ·obtain rfl : i = k:=by omega
      exact hpk
    clear hpk hb hcon;go_wp2_with fail;refine hcon'.out.mono ?_;rintro e w' ⟨rfl,rfl⟩;go_wp2
    go_round
    case rel=>exact ⟨k + 1,by omega,by go_num,hall'⟩
    case measure=>simp [intOf]; omega
   | false=>
    rw [hpk,hb] at hcon;have hcon':=Hd hcon;have hfin:=Hd (ziI hlt hpk);clear hpk hb hcon;go_wp2_with fail;refine hcon'.out.mono ?_;rintro e w' ⟨rfl,rfl⟩;go_wp2;go_ret;exact ⟨zf hfin.out.symm,rfl⟩
  ·obtain rfl : k = s.size:=by omega
   have hfin:=Hd (zgr hall.out);go_wp2;go_ret;exact ⟨zf hfin.out.symm,rfl⟩
theorem zuf (p : Int -> Bool) (s : ByteArray) (w : World) (hsz : s.size <= 1000000) (hp : ∀ b : Int,Calls Tryz.prog 132 #[.int .u8 b] w fun e w'=>e = .returned (.bool (p b)) /\ w' = w) :
  Calls Tryz.prog 131 #[.string s,.func (.func 132) #[] #[]] w fun e w'=>e = .returned (.bool (znX p s)) /\ w' = w:=by
 have hp':=Hd hp;clear hp;go_enter Tryz.func131,Tryz.ntmps131;go_wp2
 go_loop [5] (fun iv=>∃ k : Nat,k <= s.size /\ iv = .int .i64 k /\ Hid (∀ i,i < k -> p (zU s i) = true)) (fun iv=>s.size - (intOf iv).toNat)
 case atStart=>exact ⟨0,by omega,rfl,Hd fun i hi=>absurd hi (by omega)⟩
 case round=>
  obtain ⟨k,hk,rfl,hall⟩:=hrel;have n0 : (0 : Int) <= (k : Int):=by omega
  by_cases hlt : k < s.size
  ·have n1 : (k : Int) < (s.size : Int):=by omega
   have hb : zU s k = (s[k]'hlt).toNat:=by unfold zU; rw [dif_pos hlt]
   have hcon:=hp'.out ((s[k]'hlt).toNat : Int);rw [<- hb] at hcon
   cases hpk : p (zU s k) with
   | true=>
    rw [hpk,hb] at hcon;have hcon':=Hd hcon
    have hall' : Hid (∀ i,i < k + 1 -> p (zU s i) = true):=Hd fun i hi=>by
     rcases Nat.lt_or_ge i k with h | h
     ·exact hall.out i h
     ·obtain rfl : i = k:=by omega
      exact hpk
    clear hpk hb hcon;go_wp2_with fail;refine hcon'.out.mono ?_;rintro e w' ⟨rfl,rfl⟩;go_wp2
    go_round
    case rel=>exact ⟨k + 1,by omega,by go_num,hall'⟩
    case measure=>simp [intOf]; omega
   | false=>
    rw [hpk,hb] at hcon;have hcon':=Hd hcon;have hfin:=Hd (ziI hlt hpk);clear hpk hb hcon;go_wp2_with fail;refine hcon'.out.mono ?_;rintro e w' ⟨rfl,rfl⟩;go_wp2;go_ret;exact ⟨zf hfin.out.symm,rfl⟩
  ·obtain rfl : k = s.size:=by omega
   have hfin:=Hd (zgr hall.out);go_wp2;go_ret;exact ⟨zf hfin.out.symm,rfl⟩
theorem zue (s : ByteArray) (w : World) (hsz : s.size <= 1000000) : Calls Tryz.prog 131 #[.string s,.func (.func 137) #[] #[]] w fun e w'=>e = .returned (.bool (znX zdZ s)) /\ w' = w:=zsm zdZ s w hsz fun b=>zkJ b w
theorem zwz (s : ByteArray) (w : World) (hsz : s.size <= 1000000) : Calls Tryz.prog 131 #[.string s,.func (.func 132) #[] #[]] w fun e w'=>e = .returned (.bool (znX zgA s)) /\ w' = w:=zuf zgA s w hsz fun b=>zrH b w
end
section
open Go.RowKit Go.Maps
def zct (s : ByteArray) : Bool:=decide (0 < s.size) && decide (s.size <= 6) && decide (zU s 0 ≠ 48) && znX zdZ s
theorem zaL {s : ByteArray} : s.toList.isEmpty = decide (s.size = 0):=by
 rw [Lib.toList_data]
 cases h : s.data.toList with
 | nil=>
  have : s.size = 0:=by show s.data.size = 0; rw [<- Array.length_toList,h]; rfl
  simp [this]
 | cons a l=>
  have : s.size ≠ 0:=by show s.data.size ≠ 0; rw [<- Array.length_toList,h]; simp
  simp [this]
theorem zmE (s : ByteArray) (w : World) (hsz : s.size <= 1000000) : Calls Tryz.prog 127 #[.string s] w fun e w'=>e = .returned (.bool (zct s)) /\ w' = w:=by
 have hcon:=Hd (zue s w hsz);rcases Nat.eq_zero_or_pos s.size with h0 | h0
 ·have e1 : s.toList.isEmpty = true:=by rw [zaL]; exact decide_eq_true h0
  have hf:=Hd (show zct s = false from by unfold zct; rw [h0]; rfl);clear h0 hcon;go_enter Tryz.func127,Tryz.ntmps127;go_wp2;go_ret;exact ⟨zf hf.out.symm,rfl⟩
 ·have e1 : s.toList.isEmpty = false:=by rw [zaL]; exact decide_eq_false (by omega)
  by_cases h6 : s.size <= 6
  ·have h6' : (s.size : Int) <= 6:=by omega
   have hd6 : decide ((s.size : Int) <= 6) = true:=decide_eq_true h6';have hb0 : zU s 0 = (s[0]'h0).toNat:=by unfold zU; rw [dif_pos h0]
   by_cases h48 : zU s 0 = 48
   ·have hf:=Hd (show zct s = false from by unfold zct; rw [h48]; simp)
    have e2 : (((s[0]'h0).toNat : Int)) = 48:=by omega
    clear h48 hb0 hcon;go_enter Tryz.func127,Tryz.ntmps127;go_wp2_with (simp only [e2]);go_ret;exact ⟨zf hf.out.symm,rfl⟩
   ·have hf:=Hd (show zct s = znX zdZ s from by unfold zct; rw [decide_eq_true h0,decide_eq_true h6,decide_eq_true h48]; rfl)
    have e2 : (((s[0]'h0).toNat : Int) == 48) = false:=by simp; omega
    have e3 : (((s[0]'h0).toNat : Int) != 48) = true:=by simp; omega
    clear h48 hb0;go_enter Tryz.func127,Tryz.ntmps127;go_wp2_with fail;refine hcon.out.mono ?_;rintro e w' ⟨rfl,rfl⟩;go_wp2;go_ret;exact ⟨zf hf.out.symm,rfl⟩
  ·have h6' : (6 : Int) < (s.size : Int):=by omega
   have hd6 : decide ((s.size : Int) <= 6) = false:=decide_eq_false (by omega);have hf:=Hd (show zct s = false from by unfold zct; rw [decide_eq_false h6]; simp);clear h6 hcon;go_enter Tryz.func127,Tryz.ntmps127;go_wp2;go_ret;exact ⟨zf hf.out.symm,rfl⟩
def zdS (s : ByteArray) : Bool:=decide (1 < s.size) && zct (s.extract 0 (s.size - 1)) && zbI (zU s (s.size - 1))
theorem zoE (s : ByteArray) (w : World) (hsz : s.size <= 1000000) : Calls Tryz.prog 128 #[.string s] w fun e w'=>e = .returned (.bool (zdS s)) /\ w' = w:=by
 by_cases h1 : 1 < s.size
 ·obtain ⟨n,hn⟩ : ∃ n,s.size = n + 1:=⟨s.size - 1,by omega⟩
  have hs1 : s.size - 1 = n:=by omega
  have hi1 : (s.size : Int) - 1 = (n : Int):=by omega
  have n0 : (0 : Int) < (n : Int):=by omega
  have n1 : (0 : Int) <= (n : Int):=by omega
  have n2 : (n : Int) <= (s.size : Int):=by omega
  have n3 : (n : Int) < (s.size : Int):=by omega
  have hnl : n < s.size:=by omega
  have hcon:=Hd (zmE (s.extract 0 n) w (by rw [ByteArray.size_extract]; omega));have hlet:=Hd (zgU ((s[n]'hnl).toNat : Int) w);have hb : zU s n = (s[n]'hnl).toNat:=by unfold zU; rw [dif_pos hnl]
  have hf:=Hd (show zdS s = (zct (s.extract 0 n) && zbI ((s[n]'hnl).toNat : Int)) from by unfold zdS; rw [hs1,decide_eq_true h1,hb]; rfl);clear hb;go_enter Tryz.func128,Tryz.ntmps128;go_wp2_with fail;refine hcon.out.mono ?_;rintro e w' ⟨rfl,rfl⟩
  cases hnb : zct (s.extract 0 n) with
  | false=>
   rw [hnb] at hf;clear hnb;go_wp2;go_ret;exact ⟨zf hf.out.symm,rfl⟩
  | true=>
   rw [hnb] at hf;clear hnb;go_wp2_with fail;refine hlet.out.mono ?_;rintro e w' ⟨rfl,rfl⟩;go_wp2;go_ret;exact ⟨zf hf.out.symm,rfl⟩
 ·have hf:=Hd (show zdS s = false from by unfold zdS; rw [decide_eq_false h1]; rfl)
  have n0 : (s.size : Int) - 1 <= 0:=by omega
  have n1 : decide (0 < (s.size : Int) - 1) = false:=decide_eq_false (by omega);go_enter Tryz.func128,Tryz.ntmps128;go_wp2;go_ret;exact ⟨zf hf.out.symm,rfl⟩
end
section
open Go.RowKit Go.Maps
def zoD : Bool -> Value
 | true=>.func (.func 135) #[] #[]
 | false=>.func (.func 137) #[] #[]
def zkZ : Bool -> Int -> Bool
 | true=>zbI
 | false=>zdZ
def zbj (ks : List Bool) (s : ByteArray) : Bool:=decide (s.size = ks.length) && (List.range ks.length).all fun i=>zkZ (ks.getD i false) (zU s i)
def ztW (w : World) (v : Value) (ks : List Bool) : Prop:=Sl w v ks.length fun b off i=>w.cell? ⟨b,off + i,none⟩ = some (zoD (ks.getD i false))
theorem zqx {ks : List Bool} {s : ByteArray} (hs : s.size = ks.length) (h : ∀ i,i < ks.length -> zkZ (ks.getD i false) (zU s i) = true) : zbj ks s = true:=by
 unfold zbj;rw [decide_eq_true hs,Bool.true_and,List.all_eq_true];intro i hi;exact h i (List.mem_range.1 hi)
theorem zoH {ks : List Bool} {s : ByteArray} {i : Nat} (hi : i < ks.length) (h : zkZ (ks.getD i false) (zU s i) = false) : zbj ks s = false:=by
 unfold zbj
 have : ((List.range ks.length).all fun i=>zkZ (ks.getD i false) (zU s i)) = false:=by
  rw [List.all_eq_false];exact ⟨i,List.mem_range.2 hi,by show ¬ (zkZ (ks.getD i false) (zU s i) = true); rw [h]; exact Bool.false_ne_true⟩
 rw [this,Bool.and_false]
theorem zdB (v : Value) (ks : List Bool) (s : ByteArray) (w : World) (hv : ztW w v ks) (hsz : s.size <= 1000000) : Calls Tryz.prog 134 #[.string s,v] w fun e w'=>e = .returned (.bool (zbj ks s)) /\ w' = w:=by
 obtain ⟨A,c,rfl,hn,hc,hA⟩:=hv;unfold maxLen at hc;have hA':=Hd hA;have hlet:=Hd (fun b=>zgU b w);have hdig:=Hd (fun b=>zkJ b w);clear hA;by_cases he : s.size = ks.length
 ·have e1 : ((s.size : Int) == (ks.length : Int)) = true:=by simp; omega
  have e2 : ((s.size : Int) != (ks.length : Int)) = false:=by simp; omega
  go_enter Tryz.func134,Tryz.ntmps134;go_wp2
  go_loop [14] (fun iv=>∃ k : Nat,k <= ks.length /\ iv = .int .i64 k /\ Hid (∀ i,i < k -> zkZ (ks.getD i false) (zU s i) = true)) (fun iv=>ks.length - (intOf iv).toNat)
  case atStart=>exact ⟨0,by omega,rfl,Hd fun i hi=>absurd hi (by omega)⟩
  case round=>
   obtain ⟨k,hk,rfl,hall⟩:=hrel;have n0 : (0 : Int) <= (k : Int):=by omega
   by_cases hlt : k < ks.length
   ·have n1 : (k : Int) < (ks.length : Int):=by omega
    have hlts : k < s.size:=by omega
    have n2 : (k : Int) < (s.size : Int):=by omega
    obtain ⟨b,off,rfl,hb,hi⟩:=hA'.out (by omega);have g:=hi k hlt;have hbt : zU s k = (s[k]'hlts).toNat:=by unfold zU; rw [dif_pos hlts]
    have hstep:=Hd (show zkZ (ks.getD k false) ((s[k]'hlts).toNat : Int) = true -> ∀ i,i < k + 1 -> zkZ (ks.getD i false) (zU s i) = true from fun h i hi=>by
     rcases Nat.lt_or_ge i k with h2 | h2
     ·exact hall.out i h2
     ·obtain rfl : i = k:=by omega
      rw [hbt]; exact h)
    have hstop:=Hd (show zkZ (ks.getD k false) ((s[k]'hlts).toNat : Int) = false -> zbj ks s = false from fun h=>zoH hlt (by rw [hbt]; exact h));clear hi hbt;generalize ks.getD k false = kb at g hstep hstop
    cases kb with
    | true=>
     unfold zoD at g;unfold zkZ at hstep hstop;have hcon:=Hd (hlet.out ((s[k]'hlts).toNat : Int))
     cases hp : zbI ((s[k]'hlts).toNat : Int) with
     | true=>
      rw [hp] at hcon;have hall':=Hd (hstep.out hp);clear hp hstep hstop;go_wp2_with fail;refine hcon.out.mono ?_;rintro e w' ⟨rfl,rfl⟩;go_wp2
      go_round
      case rel=>exact ⟨k + 1,by omega,by go_num,hall'⟩
      case measure=>simp [intOf]; omega
     | false=>
      rw [hp] at hcon;have hfin:=Hd (hstop.out hp);clear hp hstep hstop;go_wp2_with fail;refine hcon.out.mono ?_;rintro e w' ⟨rfl,rfl⟩;go_wp2;go_ret;exact ⟨zf hfin.out.symm,rfl⟩
    | false=>
     unfold zoD at g;unfold zkZ at hstep hstop;have hcon:=Hd (hdig.out ((s[k]'hlts).toNat : Int))
     cases hp : zdZ ((s[k]'hlts).toNat : Int) with
     | true=>
      rw [hp] at hcon;have hall':=Hd (hstep.out hp);clear hp hstep hstop;go_wp2_with fail;refine hcon.out.mono ?_;rintro e w' ⟨rfl,rfl⟩;go_wp2
      go_round
      case rel=>exact ⟨k + 1,by omega,by go_num,hall'⟩
      case measure=>simp [intOf]; omega
     | false=>
      rw [hp] at hcon;have hfin:=Hd (hstop.out hp);clear hp hstep hstop;go_wp2_with fail;refine hcon.out.mono ?_;rintro e w' ⟨rfl,rfl⟩;go_wp2;go_ret;exact ⟨zf hfin.out.symm,rfl⟩
   ·obtain rfl : k = ks.length:=by omega
    have hfin:=Hd (zqx he hall.out);go_wp2;go_ret;exact ⟨zf hfin.out.symm,rfl⟩
 ·have e1 : ((s.size : Int) == (ks.length : Int)) = false:=by simp; omega
  have e2 : ((s.size : Int) != (ks.length : Int)) = true:=by simp; omega
  have hfin:=Hd (show zbj ks s = false from by unfold zbj; rw [decide_eq_false he,Bool.false_and]);go_enter Tryz.func134,Tryz.ntmps134;go_wp2;go_ret;exact ⟨zf hfin.out.symm,rfl⟩
theorem zfx {w : World} {g : Nat} {t : TypeId} {ks : List Bool} {cs : Array Value} (h : Blk w g t cs) (hcs : cs = (ks.map zoD).toArray) (hl : ks.length <= 1000) : ztW w (.slice (some ⟨g,0,none⟩) ks.length ks.length) ks:=
 ⟨_,_,rfl,lQ _,by unfold maxLen; omega,fun _=>⟨g,0,rfl,h.lt,fun i hi=>by
  show w.cell? ⟨g,0 + i,none⟩ = some (zoD (ks.getD i false))
  rw [Nat.zero_add,h.cell i,hcs,zD _ _ _ hi,List.getElem?_toArray,List.getElem?_map,List.getElem?_eq_getElem hi]; rfl⟩⟩
theorem ztA (s : ByteArray) (w : World) (hsz : s.size <= 1000000) : Calls Tryz.prog 133 #[.string s] w fun e w'=>e = .returned (.bool (zbj [true,true] s)) /\ Below w.heap.size w w':=by
 have hcon:=Hd (zdB _ [true,true] s _ (zfx (ks:=[true,true]) (Blk.new w 163 #[.func (.func 135) #[] #[],.func (.func 135) #[] #[]]) rfl (by decide)) hsz);have hend : Below w.heap.size w (w.alloc (.cells #[.func (.func 135) #[] #[],.func (.func 135) #[] #[]] 163)):=(Below.refl _ _).alloc (lQ _) _;go_enter Tryz.func133,Tryz.ntmps133;go_wp2_with fail;refine hcon.out.mono ?_;rintro e w' ⟨rfl,rfl⟩;go_wp2;go_ret;exact ⟨rfl,hend⟩
end
section
open Go.RowKit Go.Maps
theorem zuw (s : ByteArray) (w : World) (hsz : s.size <= 1000000) : Calls Tryz.prog 136 #[.string s] w fun e w'=>e = .returned (.bool (zbj [false,false,false,false,false] s)) /\ Below w.heap.size w w':=by
 have hcon:=Hd (zdB _ [false,false,false,false,false] s _ (zfx (ks:=[false,false,false,false,false]) (Blk.new w 163 #[.func (.func 137) #[] #[],.func (.func 137) #[] #[],.func (.func 137) #[] #[],.func (.func 137) #[] #[],.func (.func 137) #[] #[]]) rfl (by decide)) hsz);have hend : Below w.heap.size w (w.alloc (.cells #[.func (.func 137) #[] #[],.func (.func 137) #[] #[],.func (.func 137) #[] #[],.func (.func 137) #[] #[],.func (.func 137) #[] #[]] 163)):=(Below.refl _ _).alloc (lQ _) _;go_enter Tryz.func136,Tryz.ntmps136;go_wp2_with fail;refine hcon.out.mono ?_;rintro e w' ⟨rfl,rfl⟩;go_wp2;go_ret;exact ⟨rfl,hend⟩
theorem zux (s : ByteArray) (w : World) (hsz : s.size <= 1000000) : Calls Tryz.prog 138 #[.string s] w fun e w'=>e = .returned (.bool (zbj [true,false,true,false,true,false] s)) /\ Below w.heap.size w w':=by
 have hcon:=Hd (zdB _ [true,false,true,false,true,false] s _ (zfx (ks:=[true,false,true,false,true,false]) (Blk.new w 163 #[.func (.func 135) #[] #[],.func (.func 137) #[] #[],.func (.func 135) #[] #[],.func (.func 137) #[] #[],.func (.func 135) #[] #[],.func (.func 137) #[] #[]]) rfl (by decide)) hsz);have hend : Below w.heap.size w (w.alloc (.cells #[.func (.func 135) #[] #[],.func (.func 137) #[] #[],.func (.func 135) #[] #[],.func (.func 137) #[] #[],.func (.func 135) #[] #[],.func (.func 137) #[] #[]] 163)):=(Below.refl _ _).alloc (lQ _) _;go_enter Tryz.func138,Tryz.ntmps138;go_wp2_with fail;refine hcon.out.mono ?_;rintro e w' ⟨rfl,rfl⟩;go_wp2;go_ret;exact ⟨rfl,hend⟩
theorem zsA (s : ByteArray) (w : World) (hsz : s.size <= 1000000) : Calls Tryz.prog 139 #[.string s] w fun e w'=>e = .returned (.bool (zbj [true,false,true] s)) /\ Below w.heap.size w w':=by
 have hcon:=Hd (zdB _ [true,false,true] s _ (zfx (ks:=[true,false,true]) (Blk.new w 163 #[.func (.func 135) #[] #[],.func (.func 137) #[] #[],.func (.func 135) #[] #[]]) rfl (by decide)) hsz);have hend : Below w.heap.size w (w.alloc (.cells #[.func (.func 135) #[] #[],.func (.func 137) #[] #[],.func (.func 135) #[] #[]] 163)):=(Below.refl _ _).alloc (lQ _) _;go_enter Tryz.func139,Tryz.ntmps139;go_wp2_with fail;refine hcon.out.mono ?_;rintro e w' ⟨rfl,rfl⟩;go_wp2;go_ret;exact ⟨rfl,hend⟩
theorem zuZ (s : ByteArray) (w : World) (hsz : s.size <= 1000000) : Calls Tryz.prog 140 #[.string s] w fun e w'=>e = .returned (.bool (zbj [false,true,false] s)) /\ Below w.heap.size w w':=by
 have hcon:=Hd (zdB _ [false,true,false] s _ (zfx (ks:=[false,true,false]) (Blk.new w 163 #[.func (.func 137) #[] #[],.func (.func 135) #[] #[],.func (.func 137) #[] #[]]) rfl (by decide)) hsz);have hend : Below w.heap.size w (w.alloc (.cells #[.func (.func 137) #[] #[],.func (.func 135) #[] #[],.func (.func 137) #[] #[]] 163)):=(Below.refl _ _).alloc (lQ _) _;go_enter Tryz.func140,Tryz.ntmps140;go_wp2_with fail;refine hcon.out.mono ?_;rintro e w' ⟨rfl,rfl⟩;go_wp2;go_ret;exact ⟨rfl,hend⟩
theorem zuy (s : ByteArray) (w : World) (hsz : s.size <= 1000000) : Calls Tryz.prog 141 #[.string s] w fun e w'=>e = .returned (.bool (zbj [false,false,false,false] s)) /\ Below w.heap.size w w':=by
 have hcon:=Hd (zdB _ [false,false,false,false] s _ (zfx (ks:=[false,false,false,false]) (Blk.new w 163 #[.func (.func 137) #[] #[],.func (.func 137) #[] #[],.func (.func 137) #[] #[],.func (.func 137) #[] #[]]) rfl (by decide)) hsz);have hend : Below w.heap.size w (w.alloc (.cells #[.func (.func 137) #[] #[],.func (.func 137) #[] #[],.func (.func 137) #[] #[],.func (.func 137) #[] #[]] 163)):=(Below.refl _ _).alloc (lQ _) _;go_enter Tryz.func141,Tryz.ntmps141;go_wp2_with fail;refine hcon.out.mono ?_;rintro e w' ⟨rfl,rfl⟩;go_wp2;go_ret;exact ⟨rfl,hend⟩
def zjQ (s : ByteArray) : Bool:=decide (0 < s.size) && decide (s.size <= 6) && znX zgA s
theorem zuI (s : ByteArray) (w : World) (hsz : s.size <= 1000000) : Calls Tryz.prog 130 #[.string s] w fun e w'=>e = .returned (.bool (zjQ s)) /\ w' = w:=by
 have hcon:=Hd (zwz s w hsz);rcases Nat.eq_zero_or_pos s.size with h0 | h0
 ·have e1 : s.toList.isEmpty = true:=by rw [zaL]; exact decide_eq_true h0
  have hf:=Hd (show zjQ s = false from by unfold zjQ; rw [h0]; rfl);clear h0 hcon;go_enter Tryz.func130,Tryz.ntmps130;go_wp2;go_ret;exact ⟨zf hf.out.symm,rfl⟩
 ·have e1 : s.toList.isEmpty = false:=by rw [zaL]; exact decide_eq_false (by omega)
  by_cases h6 : s.size <= 6
  ·have h6' : (s.size : Int) <= 6:=by omega
   have hd6 : decide ((s.size : Int) <= 6) = true:=decide_eq_true h6';have hf:=Hd (show zjQ s = znX zgA s from by unfold zjQ; rw [decide_eq_true h0,decide_eq_true h6]; rfl);go_enter Tryz.func130,Tryz.ntmps130;go_wp2_with fail;refine hcon.out.mono ?_;rintro e w' ⟨rfl,rfl⟩;go_wp2;go_ret;exact ⟨zf hf.out.symm,rfl⟩
  ·have h6' : (6 : Int) < (s.size : Int):=by omega
   have hd6 : decide ((s.size : Int) <= 6) = false:=decide_eq_false (by omega);have hf:=Hd (show zjQ s = false from by unfold zjQ; rw [decide_eq_false h6]; simp);clear h6 hcon;go_enter Tryz.func130,Tryz.ntmps130;go_wp2;go_ret;exact ⟨zf hf.out.symm,rfl⟩
end
section
open Go.RowKit Go.Maps
def zeH (b : Int) : Bool:=zgA b || (b == 45)
theorem zvk (b : Int) (ltr : Bool) (g : Nat) (w : World) (hb : Blk w g 4 #[.bool ltr]) :
  Calls Tryz.prog 186 #[.int .u8 b,.pointer (some ⟨g,0,none⟩)] w fun e w'=>e = .returned (.bool (zeH b)) /\ w' = w.setCell ⟨g,0,none⟩ (.bool (ltr || zbI b)):=by
 have c0:=hb.cell 0;have f0:=hb.frozen 0;have hg:=hb.lt;simp at c0;have hlet:=Hd (zgU b w);have hflat:=Hd (fun w=>zrH b w);have hf:=Hd (show zeH b = (zgA b || (b == 45)) from rfl);clear hb
 cases ltr with
 | true=>
  go_enter Tryz.func186,Tryz.ntmps186;go_wp2_with fail;refine (hflat.out _).mono ?_;rintro e w' ⟨rfl,rfl⟩;cases h1 : zgA b <;> cases h2 : (b == 45) <;> (rw [h1,h2] at hf; go_wp2; go_ret; exact ⟨zf hf.out.symm,rfl⟩)
 | false=>
  go_enter Tryz.func186,Tryz.ntmps186;go_wp2_with fail;refine hlet.out.mono ?_;rintro e w' ⟨rfl,rfl⟩
  cases h3 : zbI b <;>
  ·go_wp2_with fail
   refine (hflat.out _).mono ?_;rintro e w' ⟨rfl,rfl⟩;cases h1 : zgA b <;> cases h2 : (b == 45) <;> (rw [h1,h2] at hf; go_wp2; go_ret; exact ⟨zf hf.out.symm,by rw [h3]; rfl⟩)
def zhP (s : ByteArray) (k : Nat) : Bool:=(List.range k).any fun i=>zbI (zU s i)
theorem zsq (s : ByteArray) (k : Nat) : zhP s (k + 1) = (zhP s k || zbI (zU s k)):=by
 unfold zhP;rw [List.range_succ,List.any_append];simp
theorem zwA (s : ByteArray) (g B : Nat) (W w : World) (hsz : s.size <= 1000000) (hB : B <= g) (hw : Below B W w) (hg : Blk w g 4 #[.bool false]) :
  Calls Tryz.prog 131 #[.string s,.func (.func 186) #[] #[.pointer (some ⟨g,0,none⟩)]] w fun e w'=>e = .returned (.bool (znX zeH s)) /\ Below B W w' /\ (znX zeH s = true -> Blk w' g 4 #[.bool (zhP s s.size)]):=by
 have hg':=Hd hg;have hw':=Hd hw;clear hg hw;go_enter Tryz.func131,Tryz.ntmps131;go_wp2
 go_loopw [5] (fun iv wr=>∃ k : Nat,k <= s.size /\ iv = .int .i64 k /\ Hid (Below B W wr) /\ Hid (Blk wr g 4 #[.bool (zhP s k)]) /\ Hid (∀ i,i < k -> zeH (zU s i) = true)) (fun iv _=>s.size - (intOf iv).toNat)
 case atStart=>exact ⟨0,by omega,rfl,hw',hg',Hd fun i hi=>absurd hi (by omega)⟩
 case round=>
  obtain ⟨k,hk,rfl,hbw,hbk,hall⟩:=hrel;rename World=>wr;have n0 : (0 : Int) <= (k : Int):=by omega
  by_cases hlt : k < s.size
  ·have n1 : (k : Int) < (s.size : Int):=by omega
   have hb : zU s k = (s[k]'hlt).toNat:=by unfold zU; rw [dif_pos hlt]
   have hcon:=zvk ((s[k]'hlt).toNat : Int) (zhP s k) g wr hbk.out;have hb2:=Hd (hbw.out.setCell (p:=⟨g,0,none⟩) hB (.bool (zhP s (k + 1))));have hk2:=hbk.out.set_ 0 (.bool (zhP s (k + 1)));have hk3 : Hid (Blk (wr.setCell ⟨g,0,none⟩ (.bool (zhP s (k + 1)))) g 4 #[.bool (zhP s (k + 1))]):=Hd (by simpa using hk2);have e1 : (zhP s k || zbI ((s[k]'hlt).toNat : Int)) = zhP s (k + 1):=by rw [zsq,hb]
   rw [e1] at hcon;clear hk2 e1
   cases hpk : zeH ((s[k]'hlt).toNat : Int) with
   | true=>
    rw [hpk] at hcon;have hcon':=Hd hcon
    have hall' : Hid (∀ i,i < k + 1 -> zeH (zU s i) = true):=Hd fun i hi=>by
     rcases Nat.lt_or_ge i k with h | h
     ·exact hall.out i h
     ·obtain rfl : i = k:=by omega
      rw [hb]; exact hpk
    clear hpk hb hcon;go_wp2_with fail;refine hcon'.out.mono ?_;rintro e w' ⟨rfl,rfl⟩;go_wp2;go_roundw
    case rel=>exact ⟨k + 1,by omega,by go_num,hb2,hk3,hall'⟩
    case measure=>simp [intOf]; omega
   | false=>
    have hfin:=Hd (ziI (p:=zeH) hlt (by rw [hb]; exact hpk));rw [hpk] at hcon;have hcon':=Hd hcon;clear hpk hb hcon;go_wp2_with fail;refine hcon'.out.mono ?_;rintro e w' ⟨rfl,rfl⟩;go_wp2;go_ret;exact ⟨zf hfin.out.symm,hb2.out,fun h=>by rw [hfin.out] at h; cases h⟩
  ·obtain rfl : k = s.size:=by omega
   have hfin:=Hd (zgr hall.out);go_wp2;go_ret;exact ⟨zf hfin.out.symm,hbw.out,fun _=>hbk.out⟩
end
section
open Go.RowKit Go.Maps
def zvl (s : ByteArray) : Bool:=znX zeH s && zhP s s.size
theorem zxg (s : ByteArray) (w : World) (hsz : s.size <= 1000000) : Calls Tryz.prog 129 #[.string s] w fun e w'=>e = .returned (.bool (zvl s)) /\ Below w.heap.size w w':=by
 have hup : Below w.heap.size w (w.alloc (.cells #[.bool false] 4)):=(Below.refl _ _).alloc (lQ _) _;have hcon:=Hd (zwA s w.heap.size w.heap.size w _ hsz (lQ _) hup (Blk.new w 4 #[.bool false]));have hf:=Hd (show zvl s = (znX zeH s && zhP s s.size) from rfl);clear hup;go_enter Tryz.func129,Tryz.ntmps129;go_wp2_with fail;refine hcon.out.mono ?_;rintro e w1 ⟨rfl,hb,hk⟩;clear hcon
 cases h1 : znX zeH s with
 | false=>
  rw [h1] at hf;clear hk h1;go_wp2;go_ret;exact ⟨zf hf.out.symm,hb⟩
 | true=>
  rw [h1] at hf;have c0:=(hk h1).cell 0;simp at c0;clear hk h1;go_wp2;go_ret;exact ⟨zf hf.out.symm,hb⟩
def zfc (ks k : Nat) : Bool:=(ks >>> k) % 2 == 1
theorem zyS : ∀ ks : Fin 64,∀ k : Fin 6,(bits BinOp.and IntKind.u8 (((ks.val : Nat) : Int) / 2 ^ k.val) 1 == 1) = zfc ks.val k.val:=by decide +kernel
theorem zob (k : Int) (a : Nat) (w : World) : Calls Tryz.prog 125 #[.int .u8 k,.pointer (some ⟨a,0,none⟩)] w fun e w'=>e = .returned (.func (.func 126) #[] #[.pointer (some ⟨a,0,none⟩),.pointer (some ⟨w.heap.size,0,none⟩)]) /\ w' = w.alloc (.cells #[.int .u8 k] 5):=by
 go_enter Tryz.func125,Tryz.ntmps125;go_wp2;go_ret;exact ⟨rfl,rfl⟩
theorem zei (s : ByteArray) (ks : Fin 64) (k : Fin 6) (a b : Nat) (w : World) (ha : w.cell? ⟨a,0,none⟩ = some (.int .u8 ((ks.val : Nat) : Int))) (hb : w.cell? ⟨b,0,none⟩ = some (.int .u8 ((k.val : Nat) : Int))) :
  Calls Tryz.prog 126 #[.string s,.pointer (some ⟨a,0,none⟩),.pointer (some ⟨b,0,none⟩)] w fun e w'=>e = .returned (.bool (zfc ks.val k.val)) /\ w' = w:=by
 have h1:=zyS ks k;go_enter Tryz.func126,Tryz.ntmps126;go_wp2;go_ret;exact ⟨rfl,rfl⟩
end
end Go.Proofs.YtggimnndflkjkaaGreatDoor
