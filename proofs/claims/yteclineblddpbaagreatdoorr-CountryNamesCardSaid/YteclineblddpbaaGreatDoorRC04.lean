import Derived.Test.YteclineblddpbaaGreatDoorRC01
import Derived.Test.YteclineblddpbaaGreatDoorRC03
import Derived.Lib.AppendStr
import Derived.Laws.IdiomStrings
set_option linter.all false
set_option maxRecDepth 100000
set_option maxHeartbeats 0
namespace Go.Proofs.YteclineblddpbaaGreatDoorR
section
open Go.RowKit Go.Maps
def byteCell (b : UInt8) : Value:=.int .u8 (b.toNat : Int)
def foldG (s : ByteArray) : Nat -> Nat -> Bool -> List UInt8 -> List UInt8
 | 0,_,_,l=>l
 | f + 1,i,ap,l=>if i < s.size then (if (becG s i).1.size = 0 then foldG s f (i + (becG s i).2) true l else foldG s f (i + (becG s i).2) false ((l ++ (if ap = true /\ 0 < l.length then [32] else [])) ++ (becG s i).1.data.toList)) else l
def foldOf (s : ByteArray) : ByteArray:=⟨(foldG s s.size 0 false []).toArray⟩
def Plain (s : ByteArray) : Prop:=∀ i,i < s.size -> plainB (byteAt s i) \/ byteAt s i = 32
theorem ite_size {p : Prop} [Decidable p] {a b : ByteArray} {n : Nat} (ha : a.size <= n) (hb : b.size <= n) : (if p then a else b).size <= n:=by
 by_cases h : p
 ·rw [if_pos h]; exact ha
 ·rw [if_neg h]; exact hb
theorem lettersQ_size (c : Nat) : (lettersQ c).size <= 2:=ite_size (by decide) (ite_size (by decide) (ite_size (by decide) (ite_size (by decide) (ite_size (by decide) (ite_size (by decide) (ite_size (by decide) (ite_size (by decide) (ite_size (by decide) (ite_size (by decide) (ite_size (by decide) (ite_size (by decide) (ite_size (by decide) (by decide)))))))))))))
theorem lettersP_size (a b : Nat) : (lettersP a b).size <= 2:=ite_size (ite_size (by decide) (ite_size (by decide) (ite_size (by decide) (by decide)))) (ite_size (ite_size (by decide) (ite_size (by decide) (lettersQ_size _))) (by decide))
theorem becG_le {s : ByteArray} {i : Nat} (h : i < s.size) : 1 <= (becG s i).2 /\ i + (becG s i).2 <= s.size /\ (becG s i).1.size <= 2:=by
 unfold becG
 split
 ·exact ⟨lQ _,h,by rw [ByteArray.size_extract]; omega⟩
 ·split
  ·exact ⟨lQ _,h,by show 1 <= 2; decide⟩
  ·split
   ·rename_i hh
    exact ⟨by show 1 <= 2; decide,by show i + 2 <= s.size; omega,lettersP_size _ _⟩
   ·exact ⟨lQ _,h,by show 0 <= 2; decide⟩
theorem foldG_fuel (s : ByteArray) : ∀ (f f' i : Nat) (ap : Bool) (l : List UInt8),s.size - i <= f -> s.size - i <= f' -> foldG s f i ap l = foldG s f' i ap l
 | 0,f',i,ap,l,h,_=>by
  cases f' with
  | zero=>rfl
  | succ f'=>rw [foldG,foldG,if_neg (by omega)]
 | f + 1,0,i,ap,l,_,h'=>by rw [foldG,foldG,if_neg (by omega)]
 | f + 1,f' + 1,i,ap,l,h,h'=>by
  rw [foldG,foldG]
  by_cases hi : i < s.size
  ·rw [if_pos hi,if_pos hi]
   have hb:=becG_le hi
   split
   ·exact foldG_fuel s f f' _ _ _ (by omega) (by omega)
   ·exact foldG_fuel s f f' _ _ _ (by omega) (by omega)
  ·rw [if_neg hi,if_neg hi]
theorem foldG_step {s : ByteArray} {i : Nat} (hi : i < s.size) (ap : Bool) (l : List UInt8) : foldG s (s.size - i) i ap l = if (becG s i).1.size = 0 then foldG s (s.size - (i + (becG s i).2)) (i + (becG s i).2) true l else foldG s (s.size - (i + (becG s i).2)) (i + (becG s i).2) false ((l ++ (if ap = true /\ 0 < l.length then [32] else [])) ++ (becG s i).1.data.toList):=by
 have hb:=becG_le hi
 obtain ⟨f,hf⟩ : ∃ f,s.size - i = f + 1:=⟨s.size - i - 1,by omega⟩
 rw [hf,foldG,if_pos hi]
 split
 ·exact foldG_fuel s _ _ _ _ _ (by omega) (by omega)
 ·exact foldG_fuel s _ _ _ _ _ (by omega) (by omega)
theorem cells_of (z : ByteArray) : Lib.strCells z = z.data.toList.map byteCell:=rfl
theorem info5 : (Tryz.prog.info? 5).map (fun i=>(i.zero,i.size,i.bytes)) = some (some (.int .u8 0),1,1):=by kernel_rfl
theorem fold_push {B g cap : Nat} {l : List UInt8} {z : ByteArray} {v3 : Value} {w3 : World}
  (hown3 : w3.ownsRow B 5 1 v3 (l.length + z.size) (l.map byteCell ++ Lib.strCells z)) (hnn3 : v3 = .slice none 0 0 ↔ Value.slice (some ⟨g,0,none⟩) l.length cap = .slice none 0 0 /\ z.size = 0) :
  ∃ g3 cap3,v3 = .slice (some ⟨g3,0,none⟩) (l ++ z.data.toList).length cap3 /\ Hid (w3.ownsRow B 5 1 (.slice (some ⟨g3,0,none⟩) (l ++ z.data.toList).length cap3) (l ++ z.data.toList).length ((l ++ z.data.toList).map byteCell)):=by
 have e1 : l.length + z.size = (l ++ z.data.toList).length:=by rw [List.length_append,Lib.size_eq]
 have e2 : l.map byteCell ++ Lib.strCells z = (l ++ z.data.toList).map byteCell:=by rw [cells_of,List.map_append]
 rw [e1,e2] at hown3
 rcases hown3.2 with ⟨e,_⟩ | ⟨g3,cap3,cur,e,_⟩
 ·exact absurd (hnn3.1 e).1 (by simp)
 ·subst e
  exact ⟨g3,cap3,rfl,Hd hown3⟩
theorem fold_any (s : ByteArray) (w : World) (hsz : s.size <= 1000000) :
  Calls Tryz.prog 67 #[.string s] w fun e w'=>e = .returned (.string (foldOf s)) /\ Below w.heap.size w w':=by
 obtain ⟨i0,hi0,hz0,hz1,hz2⟩:=info_parts info5
 have hW1 : Below w.heap.size w (w.alloc (.cells #[.string s] 9)):=(Below.refl _ _).alloc (lQ _) _
 have b1 : Blk (w.alloc (.cells #[.string s] 9)) w.heap.size 9 #[.string s]:=Blk.new _ _ _
 obtain ⟨wM,hmk,hownM,hgrM⟩:=run_make_own (P:=Tryz.prog) (w.alloc (.cells #[.string s] 9)) (w.heap.size + 1) 77 5 i0 _ 1 Tryz.underlying77 hi0 hz0 hz1 .i64 .i64 s.size (by rw [hz2]; omega) (by unfold maxLen; omega) (by simp)
 have hbM : Below w.heap.size w wM:=hW1.grown hgrM (by simp) (fun _ e=>by cases e)
 have hbM1 : Below (w.heap.size + 1) (w.alloc (.cells #[.string s] 9)) wM:=(Below.refl _ _).grown hgrM (by simp) (fun _ e=>by cases e)
 have hc0:=b1.cell 0
 have hbk:=Hd (b1.below hbM1 (by omega))
 have hoM:=Hd hownM
 clear hownM hgrM b1
 simp at hc0
 rw [show (w.alloc (.cells #[.string s] 9)).heap.size = w.heap.size + 1 from by simp] at hmk hoM
 go_enter Tryz.func67,Tryz.ntmps67
 go_wp2
 go_loopw [4,5,6] (fun ov bv iv wr=>∃ (k g cap : Nat) (ap : Bool) (l : List UInt8),k <= s.size /\ iv = .int .i64 k /\ bv = .bool ap /\ ov = .slice (some ⟨g,0,none⟩) l.length cap /\ Below w.heap.size w wr /\ Hid (Blk wr w.heap.size 9 #[.string s]) /\ Hid (wr.ownsRow (w.heap.size + 1) 5 1 (.slice (some ⟨g,0,none⟩) l.length cap) l.length (l.map byteCell)) /\ l.length <= 3 * k /\ Hid (foldG s s.size 0 false [] = foldG s (s.size - k) k ap l))
  (fun _ _ iv _=>s.size - (intOf iv).toNat)
 case atStart=>exact ⟨0,w.heap.size + 1,s.size,false,[],by omega,rfl,rfl,rfl,hbM,hbk,hoM,by simp,Hd rfl⟩
 case round=>
  obtain ⟨k,g,cap,ap,l,hk,rfl,rfl,rfl,hbw,hbk2,hown,hl3,hl⟩:=hrel
  rename World=>wr
  have n0 : (0 : Int) <= (k : Int):=by omega
  have c0:=hbk2.out.cell 0
  simp at c0
  have hsM:=hbM1.size
  simp at hsM
  have hll : l.length <= 3000000:=by omega
  have hs0:=hbw.size
  have hg:=hown.out.lt g rfl
  by_cases hlt : k < s.size
  ·have n1 : (k : Int) < (s.size : Int):=by omega
   have hbec:=Hd (becomes_any s k hlt w.heap.size wr hsz c0)
   go_wp2_with fail
   refine hbec.out.mono ?_
   rintro e w' ⟨rfl,rfl⟩
   clear hbec
   have hle:=becG_le hlt
   have hstep:=Hd (foldG_step hlt ap l)
   generalize (becG s k).1 = z at *
   generalize (becG s k).2 = n at *
   have hn1:=hle.1
   have hn2:=hle.2.1
   have hn3:=hle.2.2
   clear hle
   by_cases h32 : z.size = 0
   ·have hnx : Hid (foldG s s.size 0 false [] = foldG s (s.size - (k + n)) (k + n) true l):=Hd (by rw [hl.out,hstep.out,if_pos h32])
    obtain rfl : z = ⟨#[]⟩:=by
     obtain ⟨⟨zl⟩⟩:=z
     have : zl.length = 0:=h32
     rw [List.length_eq_zero_iff.1 this]
    clear h32 hstep hl
    go_wp2
    go_roundw
    case rel=>exact ⟨k + n,g,cap,true,l,by omega,by go_num,rfl,rfl,hbw,hbk2,hown,by omega,hnx⟩
    case measure=>simp [intOf]; omega
   ·have hnx : Hid (foldG s s.size 0 false [] = foldG s (s.size - (k + n)) (k + n) false ((l ++ (if ap = true /\ 0 < l.length then [32] else [])) ++ z.data.toList)):=Hd (by rw [hl.out,hstep.out,if_neg h32])
    clear hstep hl
    have hzn : z ≠ ⟨#[]⟩:=by rintro rfl; exact h32 rfl
    have hzd : z.data.toList.length <= 2:=by rw [<- Lib.size_eq]; exact hn3
    have bz : z.toList.isEmpty = false:=by
     cases e : z.toList.isEmpty
     ·rfl
     ·exact absurd (tl_nil e) hzn
    clear hzn
    by_cases hap : ap = true /\ 0 < l.length
    ·rw [if_pos hap] at hnx
     obtain ⟨rfl,h0⟩:=hap
     have hal:=Hd (hown.out.alloc (.cells #[.int .u8 32] 5))
     have hbA:=hbw.alloc hs0 (.cells #[.int .u8 32] 5)
     have hkA:=Hd (hbk2.out.alloc (.cells #[.int .u8 32] 5))
     have hsA : (w'.alloc (.cells #[.int .u8 32] 5)).heap.size = w'.heap.size + 1:=by simp
     go_wp2_with (at_builtin; first | (refine wpList_append_lies _ rfl (.tmp 34) (.tmp 35) 77 rfl (w.heap.size + 1) 5 i0 (.int .u8 0) 1 1 Tryz.underlying77 hi0 hz0 hz1 hz2 rfl (by decide) (.slice (some ⟨g,0,none⟩) l.length cap) l.length (l.map byteCell) rfl (by exact hal.out) ⟨w'.heap.size,0,none⟩ 1 1 [.int .u8 32] rfl rfl (by exact World.news_of_block (cs:=#[.int .u8 32]) (heap_alloc_new _ _)) (one1 rfl) Nat.one_pos (by unfold maxLen; omega) (by omega) (by simp; omega) (w'.heap.size + 1) (by simp) ?_; intro g2 cap2 w2 hown2 hgr2 hat2 hlt2) | (refine Lib.wpList_append_own_string (P:=Tryz.prog) _ rfl (.tmp 37) (.tmp 38) 77 9 rfl (w.heap.size + 1) 5 i0 Tryz.underlying77 Tryz.underlying9 hi0 hz0 hz1 hz2 (.slice (some ⟨g2,0,none⟩) (l.length + 1) cap2) (l.length + 1) (l.map byteCell ++ [.int .u8 32]) rfl (by exact hown2) z rfl (by unfold maxLen; omega) (by omega) (by have:=hgr2.size; omega) ?_; intro v3 w3 hown3 hgr3 hnn3))
     have hs2:=hgr2.size
     have hg2:=hown2.lt g2 rfl
     obtain ⟨g3,cap3,rfl,ho3⟩:=fold_push (g:=g2) (cap:=cap2) (l:=l ++ [32]) (by rw [List.length_append,List.map_append]; exact hown3) (by rw [List.length_append]; exact hnn3)
     have hb3:=(hbA.grown hgr2 (by omega) (fun j e=>by simp [Value.ownBlock] at e; omega)).grown hgr3 (by omega) (fun j e=>by simp [Value.ownBlock] at e; omega)
     have hk3:=Hd ((hkA.out.grown hgr2 (by simp [Value.ownBlock]; omega)).grown hgr3 (by simp [Value.ownBlock]; omega))
     clear hown3 hnn3 hgr3 hown2 hgr2 hat2 hlt2
     go_roundw
     case rel=>exact ⟨k + n,g3,cap3,false,_,by omega,by go_num,rfl,rfl,hb3,hk3,ho3,by simp only [List.length_append,List.length_cons,List.length_nil]; omega,hnx⟩
     case measure=>simp [intOf]; omega
    ·rw [if_neg hap,List.append_nil] at hnx
     cases ap with
     | false=>
      clear hap
      go_wp2_with (at_builtin; refine Lib.wpList_append_own_string (P:=Tryz.prog) _ rfl (.tmp 37) (.tmp 38) 77 9 rfl (w.heap.size + 1) 5 i0 Tryz.underlying77 Tryz.underlying9 hi0 hz0 hz1 hz2 (.slice (some ⟨g,0,none⟩) l.length cap) l.length (l.map byteCell) rfl (by exact hown.out) z rfl (by unfold maxLen; omega) (by omega) (by omega) ?_; intro v3 w3 hown3 hgr3 hnn3)
      obtain ⟨g3,cap3,rfl,ho3⟩:=fold_push hown3 hnn3
      have hb3:=hbw.grown hgr3 (by omega) (fun j e=>by simp [Value.ownBlock] at e; omega)
      have hk3:=Hd (hbk2.out.grown hgr3 (by simp [Value.ownBlock]; omega))
      clear hown3 hnn3 hgr3
      go_roundw
      case rel=>exact ⟨k + n,g3,cap3,false,_,by omega,by go_num,rfl,rfl,hb3,hk3,ho3,by simp only [List.length_append,List.length_cons,List.length_nil]; omega,hnx⟩
      case measure=>simp [intOf]; omega
     | true=>
      have hl0 : l = []:=by
       cases l with
       | nil=>rfl
       | cons a l=>exact absurd ⟨rfl,by simp⟩ hap
      subst hl0
      clear hap
      go_wp2_with (at_builtin; refine Lib.wpList_append_own_string (P:=Tryz.prog) _ rfl (.tmp 37) (.tmp 38) 77 9 rfl (w.heap.size + 1) 5 i0 Tryz.underlying77 Tryz.underlying9 hi0 hz0 hz1 hz2 (.slice (some ⟨g,0,none⟩) 0 cap) 0 (List.map byteCell []) rfl (by exact hown.out) z rfl (by unfold maxLen; omega) (by omega) (by omega) ?_; intro v3 w3 hown3 hgr3 hnn3)
      obtain ⟨g3,cap3,rfl,ho3⟩:=fold_push hown3 hnn3
      have hb3:=hbw.grown hgr3 (by omega) (fun j e=>by simp [Value.ownBlock] at e; omega)
      have hk3:=Hd (hbk2.out.grown hgr3 (by simp [Value.ownBlock]; omega))
      clear hown3 hnn3 hgr3
      go_roundw
      case rel=>exact ⟨k + n,g3,cap3,false,_,by omega,by go_num,rfl,rfl,hb3,hk3,ho3,by simp only [List.length_append,List.length_cons,List.length_nil]; omega,hnx⟩
      case measure=>simp [intOf]; omega
  ·obtain rfl : k = s.size:=by omega
   have hcv:=run_convert_bytes_back (P:=Tryz.prog) wr 77 9 5 ⟨g,0,none⟩ cap l Tryz.underlying77 Tryz.underlying5 Tryz.underlying9 (fun j hj=>hown.out.cells (g:=g) rfl j _ (by rw [List.getElem?_map,List.getElem?_eq_getElem hj]; rfl))
   have hfin : Hid (foldOf s = ⟨l.toArray⟩):=Hd (by unfold foldOf; rw [hl.out,Nat.sub_self]; rfl)
   go_wp2
   go_ret
   exact ⟨by rw [hfin.out]; rfl,hbw⟩
end
section
open Go.RowKit Go.Maps
theorem right_any (s : ByteArray) (w : World) (hsz : s.size <= 1000000) :
  Calls Tryz.prog 28 #[.string s] w fun e w'=>e = .returned (.bool (decide (foldOf s = s))) /\ Below w.heap.size w w':=by
 have hcon:=Hd (fold_any s w hsz)
 have hfin:=Hd (tl_beq (foldOf s) s)
 go_enter Tryz.func28,Tryz.ntmps28
 go_wp2_with fail
 refine hcon.out.mono ?_
 rintro e w' ⟨rfl,hb⟩
 clear hcon
 go_wp2
 go_ret
 exact ⟨ret_bool hfin.out,hb⟩
end
section
open Go.RowKit Go.Maps
def isLetter (b : Int) : Bool:=decide (65 <= b) && decide (b <= 90)
def isDigit (b : Int) : Bool:=decide (48 <= b) && decide (b <= 57)
def isFlat (b : Int) : Bool:=isLetter b || isDigit b
theorem letter_any (b : Int) (w : World) : Calls Tryz.prog 137 #[.int .u8 b] w fun e w'=>e = .returned (.bool (isLetter b)) /\ w' = w:=by
 have hf:=Hd (show isLetter b = (decide (65 <= b) && decide (b <= 90)) from rfl)
 go_enter Tryz.func137,Tryz.ntmps137
 cases b1 : decide (65 <= b) <;> cases b2 : decide (b <= 90) <;> (rw [b1,b2] at hf; go_wp2; go_ret; exact ⟨ret_bool hf.out.symm,rfl⟩)
theorem digit_any (b : Int) (w : World) : Calls Tryz.prog 139 #[.int .u8 b] w fun e w'=>e = .returned (.bool (isDigit b)) /\ w' = w:=by
 have hf:=Hd (show isDigit b = (decide (48 <= b) && decide (b <= 57)) from rfl)
 go_enter Tryz.func139,Tryz.ntmps139
 cases b1 : decide (48 <= b) <;> cases b2 : decide (b <= 57) <;> (rw [b1,b2] at hf; go_wp2; go_ret; exact ⟨ret_bool hf.out.symm,rfl⟩)
theorem flat_any (b : Int) (w : World) : Calls Tryz.prog 134 #[.int .u8 b] w fun e w'=>e = .returned (.bool (isFlat b)) /\ w' = w:=by
 have h1:=Hd (letter_any b w)
 have h2:=Hd (digit_any b w)
 have hf:=Hd (show isFlat b = (isLetter b || isDigit b) from rfl)
 go_enter Tryz.func134,Tryz.ntmps134
 go_wp2_with fail
 refine h1.out.mono ?_
 rintro e w' ⟨rfl,rfl⟩
 cases b1 : isLetter b
 ·rw [b1] at hf
  go_wp2_with fail
  refine h2.out.mono ?_
  rintro e w' ⟨rfl,rfl⟩
  go_wp2
  go_ret
  exact ⟨ret_bool hf.out.symm,rfl⟩
 ·rw [b1] at hf
  go_wp2
  go_ret
  exact ⟨ret_bool hf.out.symm,rfl⟩
def allB (p : Int -> Bool) (s : ByteArray) : Bool:=(List.range s.size).all fun i=>p (byteAt s i)
theorem allB_true {p : Int -> Bool} {s : ByteArray} (h : ∀ i,i < s.size -> p (byteAt s i) = true) : allB p s = true:=by
 unfold allB
 rw [List.all_eq_true]
 intro i hi
 exact h i (List.mem_range.1 hi)
theorem allB_false {p : Int -> Bool} {s : ByteArray} {i : Nat} (hi : i < s.size) (h : p (byteAt s i) = false) : allB p s = false:=by
 unfold allB
 rw [List.all_eq_false]
 exact ⟨i,List.mem_range.2 hi,by simp [h]⟩
theorem all_digit' (p : Int -> Bool) (s : ByteArray) (w : World) (hsz : s.size <= 1000000) (hp : ∀ b : Int,Calls Tryz.prog 139 #[.int .u8 b] w fun e w'=>e = .returned (.bool (p b)) /\ w' = w) :
  Calls Tryz.prog 133 #[.string s,.func (.func 139) #[] #[]] w fun e w'=>e = .returned (.bool (allB p s)) /\ w' = w:=by
 have hp':=Hd hp
 clear hp
 go_enter Tryz.func133,Tryz.ntmps133
 go_wp2
 go_loop [5] (fun iv=>∃ k : Nat,k <= s.size /\ iv = .int .i64 k /\ Hid (∀ i,i < k -> p (byteAt s i) = true)) (fun iv=>s.size - (intOf iv).toNat)
 case atStart=>exact ⟨0,by omega,rfl,Hd fun i hi=>absurd hi (by omega)⟩
 case round=>
  obtain ⟨k,hk,rfl,hall⟩:=hrel
  have n0 : (0 : Int) <= (k : Int):=by omega
  by_cases hlt : k < s.size
  ·have n1 : (k : Int) < (s.size : Int):=by omega
   have hb : byteAt s k = (s[k]'hlt).toNat:=by unfold byteAt; rw [dif_pos hlt]
   have hcon:=hp'.out ((s[k]'hlt).toNat : Int)
   rw [<- hb] at hcon
   cases hpk : p (byteAt s k) with
   | true=>
    rw [hpk,hb] at hcon
    have hcon':=Hd hcon
    have hall' : Hid (∀ i,i < k + 1 -> p (byteAt s i) = true):=Hd fun i hi=>by
     rcases Nat.lt_or_ge i k with h | h
     ·exact hall.out i h
     ·obtain rfl : i = k:=by omega
      exact hpk
    clear hpk hb hcon
    go_wp2_with fail
    refine hcon'.out.mono ?_
    rintro e w' ⟨rfl,rfl⟩
    go_wp2
    go_round
    case rel=>exact ⟨k + 1,by omega,by go_num,hall'⟩
    case measure=>simp [intOf]; omega
   | false=>
    rw [hpk,hb] at hcon
    have hcon':=Hd hcon
    have hfin:=Hd (allB_false hlt hpk)
    clear hpk hb hcon
    go_wp2_with fail
    refine hcon'.out.mono ?_
    rintro e w' ⟨rfl,rfl⟩
    go_wp2
    go_ret
    exact ⟨ret_bool hfin.out.symm,rfl⟩
  ·obtain rfl : k = s.size:=by omega
   have hfin:=Hd (allB_true hall.out)
   go_wp2
   go_ret
   exact ⟨ret_bool hfin.out.symm,rfl⟩
theorem all_flat' (p : Int -> Bool) (s : ByteArray) (w : World) (hsz : s.size <= 1000000) (hp : ∀ b : Int,Calls Tryz.prog 134 #[.int .u8 b] w fun e w'=>e = .returned (.bool (p b)) /\ w' = w) :
  Calls Tryz.prog 133 #[.string s,.func (.func 134) #[] #[]] w fun e w'=>e = .returned (.bool (allB p s)) /\ w' = w:=by
 have hp':=Hd hp
 clear hp
 go_enter Tryz.func133,Tryz.ntmps133
 go_wp2
 go_loop [5] (fun iv=>∃ k : Nat,k <= s.size /\ iv = .int .i64 k /\ Hid (∀ i,i < k -> p (byteAt s i) = true)) (fun iv=>s.size - (intOf iv).toNat)
 case atStart=>exact ⟨0,by omega,rfl,Hd fun i hi=>absurd hi (by omega)⟩
 case round=>
  obtain ⟨k,hk,rfl,hall⟩:=hrel
  have n0 : (0 : Int) <= (k : Int):=by omega
  by_cases hlt : k < s.size
  ·have n1 : (k : Int) < (s.size : Int):=by omega
   have hb : byteAt s k = (s[k]'hlt).toNat:=by unfold byteAt; rw [dif_pos hlt]
   have hcon:=hp'.out ((s[k]'hlt).toNat : Int)
   rw [<- hb] at hcon
   cases hpk : p (byteAt s k) with
   | true=>
    rw [hpk,hb] at hcon
    have hcon':=Hd hcon
    have hall' : Hid (∀ i,i < k + 1 -> p (byteAt s i) = true):=Hd fun i hi=>by
     rcases Nat.lt_or_ge i k with h | h
     ·exact hall.out i h
     ·obtain rfl : i = k:=by omega
      exact hpk
    clear hpk hb hcon
    go_wp2_with fail
    refine hcon'.out.mono ?_
    rintro e w' ⟨rfl,rfl⟩
    go_wp2
    go_round
    case rel=>exact ⟨k + 1,by omega,by go_num,hall'⟩
    case measure=>simp [intOf]; omega
   | false=>
    rw [hpk,hb] at hcon
    have hcon':=Hd hcon
    have hfin:=Hd (allB_false hlt hpk)
    clear hpk hb hcon
    go_wp2_with fail
    refine hcon'.out.mono ?_
    rintro e w' ⟨rfl,rfl⟩
    go_wp2
    go_ret
    exact ⟨ret_bool hfin.out.symm,rfl⟩
  ·obtain rfl : k = s.size:=by omega
   have hfin:=Hd (allB_true hall.out)
   go_wp2
   go_ret
   exact ⟨ret_bool hfin.out.symm,rfl⟩
theorem all_digit (s : ByteArray) (w : World) (hsz : s.size <= 1000000) : Calls Tryz.prog 133 #[.string s,.func (.func 139) #[] #[]] w fun e w'=>e = .returned (.bool (allB isDigit s)) /\ w' = w:=all_digit' isDigit s w hsz fun b=>digit_any b w
theorem all_flat (s : ByteArray) (w : World) (hsz : s.size <= 1000000) : Calls Tryz.prog 133 #[.string s,.func (.func 134) #[] #[]] w fun e w'=>e = .returned (.bool (allB isFlat s)) /\ w' = w:=all_flat' isFlat s w hsz fun b=>flat_any b w
end
section
open Go.RowKit Go.Maps
def numberB (s : ByteArray) : Bool:=decide (0 < s.size) && decide (s.size <= 6) && decide (byteAt s 0 ≠ 48) && allB isDigit s
theorem empty_tl {s : ByteArray} : s.toList.isEmpty = decide (s.size = 0):=by
 rw [Lib.toList_data]
 cases h : s.data.toList with
 | nil=>
  have : s.size = 0:=by show s.data.size = 0; rw [<- Array.length_toList,h]; rfl
  simp [this]
 | cons a l=>
  have : s.size ≠ 0:=by show s.data.size ≠ 0; rw [<- Array.length_toList,h]; simp
  simp [this]
theorem number_any (s : ByteArray) (w : World) (hsz : s.size <= 1000000) : Calls Tryz.prog 129 #[.string s] w fun e w'=>e = .returned (.bool (numberB s)) /\ w' = w:=by
 have hcon:=Hd (all_digit s w hsz)
 rcases Nat.eq_zero_or_pos s.size with h0 | h0
 ·have e1 : s.toList.isEmpty = true:=by rw [empty_tl]; exact decide_eq_true h0
  have hf:=Hd (show numberB s = false from by unfold numberB; rw [h0]; rfl)
  clear h0 hcon
  go_enter Tryz.func129,Tryz.ntmps129
  go_wp2
  go_ret
  exact ⟨ret_bool hf.out.symm,rfl⟩
 ·have e1 : s.toList.isEmpty = false:=by rw [empty_tl]; exact decide_eq_false (by omega)
  by_cases h6 : s.size <= 6
  ·have h6' : (s.size : Int) <= 6:=by omega
   have hd6 : decide ((s.size : Int) <= 6) = true:=decide_eq_true h6'
   have hb0 : byteAt s 0 = (s[0]'h0).toNat:=by unfold byteAt; rw [dif_pos h0]
   by_cases h48 : byteAt s 0 = 48
   ·have hf:=Hd (show numberB s = false from by unfold numberB; rw [h48]; simp)
    have e2 : (((s[0]'h0).toNat : Int)) = 48:=by omega
    clear h48 hb0 hcon
    go_enter Tryz.func129,Tryz.ntmps129
    go_wp2_with (simp only [e2])
    go_ret
    exact ⟨ret_bool hf.out.symm,rfl⟩
   ·have hf:=Hd (show numberB s = allB isDigit s from by unfold numberB; rw [decide_eq_true h0,decide_eq_true h6,decide_eq_true h48]; rfl)
    have e2 : (((s[0]'h0).toNat : Int) == 48) = false:=by simp; omega
    have e3 : (((s[0]'h0).toNat : Int) != 48) = true:=by simp; omega
    clear h48 hb0
    go_enter Tryz.func129,Tryz.ntmps129
    go_wp2_with fail
    refine hcon.out.mono ?_
    rintro e w' ⟨rfl,rfl⟩
    go_wp2
    go_ret
    exact ⟨ret_bool hf.out.symm,rfl⟩
  ·have h6' : (6 : Int) < (s.size : Int):=by omega
   have hd6 : decide ((s.size : Int) <= 6) = false:=decide_eq_false (by omega)
   have hf:=Hd (show numberB s = false from by unfold numberB; rw [decide_eq_false h6]; simp)
   clear h6 hcon
   go_enter Tryz.func129,Tryz.ntmps129
   go_wp2
   go_ret
   exact ⟨ret_bool hf.out.symm,rfl⟩
def letteredB (s : ByteArray) : Bool:=decide (1 < s.size) && numberB (s.extract 0 (s.size - 1)) && isLetter (byteAt s (s.size - 1))
theorem lettered_any (s : ByteArray) (w : World) (hsz : s.size <= 1000000) : Calls Tryz.prog 130 #[.string s] w fun e w'=>e = .returned (.bool (letteredB s)) /\ w' = w:=by
 by_cases h1 : 1 < s.size
 ·obtain ⟨n,hn⟩ : ∃ n,s.size = n + 1:=⟨s.size - 1,by omega⟩
  have hs1 : s.size - 1 = n:=by omega
  have hi1 : (s.size : Int) - 1 = (n : Int):=by omega
  have n0 : (0 : Int) < (n : Int):=by omega
  have n1 : (0 : Int) <= (n : Int):=by omega
  have n2 : (n : Int) <= (s.size : Int):=by omega
  have n3 : (n : Int) < (s.size : Int):=by omega
  have hnl : n < s.size:=by omega
  have hcon:=Hd (number_any (s.extract 0 n) w (by rw [ByteArray.size_extract]; omega))
  have hlet:=Hd (letter_any ((s[n]'hnl).toNat : Int) w)
  have hb : byteAt s n = (s[n]'hnl).toNat:=by unfold byteAt; rw [dif_pos hnl]
  have hf:=Hd (show letteredB s = (numberB (s.extract 0 n) && isLetter ((s[n]'hnl).toNat : Int)) from by unfold letteredB; rw [hs1,decide_eq_true h1,hb]; rfl)
  clear hb
  go_enter Tryz.func130,Tryz.ntmps130
  go_wp2_with fail
  refine hcon.out.mono ?_
  rintro e w' ⟨rfl,rfl⟩
  cases hnb : numberB (s.extract 0 n) with
  | false=>
   rw [hnb] at hf
   clear hnb
   go_wp2
   go_ret
   exact ⟨ret_bool hf.out.symm,rfl⟩
  | true=>
   rw [hnb] at hf
   clear hnb
   go_wp2_with fail
   refine hlet.out.mono ?_
   rintro e w' ⟨rfl,rfl⟩
   go_wp2
   go_ret
   exact ⟨ret_bool hf.out.symm,rfl⟩
 ·have hf:=Hd (show letteredB s = false from by unfold letteredB; rw [decide_eq_false h1]; rfl)
  have n0 : (s.size : Int) - 1 <= 0:=by omega
  have n1 : decide (0 < (s.size : Int) - 1) = false:=decide_eq_false (by omega)
  go_enter Tryz.func130,Tryz.ntmps130
  go_wp2
  go_ret
  exact ⟨ret_bool hf.out.symm,rfl⟩
end
section
open Go.RowKit Go.Maps
def kindFn : Bool -> Value
 | true=>.func (.func 137) #[] #[]
 | false=>.func (.func 139) #[] #[]
def kindB : Bool -> Int -> Bool
 | true=>isLetter
 | false=>isDigit
def matchB (ks : List Bool) (s : ByteArray) : Bool:=decide (s.size = ks.length) && (List.range ks.length).all fun i=>kindB (ks.getD i false) (byteAt s i)
def IsKinds (w : World) (v : Value) (ks : List Bool) : Prop:=Sl w v ks.length fun b off i=>w.cell? ⟨b,off + i,none⟩ = some (kindFn (ks.getD i false))
theorem matchB_true {ks : List Bool} {s : ByteArray} (hs : s.size = ks.length) (h : ∀ i,i < ks.length -> kindB (ks.getD i false) (byteAt s i) = true) : matchB ks s = true:=by
 unfold matchB
 rw [decide_eq_true hs,Bool.true_and,List.all_eq_true]
 intro i hi
 exact h i (List.mem_range.1 hi)
theorem matchB_false {ks : List Bool} {s : ByteArray} {i : Nat} (hi : i < ks.length) (h : kindB (ks.getD i false) (byteAt s i) = false) : matchB ks s = false:=by
 unfold matchB
 have : ((List.range ks.length).all fun i=>kindB (ks.getD i false) (byteAt s i)) = false:=by
  rw [List.all_eq_false]
  exact ⟨i,List.mem_range.2 hi,by show ¬ (kindB (ks.getD i false) (byteAt s i) = true); rw [h]; exact Bool.false_ne_true⟩
 rw [this,Bool.and_false]
theorem matches_any (v : Value) (ks : List Bool) (s : ByteArray) (w : World) (hv : IsKinds w v ks) (hsz : s.size <= 1000000) : Calls Tryz.prog 136 #[.string s,v] w fun e w'=>e = .returned (.bool (matchB ks s)) /\ w' = w:=by
 obtain ⟨A,c,rfl,hn,hc,hA⟩:=hv
 unfold maxLen at hc
 have hA':=Hd hA
 have hlet:=Hd (fun b=>letter_any b w)
 have hdig:=Hd (fun b=>digit_any b w)
 clear hA
 by_cases he : s.size = ks.length
 ·have e1 : ((s.size : Int) == (ks.length : Int)) = true:=by simp; omega
  have e2 : ((s.size : Int) != (ks.length : Int)) = false:=by simp; omega
  go_enter Tryz.func136,Tryz.ntmps136
  go_wp2
  go_loop [14] (fun iv=>∃ k : Nat,k <= ks.length /\ iv = .int .i64 k /\ Hid (∀ i,i < k -> kindB (ks.getD i false) (byteAt s i) = true)) (fun iv=>ks.length - (intOf iv).toNat)
  case atStart=>exact ⟨0,by omega,rfl,Hd fun i hi=>absurd hi (by omega)⟩
  case round=>
   obtain ⟨k,hk,rfl,hall⟩:=hrel
   have n0 : (0 : Int) <= (k : Int):=by omega
   by_cases hlt : k < ks.length
   ·have n1 : (k : Int) < (ks.length : Int):=by omega
    have hlts : k < s.size:=by omega
    have n2 : (k : Int) < (s.size : Int):=by omega
    obtain ⟨b,off,rfl,hb,hi⟩:=hA'.out (by omega)
    have g:=hi k hlt
    have hbt : byteAt s k = (s[k]'hlts).toNat:=by unfold byteAt; rw [dif_pos hlts]
    have hstep:=Hd (show kindB (ks.getD k false) ((s[k]'hlts).toNat : Int) = true -> ∀ i,i < k + 1 -> kindB (ks.getD i false) (byteAt s i) = true from fun h i hi=>by
     rcases Nat.lt_or_ge i k with h2 | h2
     ·exact hall.out i h2
     ·obtain rfl : i = k:=by omega
      rw [hbt]; exact h)
    have hstop:=Hd (show kindB (ks.getD k false) ((s[k]'hlts).toNat : Int) = false -> matchB ks s = false from fun h=>matchB_false hlt (by rw [hbt]; exact h))
    clear hi hbt
    generalize ks.getD k false = kb at g hstep hstop
    cases kb with
    | true=>
     unfold kindFn at g
     unfold kindB at hstep hstop
     have hcon:=Hd (hlet.out ((s[k]'hlts).toNat : Int))
     cases hp : isLetter ((s[k]'hlts).toNat : Int) with
     | true=>
      rw [hp] at hcon
      have hall':=Hd (hstep.out hp)
      clear hp hstep hstop
      go_wp2_with fail
      refine hcon.out.mono ?_
      rintro e w' ⟨rfl,rfl⟩
      go_wp2
      go_round
      case rel=>exact ⟨k + 1,by omega,by go_num,hall'⟩
      case measure=>simp [intOf]; omega
     | false=>
      rw [hp] at hcon
      have hfin:=Hd (hstop.out hp)
      clear hp hstep hstop
      go_wp2_with fail
      refine hcon.out.mono ?_
      rintro e w' ⟨rfl,rfl⟩
      go_wp2
      go_ret
      exact ⟨ret_bool hfin.out.symm,rfl⟩
    | false=>
     unfold kindFn at g
     unfold kindB at hstep hstop
     have hcon:=Hd (hdig.out ((s[k]'hlts).toNat : Int))
     cases hp : isDigit ((s[k]'hlts).toNat : Int) with
     | true=>
      rw [hp] at hcon
      have hall':=Hd (hstep.out hp)
      clear hp hstep hstop
      go_wp2_with fail
      refine hcon.out.mono ?_
      rintro e w' ⟨rfl,rfl⟩
      go_wp2
      go_round
      case rel=>exact ⟨k + 1,by omega,by go_num,hall'⟩
      case measure=>simp [intOf]; omega
     | false=>
      rw [hp] at hcon
      have hfin:=Hd (hstop.out hp)
      clear hp hstep hstop
      go_wp2_with fail
      refine hcon.out.mono ?_
      rintro e w' ⟨rfl,rfl⟩
      go_wp2
      go_ret
      exact ⟨ret_bool hfin.out.symm,rfl⟩
   ·obtain rfl : k = ks.length:=by omega
    have hfin:=Hd (matchB_true he hall.out)
    go_wp2
    go_ret
    exact ⟨ret_bool hfin.out.symm,rfl⟩
 ·have e1 : ((s.size : Int) == (ks.length : Int)) = false:=by simp; omega
  have e2 : ((s.size : Int) != (ks.length : Int)) = true:=by simp; omega
  have hfin:=Hd (show matchB ks s = false from by unfold matchB; rw [decide_eq_false he,Bool.false_and])
  go_enter Tryz.func136,Tryz.ntmps136
  go_wp2
  go_ret
  exact ⟨ret_bool hfin.out.symm,rfl⟩
theorem kinds_blk {w : World} {g : Nat} {t : TypeId} {ks : List Bool} {cs : Array Value} (h : Blk w g t cs) (hcs : cs = (ks.map kindFn).toArray) (hl : ks.length <= 1000) : IsKinds w (.slice (some ⟨g,0,none⟩) ks.length ks.length) ks:=
 ⟨_,_,rfl,lQ _,by unfold maxLen; omega,fun _=>⟨g,0,rfl,h.lt,fun i hi=>by
  show w.cell? ⟨g,0 + i,none⟩ = some (kindFn (ks.getD i false))
  rw [Nat.zero_add,h.cell i,hcs,getD_at _ _ _ hi,List.getElem?_toArray,List.getElem?_map,List.getElem?_eq_getElem hi]; rfl⟩⟩
theorem region_any (s : ByteArray) (w : World) (hsz : s.size <= 1000000) : Calls Tryz.prog 135 #[.string s] w fun e w'=>e = .returned (.bool (matchB [true,true] s)) /\ Below w.heap.size w w':=by
 have hcon:=Hd (matches_any _ [true,true] s _ (kinds_blk (ks:=[true,true]) (Blk.new w 175 #[.func (.func 137) #[] #[],.func (.func 137) #[] #[]]) rfl (by decide)) hsz)
 have hend : Below w.heap.size w (w.alloc (.cells #[.func (.func 137) #[] #[],.func (.func 137) #[] #[]] 175)):=(Below.refl _ _).alloc (lQ _) _
 go_enter Tryz.func135,Tryz.ntmps135
 go_wp2_with fail
 refine hcon.out.mono ?_
 rintro e w' ⟨rfl,rfl⟩
 go_wp2
 go_ret
 exact ⟨rfl,hend⟩
end
section
open Go.RowKit Go.Maps
theorem codeA_any (s : ByteArray) (w : World) (hsz : s.size <= 1000000) : Calls Tryz.prog 138 #[.string s] w fun e w'=>e = .returned (.bool (matchB [false,false,false,false,false] s)) /\ Below w.heap.size w w':=by
 have hcon:=Hd (matches_any _ [false,false,false,false,false] s _ (kinds_blk (ks:=[false,false,false,false,false]) (Blk.new w 175 #[.func (.func 139) #[] #[],.func (.func 139) #[] #[],.func (.func 139) #[] #[],.func (.func 139) #[] #[],.func (.func 139) #[] #[]]) rfl (by decide)) hsz)
 have hend : Below w.heap.size w (w.alloc (.cells #[.func (.func 139) #[] #[],.func (.func 139) #[] #[],.func (.func 139) #[] #[],.func (.func 139) #[] #[],.func (.func 139) #[] #[]] 175)):=(Below.refl _ _).alloc (lQ _) _
 go_enter Tryz.func138,Tryz.ntmps138
 go_wp2_with fail
 refine hcon.out.mono ?_
 rintro e w' ⟨rfl,rfl⟩
 go_wp2
 go_ret
 exact ⟨rfl,hend⟩
theorem codeB_any (s : ByteArray) (w : World) (hsz : s.size <= 1000000) : Calls Tryz.prog 140 #[.string s] w fun e w'=>e = .returned (.bool (matchB [true,false,true,false,true,false] s)) /\ Below w.heap.size w w':=by
 have hcon:=Hd (matches_any _ [true,false,true,false,true,false] s _ (kinds_blk (ks:=[true,false,true,false,true,false]) (Blk.new w 175 #[.func (.func 137) #[] #[],.func (.func 139) #[] #[],.func (.func 137) #[] #[],.func (.func 139) #[] #[],.func (.func 137) #[] #[],.func (.func 139) #[] #[]]) rfl (by decide)) hsz)
 have hend : Below w.heap.size w (w.alloc (.cells #[.func (.func 137) #[] #[],.func (.func 139) #[] #[],.func (.func 137) #[] #[],.func (.func 139) #[] #[],.func (.func 137) #[] #[],.func (.func 139) #[] #[]] 175)):=(Below.refl _ _).alloc (lQ _) _
 go_enter Tryz.func140,Tryz.ntmps140
 go_wp2_with fail
 refine hcon.out.mono ?_
 rintro e w' ⟨rfl,rfl⟩
 go_wp2
 go_ret
 exact ⟨rfl,hend⟩
theorem first3_any (s : ByteArray) (w : World) (hsz : s.size <= 1000000) : Calls Tryz.prog 141 #[.string s] w fun e w'=>e = .returned (.bool (matchB [true,false,true] s)) /\ Below w.heap.size w w':=by
 have hcon:=Hd (matches_any _ [true,false,true] s _ (kinds_blk (ks:=[true,false,true]) (Blk.new w 175 #[.func (.func 137) #[] #[],.func (.func 139) #[] #[],.func (.func 137) #[] #[]]) rfl (by decide)) hsz)
 have hend : Below w.heap.size w (w.alloc (.cells #[.func (.func 137) #[] #[],.func (.func 139) #[] #[],.func (.func 137) #[] #[]] 175)):=(Below.refl _ _).alloc (lQ _) _
 go_enter Tryz.func141,Tryz.ntmps141
 go_wp2_with fail
 refine hcon.out.mono ?_
 rintro e w' ⟨rfl,rfl⟩
 go_wp2
 go_ret
 exact ⟨rfl,hend⟩
theorem last3_any (s : ByteArray) (w : World) (hsz : s.size <= 1000000) : Calls Tryz.prog 142 #[.string s] w fun e w'=>e = .returned (.bool (matchB [false,true,false] s)) /\ Below w.heap.size w w':=by
 have hcon:=Hd (matches_any _ [false,true,false] s _ (kinds_blk (ks:=[false,true,false]) (Blk.new w 175 #[.func (.func 139) #[] #[],.func (.func 137) #[] #[],.func (.func 139) #[] #[]]) rfl (by decide)) hsz)
 have hend : Below w.heap.size w (w.alloc (.cells #[.func (.func 139) #[] #[],.func (.func 137) #[] #[],.func (.func 139) #[] #[]] 175)):=(Below.refl _ _).alloc (lQ _) _
 go_enter Tryz.func142,Tryz.ntmps142
 go_wp2_with fail
 refine hcon.out.mono ?_
 rintro e w' ⟨rfl,rfl⟩
 go_wp2
 go_ret
 exact ⟨rfl,hend⟩
theorem codeC_any (s : ByteArray) (w : World) (hsz : s.size <= 1000000) : Calls Tryz.prog 143 #[.string s] w fun e w'=>e = .returned (.bool (matchB [false,false,false,false] s)) /\ Below w.heap.size w w':=by
 have hcon:=Hd (matches_any _ [false,false,false,false] s _ (kinds_blk (ks:=[false,false,false,false]) (Blk.new w 175 #[.func (.func 139) #[] #[],.func (.func 139) #[] #[],.func (.func 139) #[] #[],.func (.func 139) #[] #[]]) rfl (by decide)) hsz)
 have hend : Below w.heap.size w (w.alloc (.cells #[.func (.func 139) #[] #[],.func (.func 139) #[] #[],.func (.func 139) #[] #[],.func (.func 139) #[] #[]] 175)):=(Below.refl _ _).alloc (lQ _) _
 go_enter Tryz.func143,Tryz.ntmps143
 go_wp2_with fail
 refine hcon.out.mono ?_
 rintro e w' ⟨rfl,rfl⟩
 go_wp2
 go_ret
 exact ⟨rfl,hend⟩
def flatB (s : ByteArray) : Bool:=decide (0 < s.size) && decide (s.size <= 6) && allB isFlat s
theorem flats_any (s : ByteArray) (w : World) (hsz : s.size <= 1000000) : Calls Tryz.prog 132 #[.string s] w fun e w'=>e = .returned (.bool (flatB s)) /\ w' = w:=by
 have hcon:=Hd (all_flat s w hsz)
 rcases Nat.eq_zero_or_pos s.size with h0 | h0
 ·have e1 : s.toList.isEmpty = true:=by rw [empty_tl]; exact decide_eq_true h0
  have hf:=Hd (show flatB s = false from by unfold flatB; rw [h0]; rfl)
  clear h0 hcon
  go_enter Tryz.func132,Tryz.ntmps132
  go_wp2
  go_ret
  exact ⟨ret_bool hf.out.symm,rfl⟩
 ·have e1 : s.toList.isEmpty = false:=by rw [empty_tl]; exact decide_eq_false (by omega)
  by_cases h6 : s.size <= 6
  ·have h6' : (s.size : Int) <= 6:=by omega
   have hd6 : decide ((s.size : Int) <= 6) = true:=decide_eq_true h6'
   have hf:=Hd (show flatB s = allB isFlat s from by unfold flatB; rw [decide_eq_true h0,decide_eq_true h6]; rfl)
   go_enter Tryz.func132,Tryz.ntmps132
   go_wp2_with fail
   refine hcon.out.mono ?_
   rintro e w' ⟨rfl,rfl⟩
   go_wp2
   go_ret
   exact ⟨ret_bool hf.out.symm,rfl⟩
  ·have h6' : (6 : Int) < (s.size : Int):=by omega
   have hd6 : decide ((s.size : Int) <= 6) = false:=decide_eq_false (by omega)
   have hf:=Hd (show flatB s = false from by unfold flatB; rw [decide_eq_false h6]; simp)
   clear h6 hcon
   go_enter Tryz.func132,Tryz.ntmps132
   go_wp2
   go_ret
   exact ⟨ret_bool hf.out.symm,rfl⟩
end
section
open Go.RowKit Go.Maps
def isNameB (b : Int) : Bool:=isFlat b || (b == 45)
theorem name1_any (b : Int) (ltr : Bool) (g : Nat) (w : World) (hb : Blk w g 4 #[.bool ltr]) :
  Calls Tryz.prog 186 #[.int .u8 b,.pointer (some ⟨g,0,none⟩)] w fun e w'=>e = .returned (.bool (isNameB b)) /\ w' = w.setCell ⟨g,0,none⟩ (.bool (ltr || isLetter b)):=by
 have c0:=hb.cell 0
 have f0:=hb.frozen 0
 have hg:=hb.lt
 simp at c0
 have hlet:=Hd (letter_any b w)
 have hflat:=Hd (fun w=>flat_any b w)
 have hf:=Hd (show isNameB b = (isFlat b || (b == 45)) from rfl)
 clear hb
 cases ltr with
 | true=>
  go_enter Tryz.func186,Tryz.ntmps186
  go_wp2_with fail
  refine (hflat.out _).mono ?_
  rintro e w' ⟨rfl,rfl⟩
  cases h1 : isFlat b <;> cases h2 : (b == 45) <;> (rw [h1,h2] at hf; go_wp2; go_ret; exact ⟨ret_bool hf.out.symm,rfl⟩)
 | false=>
  go_enter Tryz.func186,Tryz.ntmps186
  go_wp2_with fail
  refine hlet.out.mono ?_
  rintro e w' ⟨rfl,rfl⟩
  cases h3 : isLetter b <;>
  ·go_wp2_with fail
   refine (hflat.out _).mono ?_
   rintro e w' ⟨rfl,rfl⟩
   cases h1 : isFlat b <;> cases h2 : (b == 45) <;> (rw [h1,h2] at hf; go_wp2; go_ret; exact ⟨ret_bool hf.out.symm,by rw [h3]; rfl⟩)
def anyTo (s : ByteArray) (k : Nat) : Bool:=(List.range k).any fun i=>isLetter (byteAt s i)
theorem anyTo_succ (s : ByteArray) (k : Nat) : anyTo s (k + 1) = (anyTo s k || isLetter (byteAt s k)):=by
 unfold anyTo
 rw [List.range_succ,List.any_append]
 simp
theorem all_name (s : ByteArray) (g B : Nat) (W w : World) (hsz : s.size <= 1000000) (hB : B <= g) (hw : Below B W w) (hg : Blk w g 4 #[.bool false]) :
  Calls Tryz.prog 133 #[.string s,.func (.func 186) #[] #[.pointer (some ⟨g,0,none⟩)]] w fun e w'=>e = .returned (.bool (allB isNameB s)) /\ Below B W w' /\ (allB isNameB s = true -> Blk w' g 4 #[.bool (anyTo s s.size)]):=by
 have hg':=Hd hg
 have hw':=Hd hw
 clear hg hw
 go_enter Tryz.func133,Tryz.ntmps133
 go_wp2
 go_loopw [5] (fun iv wr=>∃ k : Nat,k <= s.size /\ iv = .int .i64 k /\ Hid (Below B W wr) /\ Hid (Blk wr g 4 #[.bool (anyTo s k)]) /\ Hid (∀ i,i < k -> isNameB (byteAt s i) = true)) (fun iv _=>s.size - (intOf iv).toNat)
 case atStart=>exact ⟨0,by omega,rfl,hw',hg',Hd fun i hi=>absurd hi (by omega)⟩
 case round=>
  obtain ⟨k,hk,rfl,hbw,hbk,hall⟩:=hrel
  rename World=>wr
  have n0 : (0 : Int) <= (k : Int):=by omega
  by_cases hlt : k < s.size
  ·have n1 : (k : Int) < (s.size : Int):=by omega
   have hb : byteAt s k = (s[k]'hlt).toNat:=by unfold byteAt; rw [dif_pos hlt]
   have hcon:=name1_any ((s[k]'hlt).toNat : Int) (anyTo s k) g wr hbk.out
   have hb2:=Hd (hbw.out.setCell (p:=⟨g,0,none⟩) hB (.bool (anyTo s (k + 1))))
   have hk2:=hbk.out.set_ 0 (.bool (anyTo s (k + 1)))
   have hk3 : Hid (Blk (wr.setCell ⟨g,0,none⟩ (.bool (anyTo s (k + 1)))) g 4 #[.bool (anyTo s (k + 1))]):=Hd (by simpa using hk2)
   have e1 : (anyTo s k || isLetter ((s[k]'hlt).toNat : Int)) = anyTo s (k + 1):=by rw [anyTo_succ,hb]
   rw [e1] at hcon
   clear hk2 e1
   cases hpk : isNameB ((s[k]'hlt).toNat : Int) with
   | true=>
    rw [hpk] at hcon
    have hcon':=Hd hcon
    have hall' : Hid (∀ i,i < k + 1 -> isNameB (byteAt s i) = true):=Hd fun i hi=>by
     rcases Nat.lt_or_ge i k with h | h
     ·exact hall.out i h
     ·obtain rfl : i = k:=by omega
      rw [hb]; exact hpk
    clear hpk hb hcon
    go_wp2_with fail
    refine hcon'.out.mono ?_
    rintro e w' ⟨rfl,rfl⟩
    go_wp2
    go_roundw
    case rel=>exact ⟨k + 1,by omega,by go_num,hb2,hk3,hall'⟩
    case measure=>simp [intOf]; omega
   | false=>
    have hfin:=Hd (allB_false (p:=isNameB) hlt (by rw [hb]; exact hpk))
    rw [hpk] at hcon
    have hcon':=Hd hcon
    clear hpk hb hcon
    go_wp2_with fail
    refine hcon'.out.mono ?_
    rintro e w' ⟨rfl,rfl⟩
    go_wp2
    go_ret
    exact ⟨ret_bool hfin.out.symm,hb2.out,fun h=>by rw [hfin.out] at h; cases h⟩
  ·obtain rfl : k = s.size:=by omega
   have hfin:=Hd (allB_true hall.out)
   go_wp2
   go_ret
   exact ⟨ret_bool hfin.out.symm,hbw.out,fun _=>hbk.out⟩
end
section
open Go.RowKit Go.Maps
def nameB (s : ByteArray) : Bool:=allB isNameB s && anyTo s s.size
theorem name_any (s : ByteArray) (w : World) (hsz : s.size <= 1000000) : Calls Tryz.prog 131 #[.string s] w fun e w'=>e = .returned (.bool (nameB s)) /\ Below w.heap.size w w':=by
 have hup : Below w.heap.size w (w.alloc (.cells #[.bool false] 4)):=(Below.refl _ _).alloc (lQ _) _
 have hcon:=Hd (all_name s w.heap.size w.heap.size w _ hsz (lQ _) hup (Blk.new w 4 #[.bool false]))
 have hf:=Hd (show nameB s = (allB isNameB s && anyTo s s.size) from rfl)
 clear hup
 go_enter Tryz.func131,Tryz.ntmps131
 go_wp2_with fail
 refine hcon.out.mono ?_
 rintro e w1 ⟨rfl,hb,hk⟩
 clear hcon
 cases h1 : allB isNameB s with
 | false=>
  rw [h1] at hf
  clear hk h1
  go_wp2
  go_ret
  exact ⟨ret_bool hf.out.symm,hb⟩
 | true=>
  rw [h1] at hf
  have c0:=(hk h1).cell 0
  simp at c0
  clear hk h1
  go_wp2
  go_ret
  exact ⟨ret_bool hf.out.symm,hb⟩
def hasBit (ks k : Nat) : Bool:=(ks >>> k) % 2 == 1
theorem shr_and : ∀ ks : Fin 64,∀ k : Fin 6,(bits BinOp.and IntKind.u8 (((ks.val : Nat) : Int) / 2 ^ k.val) 1 == 1) = hasBit ks.val k.val:=by decide +kernel
theorem classes1_any (k : Int) (a : Nat) (w : World) : Calls Tryz.prog 127 #[.int .u8 k,.pointer (some ⟨a,0,none⟩)] w fun e w'=>e = .returned (.func (.func 128) #[] #[.pointer (some ⟨a,0,none⟩),.pointer (some ⟨w.heap.size,0,none⟩)]) /\ w' = w.alloc (.cells #[.int .u8 k] 5):=by
 go_enter Tryz.func127,Tryz.ntmps127
 go_wp2
 go_ret
 exact ⟨rfl,rfl⟩
theorem classes11_any (s : ByteArray) (ks : Fin 64) (k : Fin 6) (a b : Nat) (w : World) (ha : w.cell? ⟨a,0,none⟩ = some (.int .u8 ((ks.val : Nat) : Int))) (hb : w.cell? ⟨b,0,none⟩ = some (.int .u8 ((k.val : Nat) : Int))) :
  Calls Tryz.prog 128 #[.string s,.pointer (some ⟨a,0,none⟩),.pointer (some ⟨b,0,none⟩)] w fun e w'=>e = .returned (.bool (hasBit ks.val k.val)) /\ w' = w:=by
 have h1:=shr_and ks k
 go_enter Tryz.func128,Tryz.ntmps128
 go_wp2
 go_ret
 exact ⟨rfl,rfl⟩
end
end Go.Proofs.YteclineblddpbaaGreatDoorR
