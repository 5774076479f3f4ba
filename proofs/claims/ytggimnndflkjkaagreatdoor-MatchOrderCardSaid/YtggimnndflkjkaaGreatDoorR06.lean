import Derived.Test.YtggimnndflkjkaaGreatDoorR01
import Derived.Test.YtggimnndflkjkaaGreatDoorR05
import Derived.Maps.Own
import Derived.Maps.OwnSet
import Derived.Maps.Views
import Derived.DeepKeys4
import Derived.KernelRfl
set_option linter.all false
set_option maxRecDepth 100000
set_option maxHeartbeats 0
namespace Go.Proofs.YtggimnndflkjkaaGreatDoor
section
open Go.RowKit Go.Maps
def zyE (ws : List ByteArray) : ByteArray:=⟨(Lib.join (ws.map (·.data.toList)) [32]).toArray⟩
def zsD (x : ByteArray) : ByteArray:=(zaQ 5 x).headD x
def zij (s : ByteArray) : Bool:=decide (zhk s = s) && decide (0 < (zdu s).length) && decide ((zdu s).length <= 4) && (zdu s).all fun x=>zaF x 2
def zoI (s : ByteArray) : ByteArray × Bool:=if zij s then (zyE ((zdu s).map zsD),true) else (⟨#[]⟩,false)
theorem zjJ (s : ByteArray) : ∀ i,i <= s.size + 1 -> ∀ x ∈ (zaS s i).2,x.size <= s.size
 | 0,_,x,h=>by simp [zaS] at h
 | i + 1,hi,x,h=>by
  have ih:=zjJ s i (by omega);unfold zaS at h
  split at h
  ·exact ih x h
  ·simp only [] at h
   split at h
   ·rcases List.mem_append.1 h with h | h
    ·exact ih x h
    ·rw [mS.1 h,ByteArray.size_extract]
     omega
   ·exact ih x h
theorem zpy {s x : ByteArray} (h : x ∈ zdu s) : x.size <= s.size:=zjJ s _ (lQ _) x h
theorem zhF (kd : Int) (s : ByteArray) : ∀ k,∀ l ∈ zea (zaY.filter (zdn kd s)) k,k <= (zaY.filter (zdn kd s)).length -> l.size <= 20
 | 0,l,h,_=>by simp [zea] at h
 | k + 1,l,h,hk=>by
  rw [zgC _ _ hk] at h;unfold zhv at h
  split at h
  ·exact zhF kd s k l h (by omega)
  ·rcases List.mem_append.1 h with h | h
   ·exact zhF kd s k l h (by omega)
   ·rw [mS.1 h,zD _ _ _ hk]
    exact (zmQ _ (List.mem_filter.1 (List.getElem_mem hk)).1).1
theorem zjy {kd : Int} {s l : ByteArray} (h : l ∈ zaQ kd s) : l.size <= 20:=
 zhF kd s _ l (by unfold zea; rw [List.take_length]; exact h) (lQ _)
theorem zuH (x : ByteArray) : (zsD x).size <= x.size + 20:=by
 unfold zsD
 cases h : zaQ 5 x with
 | nil=>simp
 | cons l t=>
  have:=zjy (kd:=5) (s:=x) (l:=l) (by rw [h]; exact List.mem_cons_self ..);simp; omega
theorem zjv (sep : List UInt8) (M : Nat) : ∀ r : List (List UInt8),(∀ x ∈ r,x.length <= M) -> (Lib.joinTail sep r).length <= r.length * (M + sep.length)
 | [],_=>by simp [Lib.joinTail]
 | x :: r,h=>by
  have ih:=zjv sep M r fun y hy=>h y (List.mem_cons_of_mem _ hy);have hx:=h x (List.mem_cons_self ..);unfold Lib.joinTail at ih ⊢;rw [List.map_cons,List.flatten_cons,List.length_append,List.length_append,List.length_cons,Nat.succ_mul];omega
theorem zwW (sep : List UInt8) (M : Nat) (xs : List (List UInt8)) (h : ∀ x ∈ xs,x.length <= M) : (Lib.join xs sep).length <= xs.length * (M + sep.length):=by
 cases xs with
 | nil=>simp [Lib.join_nil]
 | cons x r=>
  rw [Lib.join_cons,List.length_append,List.length_cons,Nat.succ_mul];have h1:=zjv sep M r fun y hy=>h y (List.mem_cons_of_mem _ hy);have h2:=h x (List.mem_cons_self ..);omega
def zia (ws : List ByteArray) (k : Nat) : List ByteArray:=(ws.take k).map zsD ++ ws.drop k
theorem zuG (ws : List ByteArray) (k : Nat) (h : k <= ws.length) : (zia ws k).length = ws.length:=by
 unfold zia;rw [List.length_append,List.length_map,List.length_take,List.length_drop];omega
theorem znk (ws : List ByteArray) (k : Nat) (h : k < ws.length) : (zia ws k)[k]? = some ws[k]:=by
 unfold zia;rw [List.getElem?_append_right (by simp; omega),List.length_map,List.length_take,Nat.min_eq_left (by omega),Nat.sub_self,List.getElem?_drop,Nat.add_zero,List.getElem?_eq_getElem h]
theorem zsC (ws : List ByteArray) (k : Nat) (h : k < ws.length) : (zia ws k).set k (zsD ws[k]) = zia ws (k + 1):=by
 unfold zia;rw [List.take_succ_eq_append_getElem h,List.map_append,List.append_assoc,List.set_append_right _ _ (by simp; omega),List.length_map,List.length_take,Nat.min_eq_left (by omega),Nat.sub_self,List.drop_eq_getElem_cons h,sZ];rfl
theorem zuF (ws : List ByteArray) : zia ws ws.length = ws.map zsD:=by
 unfold zia;rw [List.take_length,List.drop_length,List.append_nil]
theorem zzX {B : Nat} {w : World} {g n c : Nat} {l : List ByteArray} (h : zbb B w (.slice (some ⟨g,0,none⟩) n c) l) : n = l.length:=by
 rcases h.1.2 with ⟨e,h1⟩ | ⟨g,cap,cur,e,hb,hg,h1,h2,h3⟩
 ·cases e
 ·exact (Value.slice.inj e).2.1
theorem zxu {α : Type} {l : List α} {i : Nat} {a : α} (h : l[i]? = some a) : l.set i a = l:=by
 obtain ⟨hi,rfl⟩:=List.getElem?_eq_some_iff.1 h;exact List.set_getElem_self hi
theorem zki {B : Nat} {w : World} {g n c : Nat} {l : List ByteArray} (h : zbb B w (.slice (some ⟨g,0,none⟩) n c) l) (i : Nat) (x : ByteArray) (hx : l[i]? = some x) : w.cell? ⟨g,i,none⟩ = some (.string x):=by
 obtain ⟨hi,rfl⟩:=List.getElem?_eq_some_iff.1 hx;obtain rfl:=zzX h;rw [h.1.cellAt i (show i < l.length * 1 from by omega)];have:=zgP strCells 1 (fun _=>rfl) l i 0 hi (by decide);simpa [strCells] using this
theorem ztk {B : Nat} {w : World} {g n c : Nat} {l : List ByteArray} (h : zbb B w (.slice (some ⟨g,0,none⟩) n c) l) (i : Nat) : w.frozen? ⟨g,i,none⟩ = false:=zho h.1 rfl i
theorem zyL {B : Nat} {w : World} {g n c : Nat} {l : List ByteArray} (h : zbb B w (.slice (some ⟨g,0,none⟩) n c) l) (i : Nat) (hi : i < l.length) (x : ByteArray) (hx : x.size <= maxLen) :
  zbb B (w.setCell ⟨g,i,none⟩ (.string x)) (.slice (some ⟨g,0,none⟩) n c) (l.set i x):=by
 have:=zaw.setOne (E:=9) (k:=1) (cells:=strCells) (I:=zyT) zaA (fun _=>rfl) h rfl i 0 hi (by decide) (.string x) x rfl hx;simpa using this
theorem zbb.ref {B : Nat} {w : World} {v : Value} {l : List ByteArray} (h : zbb B w v l) (h0 : 0 < l.length) : ∃ g c,v = .slice (some ⟨g,0,none⟩) l.length c /\ B <= g /\ g < w.heap.size /\ l.length <= c /\ c <= maxLen:=by
 rcases h.1.2 with ⟨e,h1⟩ | ⟨g,cap,cur,e,hb,hg,h1,h2,h3⟩
 ·omega
 ·exact ⟨g,cap,e,hb,(Array.getElem?_eq_some_iff.1 hg).1,h1,h2⟩
theorem zyK {B : Nat} {w : World} {v : Value} {l : List ByteArray} (h : zbb B w v l) : ∃ A c,v = .slice A l.length c /\ l.length <= c /\ c <= maxLen:=by
 rcases h.1.2 with ⟨e,h1⟩ | ⟨g,cap,cur,e,hb,hg,h1,h2,h3⟩
 ·exact ⟨none,0,by rw [e,h1],by omega,by unfold maxLen; omega⟩
 ·exact ⟨_,cap,e,h1,h2⟩
theorem zyH (s : ByteArray) (w : World) (hs : s.size <= 1000000) (hpl : zkv s) :
  Calls Tryz.prog 84 #[.string s] w fun e w'=>e = .returned (.tuple #[.string (zoI s).1,.bool (zoI s).2]) /\ Below w.heap.size w w':=by
 have hr:=Hd (zvJ s w hs hpl);have hok : Hid (zij s = (decide (zhk s = s) && decide (0 < (zdu s).length) && decide ((zdu s).length <= 4) && (zdu s).all fun x=>zaF x 2)):=Hd rfl;have hP : Hid (zoI s = if zij s then (zyE ((zdu s).map zsD),true) else (⟨#[]⟩,false)):=Hd rfl;go_enter Tryz.func84,Tryz.ntmps84;go_wp2_with fail;refine hr.out.mono ?_;rintro e w1 ⟨rfl,hb1⟩;by_cases hf : zhk s = s
 case neg=>
  have hd : decide (zhk s = s) = false:=decide_eq_false hf;rw [hd] at hok;have hno : Hid (zij s = false):=Hd (by rw [hok.out]; rfl);clear hf;go_wp2
  go_ret2
  exact ⟨by rw [hP.out,hno.out]; rfl,hb1⟩
 have hd : decide (zhk s = s) = true:=decide_eq_true hf;rw [hd] at hok;clear hf;have hwd:=Hd (zwp s w1 hs);have hs1:=hb1.size;have hws:=Hd (show ∀ x ∈ zdu s,x.size <= 1000000 from fun x hx=>Nat.le_trans (zpy hx) hs);go_wp2_with fail;refine hwd.out.mono ?_;rintro e w2 ⟨v,rfl,hv,hb2⟩;have hb12:=hb1.trans (hb2.mono hs1);clear hwd;generalize zdu s = ws at *;obtain ⟨A,c,rfl,hlc,hcm⟩:=zyK hv;unfold maxLen at hcm;by_cases h0 : ws.length = 0
 ·have e0 : ((ws.length : Int) == 0) = true:=by simp [h0]
  have hno : Hid (zij s = false):=Hd (by rw [hok.out,h0]; rfl);go_wp2
  go_ret2
  exact ⟨by rw [hP.out,hno.out]; rfl,hb12⟩
 have e0 : ((ws.length : Int) == 0) = false:=beq_eq_false_iff_ne.2 (by omega);by_cases h4 : 4 < ws.length
 ·have e4 : decide ((4 : Int) < (ws.length : Int)) = true:=decide_eq_true (by omega)
  have hno : Hid (zij s = false):=Hd (by rw [hok.out,decide_eq_false (show ¬ ws.length <= 4 from by omega)]; simp);go_wp2
  go_ret2
  exact ⟨by rw [hP.out,hno.out]; rfl,hb12⟩
 have e4 : decide ((4 : Int) < (ws.length : Int)) = false:=decide_eq_false (by omega);have n4 : (ws.length : Int) <= 4:=by omega
 have hok2 : Hid (zij s = ws.all fun x=>zaF x 2):=Hd (by rw [hok.out,decide_eq_true (show 0 < ws.length from by omega),decide_eq_true (show ws.length <= 4 from by omega)]; simp);obtain ⟨g,c2,he,hg1,hg2,_,_⟩:=hv.ref (Nat.pos_of_ne_zero h0);obtain ⟨rfl,-,rfl⟩:=Value.slice.inj he;clear he hok h0 h4;have hv':=Hd (hv.base zaA hs1);clear hv;go_wp2
 go_loopw [23] (fun iv wr=>∃ k : Nat,k <= ws.length /\ iv = .int .i64 k /\ Below w.heap.size w wr /\ zbb w.heap.size wr (.slice (some ⟨g,0,none⟩) ws.length c) (zia ws k) /\ Hid (∀ i,i < k -> ∀ x,ws[i]? = some x -> zaF x 2 = true)) (fun iv _=>ws.length - (intOf iv).toNat)
 case atStart=>exact ⟨0,by omega,rfl,hb12,hv'.out,Hd fun i hi=>absurd hi (by omega)⟩
 case round=>
  obtain ⟨k,hk,rfl,hbw,hown,hall⟩:=hrel;rename World=>wr;have hs0:=hbw.size;have n0 : (0 : Int) <= (k : Int):=by omega
  have hlen:=Hd (zuG ws k hk);have hown':=Hd hown;clear hown;by_cases hlt : k < ws.length
  ·have n1 : (k : Int) < (ws.length : Int):=by omega
   have c1:=zki hown'.out k ws[k] (znk ws k hlt);have hx:=hws.out ws[k] (List.getElem_mem hlt);have hx0:=Hd (List.getElem?_eq_getElem hlt);have hsc:=Hd (zsC ws k hlt);generalize ws[k] = x at c1 hx hx0 hsc;have hcl:=Hd (zdy x wr hx);have hlg:=Hd (zlc 5 x);have q:=zjj x 2 (by omega);simp only [Nat.reducePow,Int.cast_ofNat_Int] at q;have hgl:=hown'.out.block_lt (g:=g) rfl;go_wp2_with fail;refine hcl.out.mono ?_;rintro e w3 ⟨rfl,hb3⟩
   cases hc2 : zaF x 2 with
   | false=>
    rw [hc2] at q
    have hno : Hid (zij s = false):=Hd (by
     rw [hok2.out,List.all_eq_false]
     exact ⟨x,List.mem_of_getElem? hx0.out,by simp [hc2]⟩)
    have hend:=hbw.trans (hb3.mono hs0);clear hc2;go_wp2
    go_ret2
    exact ⟨by rw [hP.out,hno.out]; rfl,hend⟩
   | true=>
    rw [hc2] at q
    have hall' : Hid (∀ i,i < k + 1 -> ∀ x,ws[i]? = some x -> zaF x 2 = true):=Hd fun i hi y hy=>by
     rcases Nat.lt_or_ge i k with h | h
     ·exact hall.out i h y hy
     ·obtain rfl : i = k:=by omega
      rw [hx0.out] at hy;cases hy
      exact hc2
    have hend3:=hbw.trans (hb3.mono hs0);have hs3:=hend3.size;clear hc2 hcl;go_wp2_with fail;refine (hlg.out _).mono ?_;rintro e w4 ⟨lv,rfl,hlv,hb4⟩;have hw4 : Below wr.heap.size wr w4:=hb3.trans (hb4.mono hb3.size);have hend4:=hbw.trans (hw4.mono hs0);have hs4:=hend4.size;have hown4:=Hd (hown'.out.keep zaA (zc.of_below hw4 _));clear hlg;have hfx : Hid (zsD x = (zaQ 5 x).headD x):=Hd rfl;have hlsz:=Hd (fun l (h : l ∈ zaQ 5 x)=>zjy (kd:=5) (s:=x) h);generalize zaQ 5 x = ls at *
    cases ls with
    | nil=>
     obtain ⟨A,cl,rfl⟩:=hlv.form_
     have hset : Hid (zia ws (k + 1) = zia ws k):=Hd (by
      rw [<- hsc.out,hfx.out]
      exact zxu (by rw [znk ws k hlt]; exact (List.getElem?_eq_getElem hlt).symm.trans hx0.out))
     clear hsc hfx;go_wp2;go_roundw
     case rel=>exact ⟨k + 1,by omega,by go_num,hend4,by rw [hset.out]; exact hown4.out,hall'⟩
     case measure=>simp [intOf]; omega
    | cons l ls=>
     obtain ⟨g2,cl,rfl,hg21,hg22,_,_⟩:=hlv.ref (by simp);have d1:=zki hlv 0 l rfl;have f1:=ztk hown4.out k;have c4:=zki hown4.out k x (by rw [znk ws k hlt]; exact (List.getElem?_eq_getElem hlt).symm.trans hx0.out);have hls:=hlsz.out l (List.mem_cons_self ..);have hst:=Hd (zyL hown4.out k (by rw [hlen.out]; exact hlt) l (by unfold maxLen; omega));have hset : Hid ((zia ws k).set k l = zia ws (k + 1)):=Hd (by rw [<- hsc.out,hfx.out]; rfl);have hend5:=Hd (hend4.setCell (p:=⟨g,k,none⟩) hgl.1 (.string l));have n5 : (0 : Int) < ((ls.length : Int) + 1):=by omega
     have n6 : 0 < ls.length + 1:=by omega
     clear hsc hfx;go_wp2;go_roundw
     case rel=>exact ⟨k + 1,by omega,by go_num,hend5.out,by rw [<- hset.out]; exact hst.out,hall'⟩
     case measure=>simp [intOf]; omega
  ·obtain rfl : k = ws.length:=by omega
   have hyes : Hid (zij s = true):=Hd (by
    rw [hok2.out,List.all_eq_true];intro x hx;obtain ⟨i,hi,rfl⟩:=List.mem_iff_getElem.1 hx
    exact hall.out i hi _ (List.getElem?_eq_getElem hi))
   have hfin:=zuF ws;rw [hfin] at hown' hlen
   have hmsz:=Hd (show ∀ x ∈ ws.map zsD,x.size <= 1000020 from fun x hx=>by
    obtain ⟨y,hy,rfl⟩:=List.mem_map.1 hx
    exact Nat.le_trans (zuH y) (by have:=hws.out y hy; omega))
   have hgl:=hown'.out.block_lt (g:=g) rfl
   have hjl:=zwW [32] 1000020 ((ws.map zsD).map (·.data.toList)) (fun l hl=>by
    obtain ⟨y,hy,rfl⟩:=List.mem_map.1 hl;have:=hmsz.out y hy
    rw [<- Lib.size_eq]; exact this)
   have hjn : Hid (Calls Tryz.prog 148 #[.slice (some ⟨g,0,none⟩) (ws.map zsD).length c,.string ⟨#[32]⟩] wr fun e w'=>e = .returned (.string (zyE (ws.map zsD))) /\ Below wr.heap.size wr w'):=Hd (Sh.strings_Join g 0 c (ws.map zsD) ⟨#[32]⟩ wr (fun j x hx=>by rw [Nat.zero_add]; exact zki hown'.out j x hx) hgl.2 (by rw [hlen.out]; omega) (by rw [hlen.out]; exact hlc) (by
    refine Nat.le_trans hjl ?_;rw [List.length_map,hlen.out];simp
    omega))
   rw [hlen.out] at hjn;clear hjl hfin;go_wp2_with fail;refine hjn.out.mono ?_;rintro e w5 ⟨rfl,hb5⟩;have hend:=hbw.trans (hb5.mono hs0);clear hjn;go_wp2
   go_ret2
   exact ⟨by rw [hP.out,hyes.out]; rfl,hend⟩
end
section
open Go.RowKit Go.Maps
theorem zpR (c : Int) (w : World) : Calls Tryz.prog 77 #[.int .u16 c] w fun e w'=>e = .returned (.func (.func 78) #[] #[.pointer (some ⟨w.heap.size,0,none⟩)]) /\ w' = w.alloc (.cells #[.int .u16 c] 55):=by
 go_enter Tryz.func77,Tryz.ntmps77;go_wp2;go_ret;exact ⟨rfl,rfl⟩
theorem zxa (c : Int) (w : World) : Calls Tryz.prog 80 #[.int .u8 c] w fun e w'=>e = .returned (.func (.func 81) #[] #[.pointer (some ⟨w.heap.size,0,none⟩)]) /\ w' = w.alloc (.cells #[.int .u8 c] 5):=by
 go_enter Tryz.func80,Tryz.ntmps80;go_wp2;go_ret;exact ⟨rfl,rfl⟩
theorem zeZ (s : ByteArray) (i : Nat) (hi : i < 14) (g : Nat) (w : World) (hs : s.size <= 1000000) (hg : w.cell? ⟨g,0,none⟩ = some (.int .u16 ((2 ^ i : Nat) : Int))) :
  Calls Tryz.prog 78 #[.string s,.pointer (some ⟨g,0,none⟩)] w fun e w'=>e = .returned (.bool (zaF s i)) /\ Below w.heap.size w w':=by
 have q:=zmm s i hi;have hl:=World.block_lt_of_cell? _ _ hg;generalize ((2 ^ i : Nat) : Int) = n at *;have hcl:=Hd (fun (u : Ups w)=>zdy s u.wld hs);have hc:=fun (u : Ups w)=>u.cellAt hg hl;clear hg;go_enter Tryz.func78,Tryz.ntmps78;go_wp2_with fail;refine zC (by kernel_rfl) (by kernel_rfl) ?_
 repeat (go_big_quiet_step (first | (go_at_call 79; exact zbe (hcl.out _))))
 refine wpQuiet_nil ?_;rintro _ ⟨u,rfl⟩;go_wp2;go_ret;exact ⟨rfl,u.up⟩
theorem zoF (s : ByteArray) (kd : Int) (g : Nat) (w : World) (hg : w.cell? ⟨g,0,none⟩ = some (.int .u8 kd)) :
  Calls Tryz.prog 81 #[.string s,.pointer (some ⟨g,0,none⟩)] w fun e w'=>e = .returned (.bool (zbY kd s).2) /\ Below w.heap.size w w':=by
 have hc:=Hd (zvM kd s w);go_enter Tryz.func81,Tryz.ntmps81;go_wp2_with fail;refine hc.out.mono ?_;rintro e w' ⟨rfl,hb⟩;go_wp2;go_ret;exact ⟨rfl,hb⟩
def zcV (s : ByteArray) : Bool:=(zoI s).2 && decide ((zoI s).1 = s)
theorem zoC (s : ByteArray) (w : World) (hs : s.size <= 1000000) (hpl : zkv s) : Calls Tryz.prog 83 #[.string s] w fun e w'=>e = .returned (.bool (zcV s)) /\ Below w.heap.size w w':=by
 have hc:=Hd (zyH s w hs hpl);have hd : Hid (zcV s = ((zoI s).2 && ((zoI s).1.toList == s.toList))):=Hd (by unfold zcV; rw [zsf]);go_enter Tryz.func83,Tryz.ntmps83;go_wp2_with fail;refine hc.out.mono ?_;rintro e w' ⟨rfl,hb⟩;clear hc;generalize zoI s = p at *;obtain ⟨n,ok⟩:=p;simp only at hd
 cases ok with
 | false=>
  go_wp2;go_ret;exact ⟨by rw [hd.out]; rfl,hb⟩
 | true=>
  go_wp2;go_ret;exact ⟨by rw [hd.out]; rfl,hb⟩
def zbW (s : ByteArray) : Bool:=decide (s.size = 1) && zbI (zU s 0)
theorem zqt (s : ByteArray) (w : World) : Calls Tryz.prog 85 #[.string s] w fun e w'=>e = .returned (.bool (zbW s)) /\ w' = w:=by
 by_cases h1 : s.size = 1
 ·have hlt : 0 < s.size:=by omega
  have e1 : ((s.size : Int) == 1) = true:=by simp [h1]
  have hb : zU s 0 = (s[0]'hlt).toNat:=by unfold zU; rw [dif_pos hlt]
  have hd : Hid (zbW s = (decide ((65 : Int) <= ((s[0]'hlt).toNat : Int)) && decide (((s[0]'hlt).toNat : Int) <= (90 : Int)))):=Hd (by unfold zbW; rw [decide_eq_true h1,hb]; rfl);clear h1 hb
  cases b1 : decide ((65 : Int) <= ((s[0]'hlt).toNat : Int)) <;> cases b2 : decide (((s[0]'hlt).toNat : Int) <= (90 : Int)) <;>
   (rw [b1,b2] at hd; go_enter Tryz.func85,Tryz.ntmps85; go_wp2; go_ret; exact ⟨zf hd.out.symm,rfl⟩)
 ·have e1 : ((s.size : Int) == 1) = false:=beq_eq_false_iff_ne.2 (by omega)
  have hd : Hid (zbW s = false):=Hd (by unfold zbW; rw [decide_eq_false h1]; rfl);clear h1;go_enter Tryz.func85,Tryz.ntmps85;go_wp2;go_ret;exact ⟨zf hd.out.symm,rfl⟩
def zfO (c : Int) (s : ByteArray) : Bool:=(zgu c s).2 && decide ((zgu c s).1 = s)
theorem zuS (c : Int) (s : ByteArray) (g : Nat) (w : World) (hs : s.size <= 1000000) (hg : w.cell? ⟨g,0,none⟩ = some (.int .u8 c)) : Calls Tryz.prog 86 #[.string s,.pointer (some ⟨g,0,none⟩)] w fun e w'=>e = .returned (.bool (zfO c s)) /\ Below w.heap.size w w':=by
 have hc:=Hd (zrB c s w hs);have hd : Hid (zfO c s = ((zgu c s).2 && ((zgu c s).1.toList == s.toList))):=Hd (by unfold zfO; rw [zsf]);go_enter Tryz.func86,Tryz.ntmps86;go_wp2_with fail;refine hc.out.mono ?_;rintro e w' ⟨rfl,hb⟩;clear hc;generalize zgu c s = p at *;obtain ⟨n,ok⟩:=p;simp only at hd
 cases ok with
 | false=>
  go_wp2;go_ret;exact ⟨by rw [hd.out]; rfl,hb⟩
 | true=>
  go_wp2;go_ret;exact ⟨by rw [hd.out]; rfl,hb⟩
end
section
open Go.RowKit Go.Maps
def zzs (fd : List ByteArray) (k : Nat) : Bool:=decide ((fd.getD k ⟨#[]⟩).size ≠ 0)
def zsG (fd : List ByteArray) (k : Int) : Bool:=zzs fd k.toNat
def zdY (c : Int) (h : Int -> Bool) : Bool:=
 if !h 8 && (!h 10 || h 9) then false
 else if c = 1 then !h 2 else if c = 2 then !h 3 && !h 9 else if c = 3 then !h 3 && !h 9 && !h 6 else false
def zmu (c : Int) (h : Int -> Bool) : Bool:=
 if h 7 then (if h 1 || h 2 || h 3 || h 4 || h 5 then false else zdY c h) else (if !h 1 || !h 4 then false else zdY c h)
def znW (w : World) (g : Nat) (fd : List ByteArray) : Prop:=Blk w g 114 (fd.map Value.string).toArray /\ fd.length = 11
theorem zwT (fd : List ByteArray) (k : Nat) (hk : k < 11) (g : Nat) (w : World) (h : znW w g fd) :
  Calls Tryz.prog 150 #[.int .u8 (k : Int),.pointer (some ⟨g,0,none⟩)] w fun e w'=>e = .returned (.bool (zzs fd k)) /\ w' = w:=by
 have c:=h.1.cell k;rw [List.getElem?_toArray,List.getElem?_map,List.getElem?_eq_getElem (by rw [h.2]; exact hk)] at c
 have hd : Hid (zzs fd k = !(fd[k]'(by rw [h.2]; exact hk)).toList.isEmpty):=Hd (by
  unfold zzs;rw [zD _ _ _ (by rw [h.2]; exact hk),zaL]
  by_cases h0 : (fd[k]'(by rw [h.2]; exact hk)).size = 0 <;> simp [h0])
 simp only [Option.map_some] at c;generalize fd[k]'(by rw [h.2]; exact hk) = x at *;have n0 : (0 : Int) <= (k : Int):=by omega
 have n1 : (k : Int) < 11:=by omega
 clear h;go_enter Tryz.func150,Tryz.ntmps150;go_wp2;go_ret;exact ⟨zf hd.out.symm,rfl⟩
theorem zyA (fd : List ByteArray) (g : Nat) (w : World) (h : znW w g fd) (k : Int) (h0 : 0 <= k) (h1 : k < 11) :
  Calls Tryz.prog 150 #[.int .u8 k,.pointer (some ⟨g,0,none⟩)] w fun e w'=>e = .returned (.bool (zsG fd k)) /\ w' = w:=by
 obtain ⟨n,rfl⟩ : ∃ n : Nat,k = n:=⟨k.toNat,by omega⟩;have:=zwT fd n (by omega) g w h;simpa [zsG] using this
theorem zyx (fd : List ByteArray) (hl : fd.length = 11) (c : Int) (w : World) :
  Calls Tryz.prog 88 #[.agg (fd.map Value.string).toArray,.int .u8 c] w fun e w'=>e = .returned (.bool (zmu c (zsG fd))) /\ Below w.heap.size w w':=by
 have hb : Below w.heap.size w (w.alloc (.cells (fd.map Value.string).toArray 114)):=(Below.refl _ _).alloc (lQ _) _;have hh:=Hd (zyA fd w.heap.size (w.alloc (.cells (fd.map Value.string).toArray 114)) ⟨Blk.new _ _ _,hl⟩);generalize zsG fd = f at *;go_enter Tryz.func88,Tryz.ntmps88;go_wp2_with fail;generalize w.alloc (.cells (fd.map Value.string).toArray 114) = W at *;refine (hh.out _ (by omega) (by omega)).mono ?_;rintro e w' ⟨rfl,rfl⟩
 cases h7 : f 7 with
 | true=>
  go_wp2_with (go_at_call 150; refine (hh.out _ (by omega) (by omega)).mono ?_; rintro e w' ⟨rfl,rfl⟩)
  go_loop [6] (fun iv=>∃ k : Int,1 <= k /\ k <= 6 /\ iv = .int .u8 k /\ Hid (∀ j,1 <= j -> j < k -> f j = false)) (fun iv=>6 - (intOf iv).toNat)
  case atStart=>exact ⟨1,by omega,by omega,rfl,Hd fun j h1 h2=>absurd h1 (by omega)⟩
  case round=>
   obtain ⟨k,k1,k6,rfl,hno⟩:=hrel;by_cases hlt : k <= 5
   ·have hk:=Hd (hh.out k (by omega) (by omega))
    go_wp2_with fail;refine hk.out.mono ?_;rintro e w2 ⟨rfl,rfl⟩
    cases hfk : f k with
    | true=>
     have hfin : Hid (zmu c f = false):=Hd (by
      unfold zmu;rw [h7];have : k = 1 \/ k = 2 \/ k = 3 \/ k = 4 \/ k = 5:=by omega
      rcases this with rfl | rfl | rfl | rfl | rfl <;> simp [hfk])
     clear hfk h7;go_wp2;go_ret;exact ⟨zf hfin.out.symm,hb⟩
    | false=>
     have hno' : Hid (∀ j,1 <= j -> j < k + 1 -> f j = false):=Hd fun j h1 h2=>by
      by_cases h : j < k
      ·exact hno.out j h1 h
      ·obtain rfl : j = k:=by omega
       exact hfk
     clear hfk;go_wp2
     go_round
     case rel=>exact ⟨k + 1,by omega,by omega,by go_num,hno'⟩
     case measure=>simp [intOf]; omega
   ·obtain rfl : k = 6:=by omega
    have a1:=hno.out 1 (by omega) (by omega);have a2:=hno.out 2 (by omega) (by omega);have a3:=hno.out 3 (by omega) (by omega);have a4:=hno.out 4 (by omega) (by omega);have a5:=hno.out 5 (by omega) (by omega);have hq : Hid (zmu c f = zdY c f):=Hd (by unfold zmu; rw [h7,a1,a2,a3,a4,a5]; rfl);clear hno h7 hlt a1 a4 a5;go_wp2_with (go_at_call 150; refine (hh.out _ (by omega) (by omega)).mono ?_; rintro e w' ⟨rfl,rfl⟩)
    all_goals
     go_ret;refine ⟨zf ?_,hb⟩;rw [hq.out];clear hq hh hb;simp_all [zdY]
 | false=>
  go_wp2_with (go_at_call 150; refine (hh.out _ (by omega) (by omega)).mono ?_; rintro e w' ⟨rfl,rfl⟩)
  all_goals
   go_ret;refine ⟨zf ?_,hb⟩;clear hh hb;simp_all [zmu,zdY]
end
section
open Go.RowKit Go.Maps
def zbR {α β : Type} [DecidableEq α] (a : α) : List (α × β) -> Option β
 | []=>none
 | p :: t=>if p.1 = a then some p.2 else zbR a t
def zuj (v : Value) : Option (DataW Value × List MemPlace):=some (.held v,[])
def orV {β : Type} (val : β -> Value) (z : Value) : Option β -> Value
 | some b=>val b
 | none=>z
def zbc {α β : Type} [DecidableEq α] (P : Program) (k : TypeId) (enc : α -> Value) (val : β -> Value) (w : World) (b n : Nat) (M : List (α × β)) : Prop:=
 ∃ D : DataW Value,w.ownsMap P k zuj b n D /\ IsMap D /\ ∀ (a : α) (kl : Lit),keyOf P k (enc a) = some kl ->
  (∀ z,D.atKey kl (.held z) = .held (orV val z (zbR a M))) /\ Maps.has D kl = (zbR a M).isSome
section
variable {α β : Type} [DecidableEq α] {P : Program} {k e t : TypeId} {enc : α -> Value} {val : β -> Value} {w w' : World} {b n : Nat} {M : List (α × β)}
theorem zbc.made (P : Program) (k : TypeId) (enc : α -> Value) (val : β -> Value) (w : World) : zbc P k enc val (w.alloc (.map #[] 0)) w.heap.size 0 []:=
 ⟨.map [],World.ownsMap_made w P k _,⟨_,rfl⟩,fun _ _ _=>⟨fun _=>rfl,rfl⟩⟩
theorem zbc.made_at (P : Program) (k : TypeId) (enc : α -> Value) (val : β -> Value) (w : World) (b : Nat) (h : b = w.heap.size) : zbc P k enc val (w.alloc (.map #[] 0)) b 0 []:=by
 subst h; exact zbc.made P k enc val w
theorem zbc.lt (h : zbc P k enc val w b n M) : b < w.heap.size:=by
 obtain ⟨D,h1,_⟩:=h;exact h1.lt
theorem zbc.same (h : zbc P k enc val w b n M) (hb : w'.heap[b]? = w.heap[b]?) : zbc P k enc val w' b n M:=by
 obtain ⟨D,⟨es,clock,h1,h2⟩,h3⟩:=h;exact ⟨D,⟨es,clock,hb.trans h1,h2⟩,h3⟩
theorem zbc.kept {row : Option Nat} (h : zbc P k enc val w b n M) (hg : w.grownBy w' row) (hne : some b ≠ row) : zbc P k enc val w' b n M:=
 h.same (hg.block b h.lt hne)
theorem zbc.below {B : Nat} (h : zbc P k enc val w b n M) (hb : Below B w w') (hB : b < B) : zbc P k enc val w' b n M:=h.same (hb.block b hB)
theorem zbc.alloc (h : zbc P k enc val w b n M) (o : Obj) : zbc P k enc val (w.alloc o) b n M:=h.same (Below.heap_alloc w o b h.lt)
theorem zbc.set_ (h : zbc P k enc val w b n M) {p : Addr} (hp : b ≠ p.block) (u : Value) : zbc P k enc val (w.setCell p u) b n M:=h.same (Below.heap_setCell w p u b hp)
theorem zbc.mono {n' : Nat} (h : zbc P k enc val w b n M) (hn : n <= n') : zbc P k enc val w b n' M:=by
 obtain ⟨D,h1,h2⟩:=h;exact ⟨D,h1.mono hn,h2⟩
theorem zbc.look (h : zbc P k enc val w b n M) (K : Keyed P k) (ht : P.underlying t = some (.map k e)) {z : Value} (hz : (zeroValue e).run P w = .ok z w)
  (a : α) {kl : Lit} (hk : keyOf P k (enc a) = some kl) : (Instr.lookup t (.map (some b)) (enc a) false).run P w = .ok (orV val z (zbR a M)) w:=by
 obtain ⟨D,h1,h2,h3⟩:=h;obtain ⟨v,ps,hrun,hv⟩:=h1.lookup K ht hz (zd:=.held z) (zp:=[]) rfl hk;rw [(h3 a kl hk).1] at hv;simp only [zuj,Option.some.injEq,Prod.mk.injEq,DataW.held.injEq] at hv;rw [hrun,hv.1]
theorem zbc.look_ok (h : zbc P k enc val w b n M) (K : Keyed P k) (ht : P.underlying t = some (.map k e)) {z : Value} (hz : (zeroValue e).run P w = .ok z w)
  (a : α) {kl : Lit} (hk : keyOf P k (enc a) = some kl) : (Instr.lookup t (.map (some b)) (enc a) true).run P w = .ok (.tuple #[orV val z (zbR a M),.bool (zbR a M).isSome]) w:=by
 obtain ⟨D,h1,h2,h3⟩:=h;obtain ⟨v,ps,hrun,hv⟩:=h1.look_ok K ht hz (zd:=.held z) (zp:=[]) rfl hk;rw [(h3 a kl hk).1] at hv;simp only [zuj,Option.some.injEq,Prod.mk.injEq,DataW.held.injEq] at hv;rw [hrun,hv.1,(h3 a kl hk).2]
theorem zbc.put (h : zbc P k enc val w b n M) (K : Keyed P k) (ht : P.underlying t = some (.map k e)) (hn : n < maxLen) (hinj : ∀ x y,enc x = enc y -> x = y)
  (a : α) (d : β) {kl : Lit} (hk : keyOf P k (enc a) = some kl) :
  ∃ w',(Instr.mapUpdate t (.map (some b)) (enc a) (val d)).run P w = .ok () w' /\ zbc P k enc val w' b (n + 1) ((a,d) :: M) /\ w.grownBy w' (some b):=by
 obtain ⟨D,h1,h2,h3⟩:=h;obtain ⟨w',hrun,h4,h5⟩:=h1.update K ht hn hk (d:=.held (val d)) (ps:=[]) rfl;refine ⟨w',hrun,⟨_,h4,?_,fun a' kl' hk'=>?_⟩,h5⟩
 ·obtain ⟨es,rfl⟩:=h2
  exact ⟨_,rfl⟩
 ·by_cases hne : a = a'
  ·subst hne
   rw [hk] at hk';cases hk'
   refine ⟨fun z=>?_,?_⟩
   ·rw [atKey_put_same h2 (K.key hk)]; simp [zbR,orV]
   ·rw [has_put_same h2 (K.key hk)]; simp [zbR]
  ·have hkl : kl' ≠ kl:=fun e'=>by
    subst e';exact hne (hinj _ _ (K.inj hk hk'))
   refine ⟨fun z=>?_,?_⟩
   ·rw [atKey_put_other hkl,zbR,if_neg hne]; exact (h3 a' kl' hk').1 z
   ·rw [has_put_other hkl,zbR,if_neg hne]; exact (h3 a' kl' hk').2
end
end
end Go.Proofs.YtggimnndflkjkaaGreatDoor
