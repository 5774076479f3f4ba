import Derived.Test.YteclineblddpbaaGreatDoorRC01
import Derived.Test.YteclineblddpbaaGreatDoorRC07
set_option linter.all false
set_option maxRecDepth 100000
set_option maxHeartbeats 0
namespace Go.Proofs.YteclineblddpbaaGreatDoorR
section
open Go.RowKit Go.Maps
def hasP (fd : List ByteArray) (k : Nat) : Bool:=decide ((fd.getD k ⟨#[]⟩).size ≠ 0)
def hasI (fd : List ByteArray) (k : Int) : Bool:=hasP fd k.toNat
def fitRest (c : Int) (h : Int -> Bool) : Bool:=
 if !h 8 && (!h 10 || h 9) then false
 else if c = 1 then !h 2 else if c = 2 then !h 3 && !h 9 else if c = 3 then !h 3 && !h 9 && !h 6 else false
def fitB (c : Int) (h : Int -> Bool) : Bool:=
 if h 7 then (if h 1 || h 2 || h 3 || h 4 || h 5 then false else fitRest c h) else (if !h 1 || !h 4 then false else fitRest c h)
def IsTexts11 (w : World) (g : Nat) (fd : List ByteArray) : Prop:=Blk w g 109 (fd.map Value.string).toArray /\ fd.length = 11
theorem has1_any (fd : List ByteArray) (k : Nat) (hk : k < 11) (g : Nat) (w : World) (h : IsTexts11 w g fd) :
  Calls Tryz.prog 175 #[.int .u8 (k : Int),.pointer (some ⟨g,0,none⟩)] w fun e w'=>e = .returned (.bool (hasP fd k)) /\ w' = w:=by
 have c:=h.1.cell k
 rw [List.getElem?_toArray,List.getElem?_map,List.getElem?_eq_getElem (by rw [h.2]; exact hk)] at c
 have hd : Hid (hasP fd k = !(fd[k]'(by rw [h.2]; exact hk)).toList.isEmpty):=Hd (by
  unfold hasP
  rw [getD_at _ _ _ (by rw [h.2]; exact hk),empty_tl]
  by_cases h0 : (fd[k]'(by rw [h.2]; exact hk)).size = 0 <;> simp [h0])
 simp only [Option.map_some] at c
 generalize fd[k]'(by rw [h.2]; exact hk) = x at *
 have n0 : (0 : Int) <= (k : Int):=by omega
 have n1 : (k : Int) < 11:=by omega
 clear h
 go_enter Tryz.func175,Tryz.ntmps175
 go_wp2
 go_ret
 exact ⟨ret_bool hd.out.symm,rfl⟩
theorem has_int (fd : List ByteArray) (g : Nat) (w : World) (h : IsTexts11 w g fd) (k : Int) (h0 : 0 <= k) (h1 : k < 11) :
  Calls Tryz.prog 175 #[.int .u8 k,.pointer (some ⟨g,0,none⟩)] w fun e w'=>e = .returned (.bool (hasI fd k)) /\ w' = w:=by
 obtain ⟨n,rfl⟩ : ∃ n : Nat,k = n:=⟨k.toNat,by omega⟩
 have:=has1_any fd n (by omega) g w h
 simpa [hasI] using this
theorem fit_any (fd : List ByteArray) (hl : fd.length = 11) (c : Int) (w : World) :
  Calls Tryz.prog 111 #[.agg (fd.map Value.string).toArray,.int .u8 c] w fun e w'=>e = .returned (.bool (fitB c (hasI fd))) /\ Below w.heap.size w w':=by
 have hb : Below w.heap.size w (w.alloc (.cells (fd.map Value.string).toArray 109)):=(Below.refl _ _).alloc (lQ _) _
 have hh:=Hd (has_int fd w.heap.size (w.alloc (.cells (fd.map Value.string).toArray 109)) ⟨Blk.new _ _ _,hl⟩)
 generalize hasI fd = f at *
 go_enter Tryz.func111,Tryz.ntmps111
 go_wp2_with fail
 generalize w.alloc (.cells (fd.map Value.string).toArray 109) = W at *
 refine (hh.out _ (by omega) (by omega)).mono ?_
 rintro e w' ⟨rfl,rfl⟩
 cases h7 : f 7 with
 | true=>
  go_wp2_with (go_at_call 175; refine (hh.out _ (by omega) (by omega)).mono ?_; rintro e w' ⟨rfl,rfl⟩)
  go_loop [6] (fun iv=>∃ k : Int,1 <= k /\ k <= 6 /\ iv = .int .u8 k /\ Hid (∀ j,1 <= j -> j < k -> f j = false)) (fun iv=>6 - (intOf iv).toNat)
  case atStart=>exact ⟨1,by omega,by omega,rfl,Hd fun j h1 h2=>absurd h1 (by omega)⟩
  case round=>
   obtain ⟨k,k1,k6,rfl,hno⟩:=hrel
   by_cases hlt : k <= 5
   ·have hk:=Hd (hh.out k (by omega) (by omega))
    go_wp2_with fail
    refine hk.out.mono ?_
    rintro e w2 ⟨rfl,rfl⟩
    cases hfk : f k with
    | true=>
     have hfin : Hid (fitB c f = false):=Hd (by
      unfold fitB
      rw [h7]
      have : k = 1 \/ k = 2 \/ k = 3 \/ k = 4 \/ k = 5:=by omega
      rcases this with rfl | rfl | rfl | rfl | rfl <;> simp [hfk])
     clear hfk h7
     go_wp2
     go_ret
     exact ⟨ret_bool hfin.out.symm,hb⟩
    | false=>
     have hno' : Hid (∀ j,1 <= j -> j < k + 1 -> f j = false):=Hd fun j h1 h2=>by
      by_cases h : j < k
      ·exact hno.out j h1 h
      ·obtain rfl : j = k:=by omega
       exact hfk
     clear hfk
     go_wp2
     go_round
     case rel=>exact ⟨k + 1,by omega,by omega,by go_num,hno'⟩
     case measure=>simp [intOf]; omega
   ·obtain rfl : k = 6:=by omega
    have a1:=hno.out 1 (by omega) (by omega)
    have a2:=hno.out 2 (by omega) (by omega)
    have a3:=hno.out 3 (by omega) (by omega)
    have a4:=hno.out 4 (by omega) (by omega)
    have a5:=hno.out 5 (by omega) (by omega)
    have hq : Hid (fitB c f = fitRest c f):=Hd (by unfold fitB; rw [h7,a1,a2,a3,a4,a5]; rfl)
    clear hno h7 hlt a1 a4 a5
    go_wp2_with (go_at_call 175; refine (hh.out _ (by omega) (by omega)).mono ?_; rintro e w' ⟨rfl,rfl⟩)
    all_goals
     go_ret
     refine ⟨ret_bool ?_,hb⟩
     rw [hq.out]
     clear hq hh hb
     simp_all [fitRest]
 | false=>
  go_wp2_with (go_at_call 175; refine (hh.out _ (by omega) (by omega)).mono ?_; rintro e w' ⟨rfl,rfl⟩)
  all_goals
   go_ret
   refine ⟨ret_bool ?_,hb⟩
   clear hh hb
   simp_all [fitB,fitRest]
end
end Go.Proofs.YteclineblddpbaaGreatDoorR
