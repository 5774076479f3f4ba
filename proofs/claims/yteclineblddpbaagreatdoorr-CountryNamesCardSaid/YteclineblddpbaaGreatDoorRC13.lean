import Derived.Test.YteclineblddpbaaGreatDoorRC01
import Derived.Laws.MakeOwn
set_option linter.all false
set_option maxRecDepth 100000
set_option maxHeartbeats 0
namespace Go.Proofs.YteclineblddpbaaGreatDoorR
section
open Go.RowKit Go.Maps
def IsLim (w : World) (v : Value) (n : Nat) : Prop:=
 (n = 0 /\ ∃ A c,v = .slice A 0 c /\ c <= maxLen) \/ (n ≠ 0 /\ n < 4294967296 /\ ∃ b off c,v = .slice (some ⟨b,off,none⟩) 1 c /\ 1 <= c /\ c <= maxLen /\ b < w.heap.size /\ w.cell? ⟨b,off,none⟩ = some (.int .u32 (n : Int)))
theorem IsLim.stays {w w' : World} {v : Value} {n : Nat} (h : IsLim w v n) (hs : Stays w w') : IsLim w' v n:=by
 rcases h with h | ⟨h1,h2,b,off,c,e,h3,h4,h5,h6⟩
 ·exact .inl h
 ·exact .inr ⟨h1,h2,b,off,c,e,h3,h4,Nat.lt_of_lt_of_le h5 hs.1,(hs.2 ⟨b,off,none⟩ h5).trans h6⟩
theorem natRight_any (v : Value) (n : Nat) (w : World) (h : IsLim w v n) : Calls Tryz.prog 205 #[v] w fun e w'=>e = .returned (.bool true) /\ w' = w:=by
 rcases h with ⟨rfl,A,c,rfl,hc⟩ | ⟨h1,h2,b,off,c,rfl,h3,h4,h5,h6⟩
 ·go_enter Tryz.func205,Tryz.ntmps205
  go_wp2
  go_ret
  exact ⟨rfl,rfl⟩
 ·have e1 : ((n : Int) != 0) = true:=by simpa using h1
  have h1':=Hd h1
  clear h1
  go_enter Tryz.func205,Tryz.ntmps205
  go_wp2
  go_ret
  exact ⟨rfl,rfl⟩
theorem add32_any (x y : Int) (w : World) (h0 : 0 <= x) (h1 : 0 <= y) (h2 : x + y < 4294967296) : Calls Tryz.prog 208 #[.int .u32 x,.int .u32 y,.int .u32 0] w fun e w'=>e = .returned (.tuple #[.int .u32 (x + y),.int .u32 0]) /\ w' = w:=by
 go_enter Tryz.func208,Tryz.ntmps208
 go_wp2
 go_ret2
 have e : (x + y) / 4294967296 = 0:=by omega
 refine ⟨?_,rfl⟩
 show Ending.returned (.tuple #[.int .u32 (x + y),.int .u32 ((x + y) / 4294967296)]) = _
 rw [e]
theorem call207 (args : Array Value) (W : World) : (callFunc 207 args).run Tryz.prog W = .ok (.enter 207 args) W:=by kernel_rfl
theorem adder1_any (x y : Int) (g : Nat) (w : World) (h0 : 0 <= x) (h1 : 0 <= y) (h2 : x + y < 4294967296) (hb : Blk w g 209 #[.int .u32 0]) :
  Calls Tryz.prog 207 #[.int .u32 x,.int .u32 y,.pointer (some ⟨g,0,none⟩)] w fun e w'=>e = .returned (.int .u32 (x + y)) /\ w' = w.setCell ⟨g,0,none⟩ (.int .u32 0):=by
 have y0:=hb.cell 0
 have f0:=hb.frozen 0
 have l0:=hb.lt
 simp at y0
 have hc:=Hd (add32_any x y w h0 h1 h2)
 go_enter Tryz.func207,Tryz.ntmps207
 go_wp2_with fail
 refine hc.out.mono ?_
 rintro e w' ⟨rfl,rfl⟩
 clear hc
 go_wp2
 go_ret
 exact ⟨rfl,rfl⟩
end
section
open Go.RowKit Go.Maps
def trimTo (L : List Nat) : Nat -> Nat
 | 0=>0
 | k + 1=>if L.getD k 0 = 0 then trimTo L k else k + 1
theorem trimTo_le (L : List Nat) : ∀ k,trimTo L k <= k
 | 0=>lQ _
 | k + 1=>by
  have:=trimTo_le L k
  rw [trimTo]
  split <;> omega
def lenV : Value -> Nat
 | .slice _ n _=>n
 | _=>0
theorem trimmed_any (b off c : Nat) (L : List Nat) (w : World) (hcell : ∀ i,i < L.length -> w.cell? ⟨b,off + i,none⟩ = some (.int .u32 (L.getD i 0 : Nat))) (hb : b < w.heap.size) (hlc : L.length <= c) (hcm : c <= maxLen) :
  Calls Tryz.prog 204 #[.slice (some ⟨b,off,none⟩) L.length c] w fun e w'=>e = .returned (.slice (some ⟨b,off,none⟩) (trimTo L L.length) c) /\ w' = w:=by
 have hcell:=Hd hcell
 unfold maxLen at hcm
 go_enter Tryz.func204,Tryz.ntmps204
 go_wp2
 go_loopw [0] (fun sv wr=>∃ k : Nat,k <= L.length /\ sv = .slice (some ⟨b,off,none⟩) k c /\ wr = w /\ Hid (trimTo L k = trimTo L L.length)) (fun sv _=>lenV sv)
 case atStart=>exact ⟨L.length,lQ _,rfl,rfl,rfl⟩
 case round=>
  obtain ⟨k,hk,rfl,rfl,ht⟩:=hrel
  rcases Nat.eq_zero_or_pos k with rfl | h0
  ·go_wp2
   go_ret
   exact ⟨by rw [<- ht.out]; rfl,rfl⟩
  ·obtain ⟨k,rfl⟩ : ∃ j,k = j + 1:=⟨k - 1,by omega⟩
   have hx:=hcell.out k (by omega)
   have n0 : (0 : Int) <= (k : Int):=by omega
   have n1 : (k : Int) < ((k + 1 : Nat) : Int):=by omega
   have n2 : (0 : Int) < ((k + 1 : Nat) : Int):=by omega
   have n3 : ((k + 1 : Nat) : Int) - 1 = (k : Int):=by omega
   have htt : Hid (trimTo L (k + 1) = if L.getD k 0 = 0 then trimTo L k else k + 1):=Hd rfl
   rw [ht.out] at htt
   clear ht h0
   generalize L.getD k 0 = x at *
   by_cases hz : x = 0
   ·subst hz
    have ht2 : Hid (trimTo L k = trimTo L L.length):=Hd (by rw [htt.out,if_pos rfl])
    clear htt
    go_wp2
    go_roundw
    case rel=>exact ⟨k,by omega,rfl,(by first | trivial | rfl),ht2⟩
    case measure=>simp [lenV]
   ·have e1 : ((x : Int) == 0) = false:=by simpa using hz
    have ht2 : Hid (k + 1 = trimTo L L.length):=Hd (by rw [htt.out,if_neg hz])
    clear htt hz
    go_wp2
    go_ret
    exact ⟨by rw [<- ht2.out]; rfl,rfl⟩
end
section
open Go.RowKit Go.Maps
def NewS (B : Nat) : Value -> Prop
 | .slice (some A) _ _=>B <= A.block
 | _=>True
theorem newS {B b off k c : Nat} (h : B <= b) : NewS B (.slice (some ⟨b,off,none⟩) k c):=h
theorem trim_lim {w : World} {b c : Nat} {L : List Nat} (hcell : ∀ i,i < L.length -> w.cell? ⟨b,i,none⟩ = some (.int .u32 (L.getD i 0 : Nat))) (hb : b < w.heap.size) (hlc : L.length <= c) (hcm : c <= maxLen) {n : Nat} (hn : n < 4294967296)
  (hL : L.getD 0 0 = n) (hz : ∀ i,0 < i -> L.getD i 0 = 0) (h1 : 1 <= L.length) : IsLim w (.slice (some ⟨b,0,none⟩) (trimTo L L.length) c) n:=by
 have ht : ∀ k,1 <= k -> trimTo L k = trimTo L 1:=by
  intro k hk
  induction k with
  | zero=>omega
  | succ k ih=>
   rcases Nat.eq_zero_or_pos k with rfl | h0
   ·rfl
   ·rw [trimTo,if_pos (hz k h0)]
    exact ih h0
 rw [ht _ h1]
 by_cases h0 : n = 0
 ·refine .inl ⟨h0,some ⟨b,0,none⟩,c,?_,hcm⟩
  rw [trimTo,if_pos (by rw [hL,h0])]
  rfl
 ·refine .inr ⟨h0,hn,b,0,c,?_,by omega,hcm,hb,?_⟩
  ·rw [trimTo,if_neg (by rw [hL]; exact h0)]
  ·have:=hcell 0 (by omega)
   rw [hL] at this
   exact this
theorem natOf_any (n : Nat) (w : World) (h : n < 4294967296) : Calls Tryz.prog 193 #[.int .u64 (n : Int)] w fun e w'=>∃ v,e = .returned v /\ IsLim w' v n /\ Below w.heap.size w w' /\ NewS w.heap.size v:=by
 have hd : (n : Int) / 4294967296 = 0:=by omega
 have hw1 : IntKind.u32.wrap (n : Int) = (n : Int):=by simp [IntKind.wrap,IntKind.bits,IntKind.signed]; omega
 have hk:=Blk.new w 209 #[.int .u32 (n : Int),.int .u32 0]
 have hb1 : Below w.heap.size w (w.alloc (.cells #[.int .u32 (n : Int),.int .u32 0] 209)):=(Below.refl _ _).alloc (lQ _) _
 have hc : ∀ i,i < [n,0].length -> (w.alloc (.cells #[.int .u32 (n : Int),.int .u32 0] 209)).cell? ⟨w.heap.size,0 + i,none⟩ = some (.int .u32 (([n,0] : List Nat).getD i 0 : Nat)):=by
  intro i hi
  rw [Nat.zero_add,hk.cell]
  have : i = 0 \/ i = 1:=by simp at hi; omega
  rcases this with rfl | rfl <;> rfl
 have hcon:=Hd (trimmed_any w.heap.size 0 2 [n,0] _ hc (by simp) (by simp) (by unfold maxLen; omega))
 have hlim:=Hd (trim_lim (w:=w.alloc (.cells #[.int .u32 (n : Int),.int .u32 0] 209)) (b:=w.heap.size) (c:=2) (L:=[n,0]) (fun i hi=>by have:=hc i hi; rwa [Nat.zero_add] at this) (by simp) (by simp) (by unfold maxLen; omega) h rfl (fun i hi=>by
  match i,hi with
  | 1,_=>rfl
  | i + 2,_=>rfl) (by simp))
 clear hc
 go_enter Tryz.func193,Tryz.ntmps193
 go_wp2_with fail
 refine hcon.out.mono ?_
 rintro e w' ⟨rfl,rfl⟩
 clear hcon
 generalize w.alloc (.cells #[.int .u32 (n : Int),.int .u32 0] 209) = W at *
 generalize trimTo [n,0] [n,0].length = tn at *
 go_wp2
 go_ret
 exact ⟨_,rfl,hlim.out,hb1,newS (lQ _)⟩
end
section
open Go.RowKit Go.Maps
theorem adder_any (w : World) : Calls Tryz.prog 206 #[] w fun e w'=>e = .returned (.func (.func 207) #[] #[.pointer (some ⟨w.heap.size,0,none⟩)]) /\ w' = w.alloc (.cells #[.int .u32 0] 209):=by
 go_enter Tryz.func206,Tryz.ntmps206
 go_wp2
 go_ret
 exact ⟨rfl,rfl⟩
theorem trimmed_nil (A : Option Addr) (c : Nat) (w : World) : Calls Tryz.prog 204 #[.slice A 0 c] w fun e w'=>e = .returned (.slice A 0 c) /\ w' = w:=by
 go_enter Tryz.func204,Tryz.ntmps204
 go_wp2
 go_loopw [0] (fun sv wr=>sv = .slice A 0 c /\ wr = w) (fun _ _=>0)
 case atStart=>exact ⟨rfl,rfl⟩
 case round=>
  obtain ⟨rfl,rfl⟩:=hrel
  go_wp2
  go_ret
  exact ⟨rfl,rfl⟩
end
section
open Go.RowKit Go.Maps
theorem info209 : (Tryz.prog.info? 209).map (fun i=>(i.zero,i.size,i.bytes)) = some (some (.int .u32 0),1,4):=by kernel_rfl
theorem make_u32 (n : Nat) (hn : n <= 2) (w : World) : (Instr.makeSlice 222 (.int .i64 (n : Int)) (.int .i64 (n : Int))).run Tryz.prog w = .ok (.slice (some ⟨w.heap.size,0,none⟩) n n) (w.alloc (.cells (madeCells #[.int .u32 0] n) 209)):=by
 obtain ⟨i0,hi0,hz0,hz1,hz2⟩:=info_parts info209
 have:=run_make (P:=Tryz.prog) w 222 209 i0 _ Tryz.underlying222 hi0 hz0 .i64 .i64 (n : Int) (n : Int) (by omega) (by omega) (by rw [hz2]; omega) (by omega)
 rw [this,hz1]
 simp [Value.cells]
theorem made1 : madeCells #[.int .u32 0] 1 = #[.int .u32 0]:=by simp [madeCells,Array.range_succ,Array.range_zero']
theorem made2 : madeCells #[.int .u32 0] 2 = #[.int .u32 0,.int .u32 0]:=by simp [madeCells,Array.range_succ,Array.range_zero']
theorem make1 (w : World) : (Instr.makeSlice 222 (.int .i64 1) (.int .i64 1)).run Tryz.prog w = .ok (.slice (some ⟨w.heap.size,0,none⟩) 1 1) (w.alloc (.cells #[.int .u32 0] 209)):=by
 have:=make_u32 1 (by omega) w
 rwa [made1] at this
theorem make2 (w : World) : (Instr.makeSlice 222 (.int .i64 2) (.int .i64 2)).run Tryz.prog w = .ok (.slice (some ⟨w.heap.size,0,none⟩) 2 2) (w.alloc (.cells #[.int .u32 0,.int .u32 0] 209)):=by
 have:=make_u32 2 (by omega) w
 rwa [made2] at this
theorem one_lim {w : World} {b : Nat} {n : Nat} (hk : Blk w b 209 #[.int .u32 (n : Int)]) (hn : n = 0) : IsLim w (.slice (some ⟨b,0,none⟩) (trimTo [n] 1) 1) n:=by
 refine trim_lim (L:=[n]) (fun i hi=>?_) hk.lt (by simp) (by unfold maxLen; omega) (by omega) rfl (fun i hi=>?_) (by simp)
 ·have : i = 0:=by simp at hi; omega
  subst this
  exact hk.cell 0
 ·match i,hi with
  | i + 1,_=>rfl
theorem two_lim {w : World} {b : Nat} {n : Nat} (hk : Blk w b 209 #[.int .u32 (n : Int),.int .u32 0]) (hn : n < 4294967296) : IsLim w (.slice (some ⟨b,0,none⟩) (trimTo [n,0] 2) 2) n:=by
 refine trim_lim (L:=[n,0]) (fun i hi=>?_) hk.lt (by simp) (by unfold maxLen; omega) hn rfl (fun i hi=>?_) (by simp)
 ·have : i = 0 \/ i = 1:=by simp at hi; omega
  rcases this with rfl | rfl
  ·exact hk.cell 0
  ·exact hk.cell 1
 ·match i,hi with
  | 1,_=>rfl
  | i + 2,_=>rfl
theorem cells_of_blk1 {w : World} {b : Nat} {n : Nat} (hk : Blk w b 209 #[.int .u32 (n : Int)]) : ∀ i,i < [n].length -> w.cell? ⟨b,0 + i,none⟩ = some (.int .u32 (([n] : List Nat).getD i 0 : Nat)):=fun i hi=>by
 have : i = 0:=by simp at hi; omega
 subst this
 exact hk.cell 0
theorem cells_of_blk2 {w : World} {b : Nat} {n : Nat} (hk : Blk w b 209 #[.int .u32 (n : Int),.int .u32 0]) : ∀ i,i < [n,0].length -> w.cell? ⟨b,0 + i,none⟩ = some (.int .u32 (([n,0] : List Nat).getD i 0 : Nat)):=fun i hi=>by
 have : i = 0 \/ i = 1:=by simp at hi; omega
 rw [Nat.zero_add]
 rcases this with rfl | rfl
 ·exact hk.cell 0
 ·exact hk.cell 1
theorem add00 (A : Option Addr) (A1 : Option Addr) (c c1 : Nat) (w : World)  (h00 : True) (hc2 : c <= maxLen) (hd2 : c1 <= maxLen) :
  Calls Tryz.prog 196 #[.slice A 0 c,.slice A1 0 c1] w fun e w'=>∃ v,e = .returned (.tuple #[v,.int .i64 0]) /\ IsLim w' v (0) /\ Below w.heap.size w w' /\ NewS w.heap.size v:=by
 have hr0:=Hd (natRight_any (.slice A 0 c) 0 w (.inl ⟨rfl,_,_,rfl,hc2⟩))
 have hr1:=Hd (natRight_any (.slice A1 0 c1) 0 w (.inl ⟨rfl,_,_,rfl,hd2⟩))
 have hmk:=make1 w
 obtain ⟨W1,hW1⟩ : ∃ W1,W1 = w.alloc (.cells #[.int .u32 0] 209):=⟨_,rfl⟩
 rw [<- hW1] at hmk
 have hA:=Hd (adder_any W1)
 have hB1 : Hid (Below w.heap.size w W1):=Hd (by rw [hW1]; exact (Below.refl _ _).alloc (lQ _) _)
 have kS : Hid (Blk W1 w.heap.size 209 #[.int .u32 0]):=Hd (by rw [hW1]; exact Blk.new _ _ _)
 have hsz : Hid (w.heap.size < W1.heap.size):=Hd kS.out.lt
 obtain ⟨W2,hW2⟩ : ∃ W2,W2 = W1.alloc (.cells #[.int .u32 0] 209):=⟨_,rfl⟩
 rw [<- hW2] at hA
 have hB2 : Hid (Below w.heap.size w W2):=Hd (by rw [hW2]; exact hB1.out.alloc hB1.out.size _)
 have kS2 : Hid (Blk W2 w.heap.size 209 #[.int .u32 0]):=Hd (by rw [hW2]; exact kS.out.alloc _)
 have kC2 : Hid (Blk W2 W1.heap.size 209 #[.int .u32 0]):=Hd (by rw [hW2]; exact Blk.new _ _ _)
 clear hW1 hW2 hB1 kS
 obtain ⟨G,hG⟩ : ∃ G,G = w.heap.size:=⟨_,rfl⟩
 obtain ⟨H,hH⟩ : ∃ H,H = W1.heap.size:=⟨_,rfl⟩
 rw [<- hG] at kS2 hsz hmk
 rw [<- hH] at kC2 hsz hA
 have hHs : Hid (w.heap.size <= W1.heap.size):=Hd (by have:=hsz.out; omega)
 replace hG:=Hd hG
 replace hH:=Hd hH
 go_enter Tryz.func196,Tryz.ntmps196
 go_wp2_with fail
 refine hr0.out.mono ?_
 rintro e w' ⟨rfl,hw⟩
 obtain rfl:=hw.symm
 clear hr0
 go_wp2_with fail
 refine hr1.out.mono ?_
 rintro e w' ⟨rfl,hw⟩
 obtain rfl:=hw.symm
 clear hr1
 go_wp2_with fail
 refine hA.out.mono ?_
 rintro e w' ⟨rfl,rfl⟩
 clear hA
 have hmk':=Hd hmk
 clear hmk
 go_wp2_with fail
 go_loopw [33] (fun iv wr=>∃ k : Nat,k <= 1 /\ iv = .int .i64 k /\ Hid (Below w.heap.size w wr) /\ Hid (Blk wr G 209 #[.int .u32 (if k = 0 then 0 else (0 : Int))]) /\ Hid (Blk wr H 209 #[.int .u32 0])) (fun iv _=>1 - (intOf iv).toNat)
 case atStart=>exact ⟨0,by omega,rfl,hB2,kS2,kC2⟩
 case round=>
  obtain ⟨k,hk,rfl,hbw,hS,hC⟩:=hrel
  have hkk : k = 0 \/ k = 1:=by omega
  rcases hkk with rfl | rfl
  ·replace hS : Hid (Blk _ G 209 #[.int .u32 0]):=hS
   have had:=Hd (adder1_any 0 0 H _ (by omega) (by omega) (by omega) hC.out)
   go_wp2_with fail
   refine had.out.mono ?_
   rintro e w' ⟨rfl,rfl⟩
   clear had
   have hne : G ≠ H:=by have:=hsz.out; omega
   have hbw2:=Hd (hbw.out.setCell (p:=⟨H,0,none⟩) (by rw [hH.out]; exact hHs.out) (.int .u32 0))
   have hS2:=Hd (hS.out.far (p:=⟨H,0,none⟩) hne (.int .u32 0))
   have hC2:=Hd (hC.out.set_ 0 (.int .u32 0))
   clear hbw hS hC
   generalize World.setCell _ ⟨H,0,none⟩ (Value.int IntKind.u32 0) = wy at *
   have z0:=hS2.out.cell 0
   have f0:=hS2.out.frozen 0
   have l0:=hS2.out.lt
   simp at z0
   go_wp2
   go_roundw
   case rel=>exact ⟨1,by omega,rfl,Hd (hbw2.out.setCell (p:=⟨G,0,none⟩) (by rw [hG.out]; exact lQ _) _),Hd (by have:=hS2.out.set_ 0 (.int .u32 (0 + 0)); simpa using this),Hd (hC2.out.far (p:=⟨G,0,none⟩) (fun e=>hne e.symm) _)⟩
   case measure=>simp [intOf]
  ·replace hS : Hid (Blk _ G 209 #[.int .u32 (0 : Int)]):=hS
   have hS' : Hid (Blk _ G 209 #[.int .u32 (((0 : Nat)) : Int)]):=Hd (by have:=hS.out; simpa using this)
   have hlim:=Hd (one_lim hS'.out rfl)
   have ht:=Hd (trimmed_any G 0 1 [0] _ (cells_of_blk1 hS'.out) hS'.out.lt (by simp) (by unfold maxLen; omega))
   go_wp2_with fail
   refine ht.out.mono ?_
   rintro e w' ⟨rfl,rfl⟩
   clear ht
   simp only [List.length_cons,List.length_nil,Nat.zero_add,Nat.reduceAdd] at *
   have htl:=trimTo_le [0] 1
   generalize trimTo [0] 1 = tn at *
   have htl2 : ¬ ((tn : Int) > 1024):=by omega
   go_wp2
   go_ret2
   exact ⟨_,rfl,hlim.out,hbw.out,newS (by rw [hG.out]; exact lQ _)⟩
theorem add10 (n : Nat) (b off : Nat) (A1 : Option Addr) (c c1 : Nat) (w : World) (hb : b < w.heap.size) (hx : w.cell? ⟨b,off,none⟩ = some (.int .u32 (n : Int))) (hnn : n ≠ 0) (hs : n < 4294967296) (hc1 : 1 <= c) (hc2 : c <= maxLen) (hd2 : c1 <= maxLen) :
  Calls Tryz.prog 196 #[.slice (some ⟨b,off,none⟩) 1 c,.slice A1 0 c1] w fun e w'=>∃ v,e = .returned (.tuple #[v,.int .i64 0]) /\ IsLim w' v (n) /\ Below w.heap.size w w' /\ NewS w.heap.size v:=by
 have hr0:=Hd (natRight_any (.slice (some ⟨b,off,none⟩) 1 c) n w (.inr ⟨hnn,by omega,b,off,c,rfl,hc1,hc2,hb,hx⟩))
 have hr1:=Hd (natRight_any (.slice A1 0 c1) 0 w (.inl ⟨rfl,_,_,rfl,hd2⟩))
 have hmk:=make2 w
 obtain ⟨W1,hW1⟩ : ∃ W1,W1 = w.alloc (.cells #[.int .u32 0,.int .u32 0] 209):=⟨_,rfl⟩
 rw [<- hW1] at hmk
 have hA:=Hd (adder_any W1)
 have hB1 : Hid (Below w.heap.size w W1):=Hd (by rw [hW1]; exact (Below.refl _ _).alloc (lQ _) _)
 have kS : Hid (Blk W1 w.heap.size 209 #[.int .u32 0,.int .u32 0]):=Hd (by rw [hW1]; exact Blk.new _ _ _)
 have hsz : Hid (w.heap.size < W1.heap.size):=Hd kS.out.lt
 obtain ⟨W2,hW2⟩ : ∃ W2,W2 = W1.alloc (.cells #[.int .u32 0] 209):=⟨_,rfl⟩
 rw [<- hW2] at hA
 have hB2 : Hid (Below w.heap.size w W2):=Hd (by rw [hW2]; exact hB1.out.alloc hB1.out.size _)
 have kS2 : Hid (Blk W2 w.heap.size 209 #[.int .u32 0,.int .u32 0]):=Hd (by rw [hW2]; exact kS.out.alloc _)
 have kC2 : Hid (Blk W2 W1.heap.size 209 #[.int .u32 0]):=Hd (by rw [hW2]; exact Blk.new _ _ _)
 clear hW1 hW2 hB1 kS
 obtain ⟨G,hG⟩ : ∃ G,G = w.heap.size:=⟨_,rfl⟩
 obtain ⟨H,hH⟩ : ∃ H,H = W1.heap.size:=⟨_,rfl⟩
 rw [<- hG] at kS2 hsz hmk
 rw [<- hH] at kC2 hsz hA
 have hHs : Hid (w.heap.size <= W1.heap.size):=Hd (by have:=hsz.out; omega)
 replace hG:=Hd hG
 replace hH:=Hd hH
 go_enter Tryz.func196,Tryz.ntmps196
 go_wp2_with fail
 refine hr0.out.mono ?_
 rintro e w' ⟨rfl,hw⟩
 obtain rfl:=hw.symm
 clear hr0
 go_wp2_with fail
 refine hr1.out.mono ?_
 rintro e w' ⟨rfl,hw⟩
 obtain rfl:=hw.symm
 clear hr1
 go_wp2_with fail
 refine hA.out.mono ?_
 rintro e w' ⟨rfl,rfl⟩
 clear hA
 have hmk':=Hd hmk
 clear hmk
 go_wp2_with fail
 go_loopw [33] (fun iv wr=>∃ k : Nat,k <= 2 /\ iv = .int .i64 k /\ Hid (Below w.heap.size w wr) /\ Hid (Blk wr G 209 #[.int .u32 (if k = 0 then 0 else (n : Int)),.int .u32 0]) /\ Hid (Blk wr H 209 #[.int .u32 0])) (fun iv _=>2 - (intOf iv).toNat)
 case atStart=>exact ⟨0,by omega,rfl,hB2,kS2,kC2⟩
 case round=>
  obtain ⟨k,hk,rfl,hbw,hS,hC⟩:=hrel
  have hkk : k = 0 \/ k = 1 \/ k = 2:=by omega
  rcases hkk with rfl | rfl | rfl
  ·replace hS : Hid (Blk _ G 209 #[.int .u32 0,.int .u32 0]):=hS
   have hxw:=(hbw.out.cell (p:=⟨b,off,none⟩) hb).trans hx
   have had:=Hd (adder1_any (n : Int) 0 H _ (by omega) (by omega) (by omega) hC.out)
   go_wp2_with fail
   refine had.out.mono ?_
   rintro e w' ⟨rfl,rfl⟩
   clear had
   have hne : G ≠ H:=by have:=hsz.out; omega
   have hbw2:=Hd (hbw.out.setCell (p:=⟨H,0,none⟩) (by rw [hH.out]; exact hHs.out) (.int .u32 0))
   have hS2:=Hd (hS.out.far (p:=⟨H,0,none⟩) hne (.int .u32 0))
   have hC2:=Hd (hC.out.set_ 0 (.int .u32 0))
   clear hbw hS hC
   generalize World.setCell _ ⟨H,0,none⟩ (Value.int IntKind.u32 0) = wy at *
   have z0:=hS2.out.cell 0
   have f0:=hS2.out.frozen 0
   have l0:=hS2.out.lt
   simp at z0
   go_wp2
   go_roundw
   case rel=>exact ⟨1,by omega,rfl,Hd (hbw2.out.setCell (p:=⟨G,0,none⟩) (by rw [hG.out]; exact lQ _) _),Hd (by have:=hS2.out.set_ 0 (.int .u32 ((n : Int) + 0)); simpa using this),Hd (hC2.out.far (p:=⟨G,0,none⟩) (fun e=>hne e.symm) _)⟩
   case measure=>simp [intOf]
  ·replace hS : Hid (Blk _ G 209 #[.int .u32 (n : Int),.int .u32 0]):=hS
   have had:=Hd (adder1_any 0 0 H _ (by omega) (by omega) (by omega) hC.out)
   go_wp2_with fail
   refine had.out.mono ?_
   rintro e w' ⟨rfl,rfl⟩
   clear had
   have hne : G ≠ H:=by have:=hsz.out; omega
   have hbw2:=Hd (hbw.out.setCell (p:=⟨H,0,none⟩) (by rw [hH.out]; exact hHs.out) (.int .u32 0))
   have hS2:=Hd (hS.out.far (p:=⟨H,0,none⟩) hne (.int .u32 0))
   have hC2:=Hd (hC.out.set_ 0 (.int .u32 0))
   clear hbw hS hC
   generalize World.setCell _ ⟨H,0,none⟩ (Value.int IntKind.u32 0) = wy at *
   have z0:=hS2.out.cell 1
   have f0:=hS2.out.frozen 1
   have l0:=hS2.out.lt
   simp at z0
   go_wp2
   go_roundw
   case rel=>exact ⟨2,by omega,rfl,Hd (hbw2.out.setCell (p:=⟨G,1,none⟩) (by rw [hG.out]; exact lQ _) _),Hd (by have:=hS2.out.set_ 1 (.int .u32 (0 + 0)); simpa using this),Hd (hC2.out.far (p:=⟨G,1,none⟩) (fun e=>hne e.symm) _)⟩
   case measure=>simp [intOf]
  ·replace hS : Hid (Blk _ G 209 #[.int .u32 (n : Int),.int .u32 0]):=hS
   have hS' : Hid (Blk _ G 209 #[.int .u32 (((n : Nat)) : Int),.int .u32 0]):=Hd (by have:=hS.out; simpa using this)
   have hlim:=Hd (two_lim hS'.out (by omega))
   have ht:=Hd (trimmed_any G 0 2 [n,0] _ (cells_of_blk2 hS'.out) hS'.out.lt (by simp) (by unfold maxLen; omega))
   go_wp2_with fail
   refine ht.out.mono ?_
   rintro e w' ⟨rfl,rfl⟩
   clear ht
   simp only [List.length_cons,List.length_nil,Nat.zero_add,Nat.reduceAdd] at *
   have htl:=trimTo_le [n,0] 2
   generalize trimTo [n,0] 2 = tn at *
   have htl2 : ¬ ((tn : Int) > 1024):=by omega
   go_wp2
   go_ret2
   exact ⟨_,rfl,hlim.out,hbw.out,newS (by rw [hG.out]; exact lQ _)⟩
theorem add01 (m : Nat) (A : Option Addr) (b1 off1 : Nat) (c c1 : Nat) (w : World) (hb1 : b1 < w.heap.size) (hy : w.cell? ⟨b1,off1,none⟩ = some (.int .u32 (m : Int))) (hmn : m ≠ 0) (hs : m < 4294967296) (hd1 : 1 <= c1) (hc2 : c <= maxLen) (hd2 : c1 <= maxLen) :
  Calls Tryz.prog 196 #[.slice A 0 c,.slice (some ⟨b1,off1,none⟩) 1 c1] w fun e w'=>∃ v,e = .returned (.tuple #[v,.int .i64 0]) /\ IsLim w' v (m) /\ Below w.heap.size w w' /\ NewS w.heap.size v:=by
 have hr0:=Hd (natRight_any (.slice A 0 c) 0 w (.inl ⟨rfl,_,_,rfl,hc2⟩))
 have hr1:=Hd (natRight_any (.slice (some ⟨b1,off1,none⟩) 1 c1) m w (.inr ⟨hmn,by omega,b1,off1,c1,rfl,hd1,hd2,hb1,hy⟩))
 have hmk:=make2 w
 obtain ⟨W1,hW1⟩ : ∃ W1,W1 = w.alloc (.cells #[.int .u32 0,.int .u32 0] 209):=⟨_,rfl⟩
 rw [<- hW1] at hmk
 have hA:=Hd (adder_any W1)
 have hB1 : Hid (Below w.heap.size w W1):=Hd (by rw [hW1]; exact (Below.refl _ _).alloc (lQ _) _)
 have kS : Hid (Blk W1 w.heap.size 209 #[.int .u32 0,.int .u32 0]):=Hd (by rw [hW1]; exact Blk.new _ _ _)
 have hsz : Hid (w.heap.size < W1.heap.size):=Hd kS.out.lt
 obtain ⟨W2,hW2⟩ : ∃ W2,W2 = W1.alloc (.cells #[.int .u32 0] 209):=⟨_,rfl⟩
 rw [<- hW2] at hA
 have hB2 : Hid (Below w.heap.size w W2):=Hd (by rw [hW2]; exact hB1.out.alloc hB1.out.size _)
 have kS2 : Hid (Blk W2 w.heap.size 209 #[.int .u32 0,.int .u32 0]):=Hd (by rw [hW2]; exact kS.out.alloc _)
 have kC2 : Hid (Blk W2 W1.heap.size 209 #[.int .u32 0]):=Hd (by rw [hW2]; exact Blk.new _ _ _)
 clear hW1 hW2 hB1 kS
 obtain ⟨G,hG⟩ : ∃ G,G = w.heap.size:=⟨_,rfl⟩
 obtain ⟨H,hH⟩ : ∃ H,H = W1.heap.size:=⟨_,rfl⟩
 rw [<- hG] at kS2 hsz hmk
 rw [<- hH] at kC2 hsz hA
 have hHs : Hid (w.heap.size <= W1.heap.size):=Hd (by have:=hsz.out; omega)
 replace hG:=Hd hG
 replace hH:=Hd hH
 go_enter Tryz.func196,Tryz.ntmps196
 go_wp2_with fail
 refine hr0.out.mono ?_
 rintro e w' ⟨rfl,hw⟩
 obtain rfl:=hw.symm
 clear hr0
 go_wp2_with fail
 refine hr1.out.mono ?_
 rintro e w' ⟨rfl,hw⟩
 obtain rfl:=hw.symm
 clear hr1
 go_wp2_with fail
 refine hA.out.mono ?_
 rintro e w' ⟨rfl,rfl⟩
 clear hA
 have hmk':=Hd hmk
 clear hmk
 go_wp2_with fail
 go_loopw [33] (fun iv wr=>∃ k : Nat,k <= 2 /\ iv = .int .i64 k /\ Hid (Below w.heap.size w wr) /\ Hid (Blk wr G 209 #[.int .u32 (if k = 0 then 0 else (m : Int)),.int .u32 0]) /\ Hid (Blk wr H 209 #[.int .u32 0])) (fun iv _=>2 - (intOf iv).toNat)
 case atStart=>exact ⟨0,by omega,rfl,hB2,kS2,kC2⟩
 case round=>
  obtain ⟨k,hk,rfl,hbw,hS,hC⟩:=hrel
  have hkk : k = 0 \/ k = 1 \/ k = 2:=by omega
  rcases hkk with rfl | rfl | rfl
  ·replace hS : Hid (Blk _ G 209 #[.int .u32 0,.int .u32 0]):=hS
   have hyw:=(hbw.out.cell (p:=⟨b1,off1,none⟩) hb1).trans hy
   have had:=Hd (adder1_any (m : Int) 0 H _ (by omega) (by omega) (by omega) hC.out)
   go_wp2_with fail
   refine had.out.mono ?_
   rintro e w' ⟨rfl,rfl⟩
   clear had
   have hne : G ≠ H:=by have:=hsz.out; omega
   have hbw2:=Hd (hbw.out.setCell (p:=⟨H,0,none⟩) (by rw [hH.out]; exact hHs.out) (.int .u32 0))
   have hS2:=Hd (hS.out.far (p:=⟨H,0,none⟩) hne (.int .u32 0))
   have hC2:=Hd (hC.out.set_ 0 (.int .u32 0))
   clear hbw hS hC
   generalize World.setCell _ ⟨H,0,none⟩ (Value.int IntKind.u32 0) = wy at *
   have z0:=hS2.out.cell 0
   have f0:=hS2.out.frozen 0
   have l0:=hS2.out.lt
   simp at z0
   go_wp2
   go_roundw
   case rel=>exact ⟨1,by omega,rfl,Hd (hbw2.out.setCell (p:=⟨G,0,none⟩) (by rw [hG.out]; exact lQ _) _),Hd (by have:=hS2.out.set_ 0 (.int .u32 ((m : Int) + 0)); simpa using this),Hd (hC2.out.far (p:=⟨G,0,none⟩) (fun e=>hne e.symm) _)⟩
   case measure=>simp [intOf]
  ·replace hS : Hid (Blk _ G 209 #[.int .u32 (m : Int),.int .u32 0]):=hS
   have had:=Hd (adder1_any 0 0 H _ (by omega) (by omega) (by omega) hC.out)
   go_wp2_with fail
   refine had.out.mono ?_
   rintro e w' ⟨rfl,rfl⟩
   clear had
   have hne : G ≠ H:=by have:=hsz.out; omega
   have hbw2:=Hd (hbw.out.setCell (p:=⟨H,0,none⟩) (by rw [hH.out]; exact hHs.out) (.int .u32 0))
   have hS2:=Hd (hS.out.far (p:=⟨H,0,none⟩) hne (.int .u32 0))
   have hC2:=Hd (hC.out.set_ 0 (.int .u32 0))
   clear hbw hS hC
   generalize World.setCell _ ⟨H,0,none⟩ (Value.int IntKind.u32 0) = wy at *
   have z0:=hS2.out.cell 1
   have f0:=hS2.out.frozen 1
   have l0:=hS2.out.lt
   simp at z0
   go_wp2
   go_roundw
   case rel=>exact ⟨2,by omega,rfl,Hd (hbw2.out.setCell (p:=⟨G,1,none⟩) (by rw [hG.out]; exact lQ _) _),Hd (by have:=hS2.out.set_ 1 (.int .u32 (0 + 0)); simpa using this),Hd (hC2.out.far (p:=⟨G,1,none⟩) (fun e=>hne e.symm) _)⟩
   case measure=>simp [intOf]
  ·replace hS : Hid (Blk _ G 209 #[.int .u32 (m : Int),.int .u32 0]):=hS
   have hS' : Hid (Blk _ G 209 #[.int .u32 (((m : Nat)) : Int),.int .u32 0]):=Hd (by have:=hS.out; simpa using this)
   have hlim:=Hd (two_lim hS'.out (by omega))
   have ht:=Hd (trimmed_any G 0 2 [m,0] _ (cells_of_blk2 hS'.out) hS'.out.lt (by simp) (by unfold maxLen; omega))
   go_wp2_with fail
   refine ht.out.mono ?_
   rintro e w' ⟨rfl,rfl⟩
   clear ht
   simp only [List.length_cons,List.length_nil,Nat.zero_add,Nat.reduceAdd] at *
   have htl:=trimTo_le [m,0] 2
   generalize trimTo [m,0] 2 = tn at *
   have htl2 : ¬ ((tn : Int) > 1024):=by omega
   go_wp2
   go_ret2
   exact ⟨_,rfl,hlim.out,hbw.out,newS (by rw [hG.out]; exact lQ _)⟩
theorem add11 (n m : Nat) (b off : Nat) (b1 off1 : Nat) (c c1 : Nat) (w : World) (hb : b < w.heap.size) (hx : w.cell? ⟨b,off,none⟩ = some (.int .u32 (n : Int))) (hnn : n ≠ 0) (hb1 : b1 < w.heap.size) (hy : w.cell? ⟨b1,off1,none⟩ = some (.int .u32 (m : Int))) (hmn : m ≠ 0) (hs : n + m < 4294967296) (hc1 : 1 <= c) (hd1 : 1 <= c1) (hc2 : c <= maxLen) (hd2 : c1 <= maxLen) :
  Calls Tryz.prog 196 #[.slice (some ⟨b,off,none⟩) 1 c,.slice (some ⟨b1,off1,none⟩) 1 c1] w fun e w'=>∃ v,e = .returned (.tuple #[v,.int .i64 0]) /\ IsLim w' v (n + m) /\ Below w.heap.size w w' /\ NewS w.heap.size v:=by
 have hr0:=Hd (natRight_any (.slice (some ⟨b,off,none⟩) 1 c) n w (.inr ⟨hnn,by omega,b,off,c,rfl,hc1,hc2,hb,hx⟩))
 have hr1:=Hd (natRight_any (.slice (some ⟨b1,off1,none⟩) 1 c1) m w (.inr ⟨hmn,by omega,b1,off1,c1,rfl,hd1,hd2,hb1,hy⟩))
 have hmk:=make2 w
 obtain ⟨W1,hW1⟩ : ∃ W1,W1 = w.alloc (.cells #[.int .u32 0,.int .u32 0] 209):=⟨_,rfl⟩
 rw [<- hW1] at hmk
 have hA:=Hd (adder_any W1)
 have hB1 : Hid (Below w.heap.size w W1):=Hd (by rw [hW1]; exact (Below.refl _ _).alloc (lQ _) _)
 have kS : Hid (Blk W1 w.heap.size 209 #[.int .u32 0,.int .u32 0]):=Hd (by rw [hW1]; exact Blk.new _ _ _)
 have hsz : Hid (w.heap.size < W1.heap.size):=Hd kS.out.lt
 obtain ⟨W2,hW2⟩ : ∃ W2,W2 = W1.alloc (.cells #[.int .u32 0] 209):=⟨_,rfl⟩
 rw [<- hW2] at hA
 have hB2 : Hid (Below w.heap.size w W2):=Hd (by rw [hW2]; exact hB1.out.alloc hB1.out.size _)
 have kS2 : Hid (Blk W2 w.heap.size 209 #[.int .u32 0,.int .u32 0]):=Hd (by rw [hW2]; exact kS.out.alloc _)
 have kC2 : Hid (Blk W2 W1.heap.size 209 #[.int .u32 0]):=Hd (by rw [hW2]; exact Blk.new _ _ _)
 clear hW1 hW2 hB1 kS
 obtain ⟨G,hG⟩ : ∃ G,G = w.heap.size:=⟨_,rfl⟩
 obtain ⟨H,hH⟩ : ∃ H,H = W1.heap.size:=⟨_,rfl⟩
 rw [<- hG] at kS2 hsz hmk
 rw [<- hH] at kC2 hsz hA
 have hHs : Hid (w.heap.size <= W1.heap.size):=Hd (by have:=hsz.out; omega)
 replace hG:=Hd hG
 replace hH:=Hd hH
 go_enter Tryz.func196,Tryz.ntmps196
 go_wp2_with fail
 refine hr0.out.mono ?_
 rintro e w' ⟨rfl,hw⟩
 obtain rfl:=hw.symm
 clear hr0
 go_wp2_with fail
 refine hr1.out.mono ?_
 rintro e w' ⟨rfl,hw⟩
 obtain rfl:=hw.symm
 clear hr1
 go_wp2_with fail
 refine hA.out.mono ?_
 rintro e w' ⟨rfl,rfl⟩
 clear hA
 have hmk':=Hd hmk
 clear hmk
 go_wp2_with fail
 go_loopw [33] (fun iv wr=>∃ k : Nat,k <= 2 /\ iv = .int .i64 k /\ Hid (Below w.heap.size w wr) /\ Hid (Blk wr G 209 #[.int .u32 (if k = 0 then 0 else ((n : Int) + (m : Int))),.int .u32 0]) /\ Hid (Blk wr H 209 #[.int .u32 0])) (fun iv _=>2 - (intOf iv).toNat)
 case atStart=>exact ⟨0,by omega,rfl,hB2,kS2,kC2⟩
 case round=>
  obtain ⟨k,hk,rfl,hbw,hS,hC⟩:=hrel
  have hkk : k = 0 \/ k = 1 \/ k = 2:=by omega
  rcases hkk with rfl | rfl | rfl
  ·replace hS : Hid (Blk _ G 209 #[.int .u32 0,.int .u32 0]):=hS
   have hxw:=(hbw.out.cell (p:=⟨b,off,none⟩) hb).trans hx
   have hyw:=(hbw.out.cell (p:=⟨b1,off1,none⟩) hb1).trans hy
   have had:=Hd (adder1_any (n : Int) (m : Int) H _ (by omega) (by omega) (by omega) hC.out)
   go_wp2_with fail
   refine had.out.mono ?_
   rintro e w' ⟨rfl,rfl⟩
   clear had
   have hne : G ≠ H:=by have:=hsz.out; omega
   have hbw2:=Hd (hbw.out.setCell (p:=⟨H,0,none⟩) (by rw [hH.out]; exact hHs.out) (.int .u32 0))
   have hS2:=Hd (hS.out.far (p:=⟨H,0,none⟩) hne (.int .u32 0))
   have hC2:=Hd (hC.out.set_ 0 (.int .u32 0))
   clear hbw hS hC
   generalize World.setCell _ ⟨H,0,none⟩ (Value.int IntKind.u32 0) = wy at *
   have z0:=hS2.out.cell 0
   have f0:=hS2.out.frozen 0
   have l0:=hS2.out.lt
   simp at z0
   go_wp2
   go_roundw
   case rel=>exact ⟨1,by omega,rfl,Hd (hbw2.out.setCell (p:=⟨G,0,none⟩) (by rw [hG.out]; exact lQ _) _),Hd (by have:=hS2.out.set_ 0 (.int .u32 ((n : Int) + (m : Int))); simpa using this),Hd (hC2.out.far (p:=⟨G,0,none⟩) (fun e=>hne e.symm) _)⟩
   case measure=>simp [intOf]
  ·replace hS : Hid (Blk _ G 209 #[.int .u32 ((n : Int) + (m : Int)),.int .u32 0]):=hS
   have had:=Hd (adder1_any 0 0 H _ (by omega) (by omega) (by omega) hC.out)
   go_wp2_with fail
   refine had.out.mono ?_
   rintro e w' ⟨rfl,rfl⟩
   clear had
   have hne : G ≠ H:=by have:=hsz.out; omega
   have hbw2:=Hd (hbw.out.setCell (p:=⟨H,0,none⟩) (by rw [hH.out]; exact hHs.out) (.int .u32 0))
   have hS2:=Hd (hS.out.far (p:=⟨H,0,none⟩) hne (.int .u32 0))
   have hC2:=Hd (hC.out.set_ 0 (.int .u32 0))
   clear hbw hS hC
   generalize World.setCell _ ⟨H,0,none⟩ (Value.int IntKind.u32 0) = wy at *
   have z0:=hS2.out.cell 1
   have f0:=hS2.out.frozen 1
   have l0:=hS2.out.lt
   simp at z0
   go_wp2
   go_roundw
   case rel=>exact ⟨2,by omega,rfl,Hd (hbw2.out.setCell (p:=⟨G,1,none⟩) (by rw [hG.out]; exact lQ _) _),Hd (by have:=hS2.out.set_ 1 (.int .u32 (0 + 0)); simpa using this),Hd (hC2.out.far (p:=⟨G,1,none⟩) (fun e=>hne e.symm) _)⟩
   case measure=>simp [intOf]
  ·replace hS : Hid (Blk _ G 209 #[.int .u32 ((n : Int) + (m : Int)),.int .u32 0]):=hS
   have hS' : Hid (Blk _ G 209 #[.int .u32 (((n + m : Nat)) : Int),.int .u32 0]):=Hd (by have:=hS.out; simpa using this)
   have hlim:=Hd (two_lim hS'.out (by omega))
   have ht:=Hd (trimmed_any G 0 2 [n + m,0] _ (cells_of_blk2 hS'.out) hS'.out.lt (by simp) (by unfold maxLen; omega))
   go_wp2_with fail
   refine ht.out.mono ?_
   rintro e w' ⟨rfl,rfl⟩
   clear ht
   simp only [List.length_cons,List.length_nil,Nat.zero_add,Nat.reduceAdd] at *
   have htl:=trimTo_le [n + m,0] 2
   generalize trimTo [n + m,0] 2 = tn at *
   have htl2 : ¬ ((tn : Int) > 1024):=by omega
   go_wp2
   go_ret2
   exact ⟨_,rfl,hlim.out,hbw.out,newS (by rw [hG.out]; exact lQ _)⟩
theorem natAdd_any (va vb : Value) (n m : Nat) (w : World) (ha : IsLim w va n) (hb : IsLim w vb m) (hs : n + m < 4294967296) :
  Calls Tryz.prog 196 #[va,vb] w fun e w'=>∃ v,e = .returned (.tuple #[v,.int .i64 0]) /\ IsLim w' v (n + m) /\ Below w.heap.size w w' /\ NewS w.heap.size v:=by
 rcases ha with ⟨rfl,A,c,rfl,hc⟩ | ⟨h1,h2,b,off,c,rfl,h3,h4,h5,h6⟩
 ·rcases hb with ⟨rfl,A1,c1,rfl,hc1⟩ | ⟨k1,k2,b1,off1,c1,rfl,k3,k4,k5,k6⟩
  ·exact add00 A A1 c c1 w trivial hc hc1
  ·rw [Nat.zero_add]
   exact add01 m A b1 off1 c c1 w k5 k6 k1 k2 k3 hc k4
 ·rcases hb with ⟨rfl,A1,c1,rfl,hc1⟩ | ⟨k1,k2,b1,off1,c1,rfl,k3,k4,k5,k6⟩
  ·exact add10 n b off A1 c c1 w h5 h6 h1 h2 h3 h4 hc1
  ·exact add11 n m b off b1 off1 c c1 w h5 h6 h1 k5 k6 k1 hs h3 k3 h4 k4
end
section
open Go.RowKit Go.Maps
theorem lim_len {w : World} {v : Value} {n : Nat} (h : IsLim w v n) : ∃ A k c,v = .slice A k c /\ (k = 0 ↔ n = 0) /\ k <= 1:=by
 rcases h with ⟨h0,A,c,rfl,_⟩ | ⟨h0,_,b,off,c,rfl,_⟩
 ·exact ⟨A,0,c,rfl,by omega,by omega⟩
 ·exact ⟨_,1,c,rfl,by omega,by omega⟩
theorem natRight_lim {v : Value} {n : Nat} {w : World} (h : IsLim w v n) : Hid (Calls Tryz.prog 205 #[v] w fun e w'=>e = .returned (.bool true) /\ w' = w):=Hd (natRight_any v n w h)
theorem mul0 (va vb : Value) (n m : Nat) (w : World) (ha : IsLim w va n) (hb : IsLim w vb m) (hs : n * m = 0) :
  Calls Tryz.prog 195 #[va,vb] w fun e w'=>∃ v,e = .returned (.tuple #[v,.int .i64 0]) /\ IsLim w' v (n * m) /\ Below w.heap.size w w' /\ NewS w.heap.size v:=by
 have hr0:=natRight_lim ha
 have hr1:=natRight_lim hb
 obtain ⟨A,k,c,rfl,hk,hk1⟩:=lim_len ha
 obtain ⟨B,j,d,rfl,hj,hj1⟩:=lim_len hb
 have hkj : k = 0 \/ (k = 1 /\ j = 0):=by
  rcases Nat.mul_eq_zero.1 hs with h | h
  ·exact .inl (hk.2 h)
  ·have:=hj.2 h
   omega
 have hs:=Hd hs
 clear ha hb hk hj hk1 hj1
 rcases hkj with rfl | ⟨rfl,rfl⟩
 ·go_enter Tryz.func195,Tryz.ntmps195
  go_wp2_with fail
  refine hr0.out.mono ?_
  rintro e w1 ⟨rfl,hw⟩
  obtain rfl:=hw.symm
  clear hr0
  go_wp2_with fail
  refine hr1.out.mono ?_
  rintro e w1 ⟨rfl,hw⟩
  obtain rfl:=hw.symm
  clear hr1
  go_wp2
  go_ret2
  exact ⟨_,rfl,by rw [hs.out]; exact .inl ⟨rfl,_,_,rfl,by unfold maxLen; omega⟩,Below.refl _ _,trivial⟩
 ·go_enter Tryz.func195,Tryz.ntmps195
  go_wp2_with fail
  refine hr0.out.mono ?_
  rintro e w1 ⟨rfl,hw⟩
  obtain rfl:=hw.symm
  clear hr0
  go_wp2_with fail
  refine hr1.out.mono ?_
  rintro e w1 ⟨rfl,hw⟩
  obtain rfl:=hw.symm
  clear hr1
  go_wp2
  go_ret2
  exact ⟨_,rfl,by rw [hs.out]; exact .inl ⟨rfl,_,_,rfl,by unfold maxLen; omega⟩,Below.refl _ _,trivial⟩
theorem mul11 (n m b off b1 off1 c c1 : Nat) (w : World) (hb : b < w.heap.size) (hx : w.cell? ⟨b,off,none⟩ = some (.int .u32 (n : Int))) (hnn : n ≠ 0)
  (hb1 : b1 < w.heap.size) (hy : w.cell? ⟨b1,off1,none⟩ = some (.int .u32 (m : Int))) (hmn : m ≠ 0) (hs : n * m < 4294967296) (hc1 : 1 <= c) (hd1 : 1 <= c1) (hc2 : c <= maxLen) (hd2 : c1 <= maxLen) (hnb : n < 4294967296) (hmb : m < 4294967296) :
  Calls Tryz.prog 195 #[.slice (some ⟨b,off,none⟩) 1 c,.slice (some ⟨b1,off1,none⟩) 1 c1] w fun e w'=>∃ v,e = .returned (.tuple #[v,.int .i64 0]) /\ IsLim w' v (n * m) /\ Below w.heap.size w w' /\ NewS w.heap.size v:=by
 have hr0:=natRight_lim (w:=w) (.inr ⟨hnn,hnb,b,off,c,rfl,hc1,hc2,hb,hx⟩)
 have hr1:=natRight_lim (w:=w) (.inr ⟨hmn,hmb,b1,off1,c1,rfl,hd1,hd2,hb1,hy⟩)
 have hmk:=make2 w
 obtain ⟨W1,hW1⟩ : ∃ W1,W1 = w.alloc (.cells #[.int .u32 0,.int .u32 0] 209):=⟨_,rfl⟩
 rw [<- hW1] at hmk
 have hB1 : Hid (Below w.heap.size w W1):=Hd (by rw [hW1]; exact (Below.refl _ _).alloc (lQ _) _)
 have kS : Hid (Blk W1 w.heap.size 209 #[.int .u32 0,.int .u32 0]):=Hd (by rw [hW1]; exact Blk.new _ _ _)
 clear hW1
 obtain ⟨G,hG⟩ : ∃ G,G = w.heap.size:=⟨_,rfl⟩
 rw [<- hG] at kS hmk
 replace hG:=Hd hG
 have hprod : Hid ((n : Int) * (m : Int) = ((n * m : Nat) : Int)):=Hd (by rw [Int.natCast_mul])
 have hNm : Hid (n * m < 4294967296):=Hd hs
 generalize hp : n * m = p at *
 clear hp
 have e1 : IntKind.u64.wrap ((n : Int) * (m : Int)) = (p : Int):=by rw [hprod.out]; simp [IntKind.wrap,IntKind.bits,IntKind.signed]; have:=hNm.out; omega
 have e2 : IntKind.u32.wrap (p : Int) = (p : Int):=by simp [IntKind.wrap,IntKind.bits,IntKind.signed]; have:=hNm.out; omega
 have e3 : (p : Int) / 4294967296 = 0:=by have:=hNm.out; omega
 have n1 : (n : Int) < 4294967296:=by omega
 have n2 : (m : Int) < 4294967296:=by omega
 have n3 : (p : Int) < 4294967296:=by omega
 replace hnn:=Hd hnn
 replace hmn:=Hd hmn
 go_enter Tryz.func195,Tryz.ntmps195
 go_wp2_with fail
 refine hr0.out.mono ?_
 rintro e w' ⟨rfl,hw⟩
 obtain rfl:=hw.symm
 clear hr0
 go_wp2_with fail
 refine hr1.out.mono ?_
 rintro e w' ⟨rfl,hw⟩
 obtain rfl:=hw.symm
 clear hr1
 go_wp2_with fail
 clear hmk
 go_loopw [44] (fun iv wr=>∃ k : Nat,k <= 1 /\ iv = .int .i64 k /\ Hid (Below w.heap.size w wr) /\ Hid (Blk wr G 209 #[.int .u32 (if k = 0 then 0 else (p : Int)),.int .u32 0])) (fun iv _=>1 - (intOf iv).toNat)
 case atStart=>exact ⟨0,by omega,rfl,hB1,kS⟩
 case round=>
  obtain ⟨k,hk,rfl,hbw,hS⟩:=hrel
  have hkk : k = 0 \/ k = 1:=by omega
  rcases hkk with rfl | rfl
  ·replace hS : Hid (Blk _ G 209 #[.int .u32 0,.int .u32 0]):=hS
   have hxw:=(hbw.out.cell (p:=⟨b,off,none⟩) hb).trans hx
   clear hB1 kS
   rename World=>wr
   go_wp2_with fail
   go_loopw [51,9] (fun jv cv wx=>∃ k : Nat,k <= 1 /\ jv = .int .i64 k /\ cv = .int .u64 0 /\ Hid (Below w.heap.size w wx) /\ Hid (Blk wx G 209 #[.int .u32 (if k = 0 then 0 else (p : Int)),.int .u32 0])) (fun jv _ _=>1 - (intOf jv).toNat)
   case atStart=>exact ⟨0,by omega,rfl,rfl,hbw,hS⟩
   case round=>
    obtain ⟨k,hk,rfl,rfl,hbx,hSx⟩:=hrel
    have hkk : k = 0 \/ k = 1:=by omega
    clear hbw hS hxw
    rename World=>wx
    rcases hkk with rfl | rfl
    ·replace hSx : Hid (Blk _ G 209 #[.int .u32 0,.int .u32 0]):=hSx
     have hyw:=(hbx.out.cell (p:=⟨b1,off1,none⟩) hb1).trans hy
     have z0:=hSx.out.cell 0
     have f0:=hSx.out.frozen 0
     have l0:=hSx.out.lt
     simp at z0
     go_wp2_with fail
     go_roundw
     case rel=>exact ⟨1,by omega,rfl,rfl,Hd (hbx.out.setCell (p:=⟨G,0,none⟩) (by rw [hG.out]; exact lQ _) _),Hd (by have:=hSx.out.set_ 0 (.int .u32 (p : Int)); simpa using this)⟩
     case measure=>simp [intOf]
    ·replace hSx : Hid (Blk _ G 209 #[.int .u32 (p : Int),.int .u32 0]):=hSx
     have z0:=hSx.out.cell 1
     have f0:=hSx.out.frozen 1
     have l0:=hSx.out.lt
     simp at z0
     go_wp2_with fail
     go_roundw
     case rel=>exact ⟨1,by omega,rfl,Hd (hbx.out.setCell (p:=⟨G,1,none⟩) (by rw [hG.out]; exact lQ _) _),Hd (by have:=hSx.out.set_ 1 (.int .u32 0); simpa using this)⟩
     case measure=>simp [intOf]
  ·replace hS : Hid (Blk _ G 209 #[.int .u32 (p : Int),.int .u32 0]):=hS
   have hlim:=Hd (two_lim hS.out hNm.out)
   have ht:=Hd (trimmed_any G 0 2 [p,0] _ (cells_of_blk2 hS.out) hS.out.lt (by simp) (by unfold maxLen; omega))
   go_wp2_with fail
   refine ht.out.mono ?_
   rintro e w' ⟨rfl,rfl⟩
   clear ht
   simp only [List.length_cons,List.length_nil,Nat.zero_add,Nat.reduceAdd] at *
   have htl:=trimTo_le [p,0] 2
   generalize trimTo [p,0] 2 = tn at *
   have htl2 : ¬ ((tn : Int) > 1024):=by omega
   go_wp2
   go_ret2
   exact ⟨_,rfl,hlim.out,hbw.out,newS (by rw [hG.out]; exact lQ _)⟩
theorem natMul_any (va vb : Value) (n m : Nat) (w : World) (ha : IsLim w va n) (hb : IsLim w vb m) (hs : n * m < 4294967296) :
  Calls Tryz.prog 195 #[va,vb] w fun e w'=>∃ v,e = .returned (.tuple #[v,.int .i64 0]) /\ IsLim w' v (n * m) /\ Below w.heap.size w w' /\ NewS w.heap.size v:=by
 by_cases h0 : n * m = 0
 ·exact mul0 va vb n m w ha hb h0
 ·have hn : n ≠ 0:=fun e=>h0 (by rw [e,Nat.zero_mul])
  have hm : m ≠ 0:=fun e=>h0 (by rw [e,Nat.mul_zero])
  rcases ha with ⟨h1,_⟩ | ⟨h1,h2,b,off,c,rfl,h3,h4,h5,h6⟩
  ·exact absurd h1 hn
  ·rcases hb with ⟨k1,_⟩ | ⟨k1,k2,b1,off1,c1,rfl,k3,k4,k5,k6⟩
   ·exact absurd k1 hm
   ·exact mul11 n m b off b1 off1 c c1 w h5 h6 h1 k5 k6 k1 hs h3 k3 h4 k4 h2 k2
end
end Go.Proofs.YteclineblddpbaaGreatDoorR
