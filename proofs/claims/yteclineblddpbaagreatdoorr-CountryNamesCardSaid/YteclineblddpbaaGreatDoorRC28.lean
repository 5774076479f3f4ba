import Derived.Test.YteclineblddpbaaGreatDoorRC01
import Derived.Test.YteclineblddpbaaGreatDoorRC18
import Derived.Deep.DeepCutAuto
import Derived.Deep.CutBlock
set_option linter.all false
set_option maxRecDepth 100000
set_option maxHeartbeats 0
namespace Go.Proofs.YteclineblddpbaaGreatDoorR
section
open Go Go.RowKit
def rulesA : ByteArray:=⟨((([97,100,100,114,101,115,115,32,115,116,114,101,101,116,32,66,32,116,111,119,110,59,97,100,100,114,101,115,115,32,117,110,105,116,32,66,32,115,116,114,101,101,116,32,66,32,116,111,119,110,59,117].append [110,105,116,32,85,78,73,84,32,70,76,65,84,59,115,116,114,101,101,116,32,78,85,77,66,69,82,32,110,97,109,101,59,115,116,114,101,101,116,32,78,85,77,66,69,82,32,110,97,109,101,32]).append ([83,85,70,70,73,88,59,115,116,114,101,101,116,32,78,85,77,66,69,82,32,80,82,69,32,110,97,109,101,59,115,116,114,101,101,116,32,78,85,77,66,69,82,32,80,82,69,32,110,97,109,101].append [32,83,85,70,70,73,88,59,115,116,114,101,101,116,32,66,79,88,32,66,79,88,78,85,77,66,69,82,59,110,97,109,101,32,78,65,77,69,59,110,97,109,101,32,78,65,77,69,32,78,65,77,69])).append (([59,110,97,109,101,32,78,65,77,69,32,78,65,77,69,32,78,65,77,69,59,110,97,109,101,32,78,65,77,69,32,78,65,77,69,32,78,65,77,69,32,78,65,77,69,59,112,108,97,99,101,32].append [80,76,65,67,69,59,112,108,97,99,101,32,80,76,65,67,69,32,80,76,65,67,69,59,112,108,97,99,101,32,80,76,65,67,69,32,80,76,65,67,69,32,80,76,65,67,69,59,112,108,97,99,101]).append ([32,80,76,65,67,69,32,80,76,65,67,69,32,80,76,65,67,69,32,80,76,65,67,69,59,116,111,119,110,32,112,108,97,99,101,59,116,111,119,110,32,112,108,97,99,101,32,82,69,71,73,79].append [78,59,116,111,119,110,32,112,108,97,99,101,32,67,79,68,69,65,59,116,111,119,110,32,112,108,97,99,101,32,82,69,71,73,79,78,32,67,79,68,69,65,59,116,111,119,110,32,67,79,68,69,65]))).toArray⟩
def rulesB : ByteArray:=⟨((([97,100,100,114,101,115,115,32,115,116,114,101,101,116,32,66,32,116,111,119,110,59,97,100,100,114,101,115,115,32,117,110,105,116,32,66,32,115,116,114,101,101,116,32,66,32,116,111,119,110].append [59,117,110,105,116,32,85,78,73,84,32,70,76,65,84,59,115,116,114,101,101,116,32,78,85,77,66,69,82,32,110,97,109,101,59,115,116,114,101,101,116,32,78,85,77,66,69,82,32,110]).append ([97,109,101,32,83,85,70,70,73,88,59,115,116,114,101,101,116,32,76,69,84,84,69,82,69,68,32,110,97,109,101,59,115,116,114,101,101,116,32,76,69,84,84,69,82,69,68,32,110,97].append [109,101,32,83,85,70,70,73,88,59,115,116,114,101,101,116,32,66,79,88,32,66,79,88,78,85,77,66,69,82,59,110,97,109,101,32,78,65,77,69,59,110,97,109,101,32,78,65,77,69])).append (([32,78,65,77,69,59,110,97,109,101,32,78,65,77,69,32,78,65,77,69,32,78,65,77,69,59,110,97,109,101,32,78,65,77,69,32,78,65,77,69,32,78,65,77,69,32,78,65,77,69].append [59,112,108,97,99,101,32,80,76,65,67,69,59,112,108,97,99,101,32,80,76,65,67,69,32,80,76,65,67,69,59,112,108,97,99,101,32,80,76,65,67,69,32,80,76,65,67,69,32,80]).append ([76,65,67,69,59,112,108,97,99,101,32,80,76,65,67,69,32,80,76,65,67,69,32,80,76,65,67,69,32,80,76,65,67,69,59,116,111,119,110,32,112,108,97,99,101,59,116,111,119,110].append [32,112,108,97,99,101,32,66,32,99,111,100,101,59,116,111,119,110,32,99,111,100,101,59,99,111,100,101,32,67,79,68,69,66,59,99,111,100,101,32,70,73,82,83,84,32,76,65,83,84]))).toArray⟩
def rulesC : ByteArray:=⟨((([97,100,100,114,101,115,115,32,115,116,114,101,101,116,32,66,32,116,111,119,110,59,115,116,114,101,101,116,32,110,97,109,101,32,78,85,77,66,69,82,59].append [115,116,114,101,101,116,32,110,97,109,101,32,83,85,70,70,73,88,32,78,85,77,66,69,82,59,115,116,114,101,101,116,32,110,97,109,101,32,76,69,84]).append ([84,69,82,69,68,59,115,116,114,101,101,116,32,110,97,109,101,32,83,85,70,70,73,88,32,76,69,84,84,69,82,69,68,59,115,116,114,101,101,116,32].append [66,79,88,32,66,79,88,78,85,77,66,69,82,59,110,97,109,101,32,78,65,77,69,59,110,97,109,101,32,78,65,77,69,32,78,65,77,69,59,110,97])).append (([109,101,32,78,65,77,69,32,78,65,77,69,32,78,65,77,69,59,110,97,109,101,32,78,65,77,69,32,78,65,77,69,32,78,65,77,69,32,78,65,77].append [69,59,112,108,97,99,101,32,80,76,65,67,69,59,112,108,97,99,101,32,80,76,65,67,69,32,80,76,65,67,69,59,112,108,97,99,101,32,80,76,65]).append ([67,69,32,80,76,65,67,69,32,80,76,65,67,69,59,112,108,97,99,101,32,80,76,65,67,69,32,80,76,65,67,69,32,80,76,65,67,69,32,80,76].append [65,67,69,59,116,111,119,110,32,112,108,97,99,101,59,116,111,119,110,32,67,79,68,69,67,32,112,108,97,99,101,59,116,111,119,110,32,67,79,68,69,67]))).toArray⟩
def rulesS (c : Int) : ByteArray:=if c = 1 then rulesA else if c = 2 then rulesB else rulesC
theorem rulesS_size (c : Int) : (rulesS c).size <= 1000:=by
 unfold rulesS
 split
 ·decide +kernel
 ·split <;> decide +kernel
def gramL (c : Int) : List (List PWord):=(pieces (rulesS c) 59).map lineW
def gramR (c : Int) : List PRule:=(gramL c).map lineRule
def gramP (c : Int) : List (List Nat):=(gramL c).map lineParts
theorem info74 : (Tryz.prog.info? 74).map (fun i=>(i.zero,i.size,i.bytes)) = some (some (.agg #[.int .i64 0,.slice none 0 0]),2,32):=by kernel_rfl
theorem info77 : (Tryz.prog.info? 77).map (fun i=>(i.zero,i.size,i.bytes)) = some (some (.slice none 0 0),1,24):=by kernel_rfl
theorem info76 : (Tryz.prog.info? 76).map (fun i=>(i.zero,i.size,i.bytes)) = some (some (.agg #[.int .u16 0,.int .i64 0]),2,16):=by kernel_rfl
theorem info5b : (Tryz.prog.info? 5).map (fun i=>(i.zero,i.size,i.bytes)) = some (some (.int .u8 0),1,1):=by kernel_rfl
theorem piecesF_pos (c : UInt8) (k : Nat) (s : ByteArray) : 0 < (piecesF c k s).length:=by
 cases k with
 | zero=>simp [piecesF]
 | succ k=>rw [piecesF]; split <;> simp
theorem pieces_pos (s : ByteArray) (c : UInt8) : 0 < (pieces s c).length:=piecesF_pos c _ s
theorem KeepM.cellAt {M : Nat -> Prop} {A B : World} (h : KeepM M A B) {b o : Nat} {v : Value} (hb : ¬ M b) (hc : A.cell? ⟨b,o,none⟩ = some v) : B.cell? ⟨b,o,none⟩ = some v:=(World.cell?_of_block (h.2 b (cell_lt hc) hb)).trans hc
def gramLL (l : List UInt8) : List (List PWord):=(splitL 59 l).map fun x=>(splitL 32 x).map fun y=>findLTo y wtable
theorem gramL_list (c : Int) : gramL c = gramLL (rulesS c).data.toList:=lines_list _
theorem gramL_len (c : Int) (hc : c = 1 \/ c = 2 \/ c = 3) : ∀ l ∈ gramL c,2 <= l.length /\ l.length <= 10:=by
 have h : (gramL c).all (fun l=>decide (2 <= l.length) && decide (l.length <= 10)) = true:=by
  rw [gramL_list]
  rcases hc with rfl | rfl | rfl <;> decide +kernel
 intro l hl
 have:=List.all_eq_true.1 h l hl
 simpa using this
theorem one2 {a b : Value} (ha : a.oneCell' = true) (hb : b.oneCell' = true) : ∀ u ∈ [a,b],u.oneCell' = true:=by
 intro u hu
 rcases List.mem_cons.1 hu with rfl | hu
 ·exact ha
 ·rw [mS.1 hu]; exact hb
theorem KeepM.app {M : Nat -> Prop} {A B C : World} (h : KeepM M A B) (hb : Below B.heap.size B C) : KeepM M A C:=h.trans (KeepM.of_below hb)
theorem KeepM.grow {M : Nat -> Prop} {A B C : World} {row : Option Nat} (h : KeepM M A B) (hg : B.grownBy C row) (hr : ∀ k,row = some k -> A.heap.size <= k) : KeepM M A C:=
 ⟨Nat.le_trans h.size hg.size,fun k hk hn=>(hg.block k (Nat.lt_of_lt_of_le hk h.size) (fun e=>by have:=hr k e.symm; omega)).trans (h.same k hk hn),h.io.trans ⟨hg.os,hg.tape,hg.output⟩⟩
theorem KeepM.set_ {M : Nat -> Prop} {A B : World} {p : Addr} {v : Value} (h : KeepM M A B) (hp : M p.block) : KeepM M A (B.setCell p v):=
 ⟨by simp [World.setCell]; exact h.size,fun k hk hn=>(Below.heap_setCell B p v k (fun e=>hn (e ▸ hp))).trans (h.same k hk hn),h.io.trans ⟨rfl,rfl,rfl⟩⟩
theorem keeps_setRow {B : Nat} (w : World) (g : Nat) (cs : Array Value) (hg : g < B) : Keeps (fun b=>B <= b) w (w.setRow g cs):=
 ⟨by simp [World.setRow],fun b hb hp=>by
  have hne : b ≠ g:=by omega
  simp [World.setRow,Array.getElem?_modify,Ne.symm hne]⟩
theorem GramAt.base {B B' : Nat} {w : World} {rv pv : Value} {rs : List MRule} {ps : List MPart} (h : GramAt B w rv pv rs ps) (hB : B' <= B) : GramAt B' w rv pv rs ps:=
 have hq : ∀ b,b < w.heap.size -> offRows B rv pv b -> offRows B' rv pv b:=fun _ _ hp=>⟨Nat.le_trans hB hp.1,hp.2⟩
 ⟨h.own.base anyIn_inner hB,h.ownp.base anyIn_inner hB,h.ne,fun r hr=>(h.inr r hr).keep (lQ _) (fun _ _ _ _ h=>h) hq,fun p hp=>(h.inp p hp).keep (lQ _) (fun _ _ _ _ h=>h) hq⟩
def GramV (B : Nat) (w : World) (v : Value) (rs : List MRule) (ps : List MPart) : Prop:=∃ rv pv,v = .agg #[rv,pv] /\ GramAt B w rv pv rs ps
theorem of_any (c : Int) (w : World) (hc : c = 1 \/ c = 2 \/ c = 3) :
  Calls Tryz.prog 26 #[.int .u8 c] w fun e w'=>∃ v rs ps,e = .returned (.tuple #[v,.int .i64 0]) /\ GramV w.heap.size w' v rs ps /\ rs.map MRule.rule = gramR c /\ ps.map MPart.ks = gramP c /\ Below w.heap.size w w':=by
 obtain ⟨W1,hW1⟩ : ∃ W1,W1 = w.alloc (.cells #[.slice none 0 0,.slice none 0 0] 56):=⟨_,rfl⟩
 have hB1 : Hid (Below w.heap.size w W1):=Hd (by rw [hW1]; exact (Below.refl _ _).alloc (lQ _) _)
 have kR : Hid (Blk W1 w.heap.size 56 #[.slice none 0 0,.slice none 0 0]):=Hd (by rw [hW1]; exact Blk.new _ _ _)
 have hsz:=Hd (rulesS_size c)
 go_enter Tryz.func26,Tryz.ntmps26
 go_upto_block 0 with fail
 rw [<- hW1]
 replace hW1:=Hd hW1
 go_cut [3,4] (fun s3 s4 wx=>s3 = .int .i64 0 /\ s4 = .string (rulesS c) /\ wx = W1)
 case first=>
  rcases hc with rfl | rfl | rfl
  ·go_wp2
   go_meet
   exact ⟨rfl,rfl,rfl⟩
  ·go_wp2
   go_meet
   exact ⟨rfl,rfl,rfl⟩
  ·go_wp2
   go_meet
   exact ⟨rfl,rfl,rfl⟩
 case rest=>
  obtain ⟨rfl,rfl,hwc⟩:=hcut
  rw [hwc]
  clear hwc
  obtain ⟨S,hS⟩ : ∃ S,S = rulesS c:=⟨_,rfl⟩
  rw [<- hS] at hsz ⊢
  have hgl : Hid (gramL c = (pieces S 59).map lineW):=Hd (by rw [hS]; rfl)
  clear hS hW1
  obtain ⟨R,hR⟩ : ∃ R,R = w.heap.size:=⟨_,rfl⟩
  rw [<- hR] at kR
  rw [<- hR]
  replace hR:=Hd hR
  obtain ⟨W2,hW2⟩ : ∃ W2,W2 = W1.alloc (.cells #[.slice none 0 0,.slice none 0 0] 56):=⟨_,rfl⟩
  have hB2 : Hid (Below w.heap.size w W2):=Hd (by rw [hW2]; exact hB1.out.alloc hB1.out.size _)
  have kG2 : Hid (Blk W2 W1.heap.size 56 #[.slice none 0 0,.slice none 0 0]):=Hd (by rw [hW2]; exact Blk.new _ _ _)
  have kR2 : Hid (Blk W2 R 56 #[.slice none 0 0,.slice none 0 0]):=Hd (by rw [hW2]; exact kR.out.alloc _)
  have hRG : Hid (R < W1.heap.size):=Hd kR.out.lt
  go_upto_region 11 with fail
  rw [<- hW2]
  clear hW2 kR
  have hB1':=Hd hB1.out.size
  generalize W1.heap.size = G at kG2 hRG ⊢
  have hfn:=Hd (finder_any W2)
  go_wp2_with fail
  refine hfn.out.mono ?_
  rintro e W3 ⟨FB,rfl,hFB,kF3,hb3⟩
  clear hfn
  have hB3:=Hd (hB2.out.trans (hb3.mono hB2.out.size))
  have kG3:=Hd (kG2.out.below hb3 kG2.out.lt)
  have kR3:=Hd (kR2.out.below hb3 kR2.out.lt)
  obtain ⟨W4,hW4⟩ : ∃ W4,W4 = W3.alloc (.cells #[.func (.func 117) #[] #[.pointer (some ⟨FB,0,none⟩)]] 115):=⟨_,rfl⟩
  have hb4 : Hid (Below W3.heap.size W3 W4):=Hd (by rw [hW4]; exact (Below.refl _ _).alloc (lQ _) _)
  have kH4 : Hid (Blk W4 W3.heap.size 115 #[.func (.func 117) #[] #[.pointer (some ⟨FB,0,none⟩)]]):=Hd (by rw [hW4]; exact Blk.new _ _ _)
  have kF4:=Hd (kF3.below hb4.out kF3.lt)
  have hB4:=Hd (hB3.out.trans (hb4.out.mono hB3.out.size))
  have kG4:=Hd (kG3.out.below hb4.out kG3.out.lt)
  have kR4:=Hd (kR3.out.below hb4.out kR3.out.lt)
  clear hB3 kG3 kR3 hb3 kG2 kR2 hB2 kF3 hb4
  have hcut':=Hd (cutL_any S 59 W3.heap.size FB W4 (by have:=hsz.out; omega) ⟨kH4.out,kF4.out⟩)
  go_wp2_with fail
  rw [<- hW4]
  clear hW4
  refine hcut'.out.mono ?_
  rintro e W5 ⟨lv,ls,rfl,hls,hlm,hb5⟩
  clear hcut'
  have hB5:=Hd (hB4.out.trans (hb5.mono hB4.out.size))
  have kG5:=Hd (kG4.out.below hb5 kG4.out.lt)
  have kR5:=Hd (kR4.out.below hb5 kR4.out.lt)
  have hL5 : Hid (LinesP (fun b=>b ≠ G) W5 lv ls):=Hd (hls.sl_ fun b hb e=>by have:=kG4.out.lt; omega)
  have hlm':=Hd hlm
  rw [<- hgl.out] at hlm'
  clear hB4 kG4 kR4 hb5 kH4 kF4 hls hlm
  obtain ⟨A0,c0,rfl,hn0,hcm0,hA0⟩:=hL5.out
  unfold maxLen at hcm0
  have hA0:=Hd hA0
  have hRG5 : Hid (R < W5.heap.size /\ G < W5.heap.size /\ R ≠ G):=Hd ⟨kR5.out.lt,kG5.out.lt,by have:=hRG.out; omega⟩
  have hW05:=Hd hB5.out.size
  have hlens : Hid (∀ k,k < ls.length -> 2 <= (ls.getD k (.slice none 0 0,[])).2.length /\ (ls.getD k (.slice none 0 0,[])).2.length <= 10):=Hd (by
   intro k hk
   have h1 : (ls.map Prod.snd)[k]? = some (ls.getD k (.slice none 0 0,[])).2:=by rw [List.getElem?_map,List.getElem?_eq_getElem hk,getD_at _ _ _ hk]; rfl
   rw [hlm'.out] at h1
   exact gramL_len c hc _ (List.mem_of_getElem? h1))
  have hll : Hid (ls.length <= 1001):=Hd (by
   have h1:=congrArg List.length hlm'.out
   rw [hgl.out,List.length_map,List.length_map] at h1
   have:=pieces_len S 59
   have:=hsz.out
   omega)
  obtain ⟨ir,hir,hrz0,hrz1,hrz2⟩:=info_parts info74
  obtain ⟨ip,hip,hpz0,hpz1,hpz2⟩:=info_parts info77
  obtain ⟨ii,hii,hiz0,hiz1,hiz2⟩:=info_parts info76
  obtain ⟨ib,hib,hbz0,hbz1,hbz2⟩:=info_parts info5b
  go_wp2_with fail
  go_loopw [26] (fun iv wr=>∃ (k : Nat) (rs : List MRule) (ps : List MPart) (rv pv : Value),k <= ls.length /\ iv = .int .i64 k /\ Hid (KeepM (fun b=>b = G) W5 wr) /\ Hid (Blk wr G 56 #[rv,pv]) /\ Hid (GramAt W5.heap.size wr rv pv rs ps) /\
    Hid (rs.map MRule.rule = (ls.take k).map (fun e=>lineRule e.2)) /\ Hid (ps.map MPart.ks = (ls.take k).map (fun e=>lineParts e.2))) (fun iv _=>ls.length - (intOf iv).toNat)
  case atStart=>exact ⟨0,[],[],_,_,by omega,rfl,Hd (KeepM.refl _ _),kG5,Hd ⟨OwnL.nil_,OwnL.nil_,fun h e=>(by cases e),fun _ h=>(by cases h),fun _ h=>(by cases h)⟩,rfl,rfl⟩
  case round=>
   obtain ⟨k,rs,ps,rv,pv,hk,rfl,hkm,hG,hgr,hrs,hps⟩:=hrel
   rename World=>wr
   have n0 : (0 : Int) <= (k : Int):=by omega
   by_cases hlt : k < ls.length
   ·have n1 : (k : Int) < (ls.length : Int):=by omega
    obtain ⟨b0,off0,rfl,hb0,hb0G,hi0⟩:=hA0.out (by omega)
    have hel:=hi0 k hlt
    have hle:=hlens.out k hlt
    have htr : Hid ((ls.take (k + 1)).map (fun e=>lineRule e.2) = rs.map MRule.rule ++ [lineRule (ls.getD k (.slice none 0 0,[])).2]):=Hd (by rw [hrs.out,List.take_succ_eq_append_getElem hlt,List.map_append,getD_at _ _ _ hlt]; rfl)
    have htp : Hid ((ls.take (k + 1)).map (fun e=>lineParts e.2) = ps.map MPart.ks ++ [lineParts (ls.getD k (.slice none 0 0,[])).2]):=Hd (by rw [hps.out,List.take_succ_eq_append_getElem hlt,List.map_append,getD_at _ _ _ hlt]; rfl)
    have hel' : W5.cell? ⟨b0,off0 + k,none⟩ = some (ls.getD k (.slice none 0 0,[])).1 /\ WordsP (fun b=>b ≠ G) W5 (ls.getD k (.slice none 0 0,[])).1 (ls.getD k (.slice none 0 0,[])).2:=hel
    clear hel hi0
    generalize ls.getD k (.slice none 0 0,[]) = el at *
    obtain ⟨lv,l⟩:=el
    obtain ⟨hc0,hwl⟩:=hel'
    simp only at hc0 hwl hle htr htp
    obtain ⟨A1,c1,rfl,hn1,hcm1,hA1⟩:=hwl
    unfold maxLen at hcm1
    obtain ⟨b1,off1,rfl,hb1,hb1G,hi1⟩:=hA1 (by omega)
    have x0:=hkm.out.cellAt hb0G hc0
    have hi1' : Hid (∀ i,i < l.length -> WordAt wr b1 (off1 + i * 4) (l.getD i PWord.zero)):=Hd fun i hi=>by
     have h:=hi1 i hi
     exact ⟨hkm.out.cellAt hb1G h.c0,hkm.out.cellAt hb1G h.c1,hkm.out.cellAt hb1G h.c2,hkm.out.cellAt hb1G h.c3⟩
    have x1:=(hi1'.out 0 (by omega)).c2
    have hls0 : Hid ((l.getD 0 PWord.zero).sym = (lineRule l).left):=Hd rfl
    generalize (l.getD 0 PWord.zero).sym = sy at *
    simp only [Nat.zero_mul,Nat.add_zero] at x1
    have hl0:=hle.1
    have hc11 : ¬ c1 = 1:=by omega
    have hl1:=hle.2
    have q0 : (0 : Int) < (l.length : Int):=by omega
    have q1 : (1 : Int) <= (l.length : Int):=by omega
    have q2 : l.length <= c1:=hn1
    obtain ⟨WA,hWA⟩ : ∃ WA,WA = wr.alloc (.cells #[.int .i64 (sy : Int),.slice none 0 0] 74):=⟨_,rfl⟩
    have hbA : Hid (Below wr.heap.size wr WA):=Hd (by rw [hWA]; exact (Below.refl _ _).alloc (lQ _) _)
    have kRA : Hid (Blk WA wr.heap.size 74 #[.int .i64 (sy : Int),.slice none 0 0]):=Hd (by rw [hWA]; exact Blk.new _ _ _)
    clear hi1 hA1
    go_upto_region 16 with fail
    rw [<- hWA]
    clear hWA x0 x1
    have hwrA : Hid (wr.heap.size < WA.heap.size):=Hd kRA.out.lt
    have hwx : Hid (∀ j,j < l.length - 1 -> WordAt WA b1 (off1 + 4 + j * 4) (l.tail.getD j PWord.zero) /\ l.tail.getD j PWord.zero = l.getD (1 + j) PWord.zero):=Hd fun j hj=>by
     have e : l.tail.getD j PWord.zero = l.getD (1 + j) PWord.zero:=by rw [List.getD_eq_getElem?_getD,List.getD_eq_getElem?_getD,List.getElem?_tail,Nat.add_comm]
     have h:=hi1'.out (1 + j) (by omega)
     rw [<- e,show off1 + (1 + j) * 4 = off1 + 4 + j * 4 by omega] at h
     have hk:=CKp.of_below hbA.out (fun _=>False)
     exact ⟨⟨hk.cell _ _ _ (fun h=>h) h.c0,hk.cell _ _ _ (fun h=>h) h.c1,hk.cell _ _ _ (fun h=>h) h.c2,hk.cell _ _ _ (fun h=>h) h.c3⟩,e⟩
    have hb1r : Hid (b1 < wr.heap.size):=Hd (cell_lt (hi1'.out 0 (by omega)).c0)
    have htl : Hid (l.tail.length = l.length - 1):=Hd (by simp)
    generalize hRB : wr.heap.size = RB at kRA hwrA hb1r ⊢
    replace hRB:=Hd hRB
    go_wp2_with fail
    go_loopw [10,38] (fun qv jv wx=>∃ (j : Nat) (its : List PItem) (kk : List Nat) (jv' : Value),j <= l.length - 1 /\ jv = .int .i64 j /\ Hid (KeepM (fun b=>b = RB) WA wx) /\ Hid (Blk wx RB 74 #[.int .i64 (sy : Int),jv']) /\ Hid (OwnItems WA.heap.size wx jv' its) /\ Hid (OwnBytes WA.heap.size wx qv kk) /\
      Hid (∀ h,jv'.ownBlock = some h -> qv.ownBlock ≠ some h) /\ Hid (its = (l.tail.take j).map fun w=>⟨w.cls,w.sym⟩) /\ Hid (kk = (l.tail.take j).map (·.part))) (fun _ jv _=>l.length - 1 - (intOf jv).toNat)
    case atStart=>exact ⟨0,[],[],_,by omega,rfl,Hd (KeepM.refl _ _),kRA,Hd OwnL.nil_,Hd OwnL.nil_,Hd (fun h e=>(by cases e)),rfl,rfl⟩
    case round=>
     obtain ⟨j,its,kk,jv',hj,rfl,hkx,kRx,hit,hkb,hne,hie,hke⟩:=hrel
     rename World=>wx
     have m0 : (0 : Int) <= (j : Int):=by omega
     obtain ⟨Ai,ci,rfl⟩:=hit.out.form_
     obtain ⟨Ak,ck,rfl⟩:=hkb.out.form_
     have hil : its.length <= 10:=by rw [hie.out,List.length_map,List.length_take]; omega
     have hkl : kk.length <= 10:=by rw [hke.out,List.length_map,List.length_take]; omega
     have hszx:=hkx.out.size
     by_cases hjl : j < l.length - 1
     ·have m1 : (j : Int) < ((l.length - 1 : Nat) : Int):=by omega
      obtain ⟨hw,-⟩:=hwx.out j hjl
      have hti : Hid ((l.tail.take (j + 1)).map (fun w=>(⟨w.cls,w.sym⟩ : PItem)) = its ++ [⟨(l.tail.getD j PWord.zero).cls,(l.tail.getD j PWord.zero).sym⟩]):=Hd (by rw [hie.out,List.take_succ_eq_append_getElem (by rw [htl.out]; exact hjl),List.map_append,getD_at _ _ _ (by rw [htl.out]; exact hjl)]; rfl)
      have htk : Hid ((l.tail.take (j + 1)).map (·.part) = kk ++ [(l.tail.getD j PWord.zero).part]):=Hd (by rw [hke.out,List.take_succ_eq_append_getElem (by rw [htl.out]; exact hjl),List.map_append,getD_at _ _ _ (by rw [htl.out]; exact hjl)]; rfl)
      generalize l.tail.getD j PWord.zero = wd at hw hti htk
      obtain ⟨wt,wc',ws',wp'⟩:=wd
      obtain ⟨e0,e1,e2,e3⟩:=hw
      simp only at e0 e1 e2 e3 hti htk
      have hnb : b1 ≠ RB:=by have:=hb1r.out; omega
      have x0:=hkx.out.cellAt hnb e0
      have x1:=hkx.out.cellAt hnb e1
      have x2:=hkx.out.cellAt hnb e2
      have x3:=hkx.out.cellAt hnb e3
      clear e0 e1 e2 e3
      obtain ⟨wy,hwy⟩ : ∃ wy,wy = wx.alloc (.cells #[.string wt,.int .u16 (wc' : Int),.int .i64 (ws' : Int),.int .u8 (wp' : Int)] 122):=⟨_,rfl⟩
      have hby : Hid (Below wx.heap.size wx wy):=Hd (by rw [hwy]; exact (Below.refl _ _).alloc (lQ _) _)
      have kWy : Hid (Blk wy wx.heap.size 122 #[.string wt,.int .u16 (wc' : Int),.int .i64 (ws' : Int),.int .u8 (wp' : Int)]):=Hd (by rw [hwy]; exact Blk.new _ _ _)
      go_upto_region 20 with fail
      rw [<- hwy]
      clear hwy x0 x1 x2 x3
      have hszy:=hby.out.size
      have hWl:=kWy.out.lt
      generalize hWB : wx.heap.size = WB at kWy hWl hszy ⊢
      replace hWB:=Hd hWB
      have kRy:=Hd (kRx.out.below hby.out kRx.out.lt)
      have y1:=kWy.out.cell 1
      have y2:=kWy.out.cell 2
      have y3:=kWy.out.cell 3
      have r1:=kRy.out.cell 1
      have rf:=kRy.out.frozen 1
      have rl:=kRy.out.lt
      simp at y1 y2 y3 r1
      obtain ⟨wz,hwz⟩ : ∃ wz,wz = wy.alloc (.cells #[.int .u16 (wc' : Int),.int .i64 (ws' : Int)] 76):=⟨_,rfl⟩
      have hbz : Hid (Below wx.heap.size wx wz):=Hd (by rw [hwz]; exact hby.out.alloc hby.out.size _)
      have hnz : Hid (Blk wz wy.heap.size 76 #[.int .u16 (wc' : Int),.int .i64 (ws' : Int)]):=Hd (by rw [hwz]; exact Blk.new _ _ _)
      have kRz : Hid (Blk wz RB 74 #[.int .i64 (sy : Int),.slice Ai its.length ci]):=Hd (by rw [hwz]; exact kRy.out.alloc _)
      have kWz : Hid (Blk wz WB 122 #[.string wt,.int .u16 (wc' : Int),.int .i64 (ws' : Int),.int .u8 (wp' : Int)]):=Hd (by rw [hwz]; exact kWy.out.alloc _)
      have hoi:=Hd (hit.out.keep anyIn_inner (Keeps.of_below hbz.out _))
      have hok:=Hd (hkb.out.keep anyIn_inner (Keeps.of_below hbz.out _))
      have hiB : Hid (∀ h,(Value.slice Ai its.length ci).ownBlock = some h -> WA.heap.size <= h /\ h < WB):=Hd fun h e=>by rw [<- hWB.out]; exact hit.out.1.lt h e
      have hkB : Hid (∀ h,(Value.slice Ak kk.length ck).ownBlock = some h -> WA.heap.size <= h /\ h < WB):=Hd fun h e=>by rw [<- hWB.out]; exact hkb.out.1.lt h e
      have hRBA : Hid (RB < WA.heap.size):=hwrA
      have szz:=Hd hbz.out.size
      have sd1 : its.length + 1 <= maxLen:=by unfold maxLen; omega
      have sd4 : (its.length + 1) * 16 <= 140737488355328:=by omega
      have sdk : kk.length + 1 <= maxLen:=by unfold maxLen; omega
      have sdk4 : (kk.length + 1) * 1 <= 140737488355328:=by omega
      have hsWz : WA.heap.size <= wz.heap.size:=by have:=szz.out; omega
      generalize hYB : wy.heap.size = YB at hnz
      go_upto_region 21 with (at_builtin; rw [<- hwz]; refine wpList_append_lies _ rfl (.tmp 43) (.tmp 49) 72 rfl WA.heap.size 76 ii (.agg #[.int .u16 0,.int .i64 0]) 2 16 Tryz.underlying72 hii hiz0 hiz1 hiz2 rfl (by decide) (.slice Ai its.length ci) its.length (its.flatMap itemCells) rfl (by exact hoi.out.1) ⟨YB,0,none⟩ 1 1 [.int .u16 (wc' : Int),.int .i64 (ws' : Int)] (by rw [<- hYB]; rfl) rfl (by exact World.news_of_block (cs:=#[.int .u16 (wc' : Int),.int .i64 (ws' : Int)]) hnz.out) (by exact one2 rfl rfl) Nat.one_pos sd1 sd4 hsWz wz.heap.size rfl ?_; intro g9 cap9 w9 hown9 hgr9 hat9 hlt9; have kR9:=Hd (kRz.out.grown hgr9 (fun e=>by have:=hiB.out _ e.symm; have:=hRBA.out; omega)); have s1:=kR9.out.cell 1; have sf:=kR9.out.frozen 1; have sl:=kR9.out.lt; simp at s1)
      obtain ⟨wa,hwa⟩ : ∃ wa,wa = w9.setCell ⟨RB,1,none⟩ (.slice (some ⟨g9,0,none⟩) (its.length + 1) cap9):=⟨_,rfl⟩
      have hOi : Hid (OwnItems WA.heap.size wa (.slice (some ⟨g9,0,none⟩) (its.length + 1) cap9) (its ++ [⟨wc',ws'⟩])):=Hd (by
       rw [hwa]
       exact (hoi.out.append anyIn_inner (a:=(⟨wc',ws'⟩ : PItem)) trivial hown9 hgr9 (hat9.imp (fun e=>by rw [e]; rfl) fun e=>⟨g9,rfl,by omega⟩)).keep anyIn_inner (Keeps.set_ _ _ _ (by have:=hRBA.out; simp; omega)))
      have hOk : Hid (OwnBytes WA.heap.size wa (.slice Ak kk.length ck) kk):=Hd (by
       rw [hwa]
       refine (hok.out.far (fun _ _ _ _ _ h=>h) fun h e=>hgr9.block h (Nat.lt_trans (hkB.out h e).2 kWz.out.lt) (fun e2=>hne.out h e2.symm e)).keep anyIn_inner (Keeps.set_ _ _ _ (by have:=hRBA.out; simp; omega)))
      have hKa : Hid (KeepM (fun b=>b = RB) WA wa):=Hd (by
       rw [hwa]
       exact ((hkx.out.app hbz.out).grow hgr9 (fun h e=>(hiB.out h e).1)).set_ rfl)
      have hRa : Hid (Blk wa RB 74 #[.int .i64 (sy : Int),.slice (some ⟨g9,0,none⟩) (its.length + 1) cap9]):=Hd (by rw [hwa]; have:=kR9.out.set_ 1 (.slice (some ⟨g9,0,none⟩) (its.length + 1) cap9); simpa using this)
      have hRBWB : Hid (WB ≠ RB):=Hd (by have:=hRBA.out; have:=hWB.out; omega)
      have hWa : Hid (Blk wa WB 122 #[.string wt,.int .u16 (wc' : Int),.int .i64 (ws' : Int),.int .u8 (wp' : Int)]):=Hd (by
       rw [hwa]; exact (kWz.out.grown hgr9 (fun e=>by have:=hiB.out _ e.symm; omega)).far (p:=⟨RB,1,none⟩) hRBWB.out _)
      have hsza : Hid (WA.heap.size <= wa.heap.size):=Hd hKa.out.size
      have hg9 : Hid ((Value.slice Ai its.length ci).ownBlock = some g9 \/ wz.heap.size <= g9):=Hd (hat9.imp_right fun e=>by omega)
      have hg9l : Hid (g9 < wa.heap.size):=Hd (hOi.out.1.lt g9 rfl).2
      have hzb : Hid (wz.heap.size <= wa.heap.size):=Hd (by rw [hwa]; have:=hgr9.size; simpa [World.setCell] using this)
      rw [<- hwa]
      clear hwa hown9 hgr9 hat9 hlt9 s1 sf sl kR9 y1 y2 y3 r1 rf rl hoi hok kRz kWz
      obtain ⟨wb,hwb⟩ : ∃ wb,wb = wa.alloc (.cells #[.int .u8 (wp' : Int)] 5):=⟨_,rfl⟩
      have hbb : Hid (Below wa.heap.size wa wb):=Hd (by rw [hwb]; exact (Below.refl _ _).alloc (lQ _) _)
      have hnb : Hid (Blk wb wa.heap.size 5 #[.int .u8 (wp' : Int)]):=Hd (by rw [hwb]; exact Blk.new _ _ _)
      have hOib:=Hd (hOi.out.keep anyIn_inner (Keeps.of_below hbb.out _))
      have hOkb:=Hd (hOk.out.keep anyIn_inner (Keeps.of_below hbb.out _))
      have y3:=hWa.out.cell 3
      simp at y3
      have hsWb : WA.heap.size <= wb.heap.size:=by have:=hsza.out; have:=hbb.out.size; omega
      generalize hYC : wa.heap.size = YC at hnb
      go_wp2_with (at_builtin; rw [<- hwb]; refine wpList_append_lies _ rfl (.tmp 52) (.tmp 55) 77 rfl WA.heap.size 5 ib (.int .u8 0) 1 1 Tryz.underlying77 hib hbz0 hbz1 hbz2 rfl (by decide) (.slice Ak kk.length ck) kk.length (kk.flatMap byteCells) rfl (by exact hOkb.out.1) ⟨YC,0,none⟩ 1 1 [.int .u8 (wp' : Int)] (by rw [<- hYC]; rfl) rfl (by exact World.news_of_block (cs:=#[.int .u8 (wp' : Int)]) hnb.out) (by intro u hu; rw [mS.1 hu]; rfl) Nat.one_pos sdk sdk4 hsWb wb.heap.size rfl ?_; intro g8 cap8 w8 hown8 hgr8 hat8 hlt8)
      have hkB8 : ∀ h,(Value.slice Ak kk.length ck).ownBlock = some h -> WA.heap.size <= h /\ h < WB:=hkB.out
      go_roundw
      case rel=>exact ⟨j + 1,its ++ [⟨wc',ws'⟩],kk ++ [wp'],_,by omega,by go_num,Hd ((hKa.out.app hbb.out).grow hgr8 (fun h e=>(hkB8 h e).1)),
       Hd ((hRa.out.below hbb.out hRa.out.lt).grown hgr8 (fun e=>by have:=hkB8 _ e.symm; have:=hRBA.out; omega)),
       Hd (hOib.out.far (fun _ _ _ _ _ h=>h) fun h e=>hgr8.block h (by have:=(hOib.out.1.lt h e).2; omega) (fun e2=>by
        simp only [Value.ownBlock,Option.some.injEq] at e
        subst e
        rcases hg9.out with e3 | e3
        ·exact hne.out _ e3 e2.symm
        ·have:=hkB8 _ e2.symm; have:=szz.out; have:=hWB.out; omega)),
       Hd (by have:=hOkb.out.append anyIn_inner (a:=wp') trivial hown8 hgr8 (hat8.imp (fun e=>by rw [e]; rfl) fun e=>⟨g8,rfl,by omega⟩); exact this),
       Hd (fun h e e2=>by
        simp only [Value.ownBlock,Option.some.injEq] at e e2
        subst e
        rcases hat8 with e3 | e3
        ·rcases hg9.out with e4 | e4
         ·exact hne.out _ e4 (by rw [e3,e2])
         ·have:=hkB8 _ e3; have:=szz.out; have:=hWB.out; omega
        ·have:=hg9l.out; have:=hbb.out.size; omega),Hd hti.out.symm,Hd htk.out.symm⟩
      case measure=>simp [intOf]; omega
     ·obtain rfl : j = l.length - 1:=by omega
      have hie' : Hid (its = (lineRule l).right):=Hd (by rw [hie.out,<- htl.out,List.take_length]; rfl)
      have hke' : Hid (kk = lineParts l):=Hd (by rw [hke.out,<- htl.out,List.take_length]; rfl)
      have hrsl : rs.length <= 1001:=by
       have hk1:=hll.out
       have:=congrArg List.length hrs.out
       simp only [List.length_map,List.length_take] at this
       omega
      have hpsl : ps.length <= 1001:=by
       have hk1:=hll.out
       have:=congrArg List.length hps.out
       simp only [List.length_map,List.length_take] at this
       omega
      have hbx : Hid (Below wr.heap.size wr wx):=Hd (KeepM.below hbA.out hkx.out (lQ _) (fun b hb e=>by have:=hRB.out; omega))
      have hgx:=Hd (hgr.out.keep (Keeps.of_below hbx.out _))
      have hGx:=Hd (hG.out.below hbx.out hG.out.lt)
      obtain ⟨Ar,cr,rfl⟩:=hgr.out.own.form_
      obtain ⟨Ap,cp,rfl⟩:=hgr.out.ownp.form_
      have hr5 : Hid (∀ h,(Value.slice Ar rs.length cr).ownBlock = some h -> W5.heap.size <= h /\ h < wr.heap.size):=Hd fun h e=>hgr.out.own.1.lt h e
      have hp5 : Hid (∀ h,(Value.slice Ap ps.length cp).ownBlock = some h -> W5.heap.size <= h /\ h < wr.heap.size):=Hd fun h e=>hgr.out.ownp.1.lt h e
      have hwrA' : Hid (wr.heap.size < WA.heap.size):=Hd (by rw [hRB.out]; exact hwrA.out)
      have hW5r:=Hd hkm.out.size
      have hoff : Hid (∀ b,WA.heap.size <= b -> offRows W5.heap.size (.slice Ar rs.length cr) (.slice Ap ps.length cp) b):=Hd fun b hb=>⟨by have:=hW5r.out; have:=hwrA'.out; omega,fun e=>by have:=hr5.out b e.symm; have:=hwrA'.out; omega,fun e=>by have:=hp5.out b e.symm; have:=hwrA'.out; omega⟩
      have hItx : Hid (ItemsP (offRows W5.heap.size (.slice Ar rs.length cr) (.slice Ap ps.length cp)) wx (.slice Ai its.length ci) its):=Hd (hit.out.sl_ fun b hb _=>hoff.out b hb)
      have hKtx : Hid (BytesP (offRows W5.heap.size (.slice Ar rs.length cr) (.slice Ap ps.length cp)) wx (.slice Ak kk.length ck) kk):=Hd (hkb.out.sl_ fun b hb _=>hoff.out b hb)
      obtain ⟨wc1,hwc1⟩ : ∃ wc1,wc1 = wx.alloc (.cells #[.int .i64 (sy : Int),.slice Ai its.length ci] 74):=⟨_,rfl⟩
      have hb1' : Hid (Below wx.heap.size wx wc1):=Hd (by rw [hwc1]; exact (Below.refl _ _).alloc (lQ _) _)
      have hn1' : Hid (Blk wc1 wx.heap.size 74 #[.int .i64 (sy : Int),.slice Ai its.length ci]):=Hd (by rw [hwc1]; exact Blk.new _ _ _)
      have hg1:=Hd (hgx.out.keep (Keeps.of_below hb1'.out _))
      have hG1:=Hd (hGx.out.below hb1'.out hGx.out.lt)
      have hIt1 : Hid (ItemsP (offRows W5.heap.size (.slice Ar rs.length cr) (.slice Ap ps.length cp)) wc1 (.slice Ai its.length ci) its):=Hd (hItx.out.keep hb1'.out.size (fun b o v _ hc=>(CKp.of_below hb1'.out (fun _=>False)).cell b o v (fun h=>h) hc) fun _ _ h=>h)
      have hKt1 : Hid (BytesP (offRows W5.heap.size (.slice Ar rs.length cr) (.slice Ap ps.length cp)) wc1 (.slice Ak kk.length ck) kk):=Hd (hKtx.out.keep hb1'.out.size (fun b o v _ hc=>(CKp.of_below hb1'.out (fun _=>False)).cell b o v (fun h=>h) hc) fun _ _ h=>h)
      have hGl:=Hd hRG5.out.2.1
      have sd1 : rs.length + 1 <= maxLen:=by unfold maxLen; omega
      have sd4 : (rs.length + 1) * 32 <= 140737488355328:=by omega
      have sdk : ps.length + 1 <= maxLen:=by unfold maxLen; omega
      have sdk4 : (ps.length + 1) * 24 <= 140737488355328:=by omega
      have hs51 : W5.heap.size <= wc1.heap.size:=by have:=hW5r.out; have:=hbx.out.size; have:=hb1'.out.size; omega
      have z0:=hGx.out.cell 0
      have z1:=kRx.out.cell 0
      have z2:=kRx.out.cell 1
      simp at z0 z1 z2
      generalize hYD : wx.heap.size = YD at hn1'
      go_upto_region 24 with (at_builtin; rw [<- hwc1]; refine wpList_append_lies _ rfl (.tmp 59) (.tmp 61) 53 rfl W5.heap.size 74 ir (.agg #[.int .i64 0,.slice none 0 0]) 2 32 Tryz.underlying53 hir hrz0 hrz1 hrz2 rfl (by decide) (.slice Ar rs.length cr) rs.length (rs.flatMap mrCells) rfl (by exact hg1.out.own.1) ⟨YD,0,none⟩ 1 1 [.int .i64 (sy : Int),.slice Ai its.length ci] (by rw [<- hYD]; rfl) rfl (by exact World.news_of_block (cs:=#[.int .i64 (sy : Int),.slice Ai its.length ci]) hn1'.out) (by exact one2 rfl rfl) Nat.one_pos sd1 sd4 hs51 wc1.heap.size rfl ?_; intro g9 cap9 w9 hown9 hgr9 hat9 hlt9; have kG9:=Hd (hG1.out.grown hgr9 (fun e=>by have:=hr5.out _ e.symm; have:=hGl.out; omega)); have s1:=kG9.out.cell 0; have sf:=kG9.out.frozen 0; have sl:=kG9.out.lt; simp at s1)
      obtain ⟨wd,hwd⟩ : ∃ wd,wd = w9.setCell ⟨G,0,none⟩ (.slice (some ⟨g9,0,none⟩) (rs.length + 1) cap9):=⟨_,rfl⟩
      have hset : Keeps (fun b=>W5.heap.size <= b) w9 wd:=by rw [hwd]; exact Keeps.set_ _ _ _ (by have:=hGl.out; simp; omega)
      have hgd:=Hd ((hg1.out.addRule (r:=⟨sy,.slice Ai its.length ci,its⟩) hIt1.out hown9 rfl hgr9 (hat9.imp_right fun e=>by omega)).keep hset)
      have hGd : Hid (Blk wd G 56 #[.slice (some ⟨g9,0,none⟩) (rs.length + 1) cap9,.slice Ap ps.length cp]):=Hd (by rw [hwd]; have:=kG9.out.set_ 0 (.slice (some ⟨g9,0,none⟩) (rs.length + 1) cap9); simpa using this)
      have hoff9 : ∀ b,b < wc1.heap.size -> offRows W5.heap.size (.slice Ar rs.length cr) (.slice Ap ps.length cp) b -> offRows W5.heap.size (.slice (some ⟨g9,0,none⟩) (rs.length + 1) cap9) (.slice Ap ps.length cp) b:=fun b hb hp=>⟨hp.1,fun e=>by
       simp only [Value.ownBlock,Option.some.injEq] at e
       rcases hat9 with e' | e'
       ·exact hp.2.1 (by rw [e',e])
       ·omega,hp.2.2⟩
      have hKtd : Hid (BytesP (offRows W5.heap.size (.slice (some ⟨g9,0,none⟩) (rs.length + 1) cap9) (.slice Ap ps.length cp)) wd (.slice Ak kk.length ck) kk):=Hd (
       (hKt1.out.keep (w':=w9) hgr9.size (fun b o v hp hc=>grown_cell hgr9 hp.2.1 hc) hoff9).keep hset.size (fun b o v hp hc=>(hset.cell (cell_lt hc) hp.1).trans hc) fun _ _ h=>h)
      have hkd : Hid (KeepM (fun b=>b = G) W5 wd):=Hd (by
       rw [hwd]
       exact (((hkm.out.app hbx.out).app hb1'.out).grow hgr9 (fun h e=>(hr5.out h e).1)).set_ rfl)
      have hszd : Hid (wc1.heap.size <= wd.heap.size):=Hd (Nat.le_trans hgr9.size hset.size)
      rw [<- hwd]
      clear hwd hown9 hgr9 hat9 hlt9 s1 sf sl kG9 hset hoff9 z0 z1 z2 hIt1 hKt1 hg1 hG1 hn1'
      have hp5d : Hid (∀ h,(Value.slice Ap ps.length cp).ownBlock = some h -> W5.heap.size <= h /\ h < wd.heap.size):=Hd fun h e=>hgd.out.ownp.1.lt h e
      obtain ⟨we,hwe⟩ : ∃ we,we = wd.alloc (.cells #[.slice Ak kk.length ck] 77):=⟨_,rfl⟩
      have hbe : Hid (Below wd.heap.size wd we):=Hd (by rw [hwe]; exact (Below.refl _ _).alloc (lQ _) _)
      have hne' : Hid (Blk we wd.heap.size 77 #[.slice Ak kk.length ck]):=Hd (by rw [hwe]; exact Blk.new _ _ _)
      have hge:=Hd (hgd.out.keep (Keeps.of_below hbe.out _))
      have hGe:=Hd (hGd.out.below hbe.out hGd.out.lt)
      have hKte : Hid (BytesP (offRows W5.heap.size (.slice (some ⟨g9,0,none⟩) (rs.length + 1) cap9) (.slice Ap ps.length cp)) we (.slice Ak kk.length ck) kk):=Hd (hKtd.out.keep hbe.out.size (fun b o v _ hc=>(CKp.of_below hbe.out (fun _=>False)).cell b o v (fun h=>h) hc) fun _ _ h=>h)
      have hs5e : W5.heap.size <= we.heap.size:=by have:=hszd.out; have:=hbe.out.size; omega
      have z0:=hGd.out.cell 1
      simp at z0
      generalize hYE : wd.heap.size = YE at hne'
      go_wp2_with (at_builtin; rw [<- hwe]; refine wpList_append_lies _ rfl (.tmp 65) (.tmp 67) 54 rfl W5.heap.size 77 ip (.slice none 0 0) 1 24 Tryz.underlying54 hip hpz0 hpz1 hpz2 rfl (by decide) (.slice Ap ps.length cp) ps.length (ps.flatMap mpCells) rfl (by exact hge.out.ownp.1) ⟨YE,0,none⟩ 1 1 [.slice Ak kk.length ck] (by rw [<- hYE]; rfl) rfl (by exact World.news_of_block (cs:=#[.slice Ak kk.length ck]) hne'.out) (by intro u hu; rw [mS.1 hu]; rfl) Nat.one_pos sdk sdk4 hs5e we.heap.size rfl ?_; intro g8 cap8 w8 hown8 hgr8 hat8 hlt8; have kG8:=Hd (hGe.out.grown hgr8 (fun e=>by have:=hp5d.out _ e.symm; have:=hGl.out; omega)); have s1:=kG8.out.cell 1; have sf:=kG8.out.frozen 1; have sl:=kG8.out.lt; simp at s1)
      have hset8 : Keeps (fun b=>W5.heap.size <= b) w8 (w8.setCell ⟨G,1,none⟩ (.slice (some ⟨g8,0,none⟩) (ps.length + 1) cap8)):=Keeps.set_ _ _ _ (by have:=hGl.out; simp; omega)
      have hg8:=(hge.out.addPart (r:=⟨.slice Ak kk.length ck,kk⟩) hKte.out hown8 rfl hgr8 (hat8.imp_right fun e=>by omega)).keep hset8
      go_roundw
      case rel=>exact ⟨k + 1,_,_,_,_,by omega,by go_num,Hd (((hkd.out.app hbe.out).grow hgr8 (fun h e=>(hp5d.out h e).1)).set_ rfl),Hd (by have:=kG8.out.set_ 1 (.slice (some ⟨g8,0,none⟩) (ps.length + 1) cap8); simpa using this),Hd hg8,
       Hd (by rw [htr.out,List.map_append]; show _ ++ [(⟨sy,its⟩ : PRule)] = _; rw [hls0.out,hie'.out]),Hd (by rw [htp.out,List.map_append]; show _ ++ [kk] = _; rw [hke'.out])⟩
      case measure=>simp [intOf]; omega
   ·obtain rfl : k = ls.length:=by omega
    have hrs' : Hid (rs.map MRule.rule = gramR c):=Hd (by rw [hrs.out,List.take_length]; unfold gramR; rw [<- hlm'.out,List.map_map]; rfl)
    have hps' : Hid (ps.map MPart.ks = gramP c):=Hd (by rw [hps.out,List.take_length]; unfold gramP; rw [<- hlm'.out,List.map_map]; rfl)
    have hRr:=Hd (hkm.out.blk kR5.out hRG5.out.2.2)
    go_upto_region 26 with fail
    apply wp_region_lit
    refine wpList_load_row rfl 56 (.tmp 5) rfl G rfl 56 #[rv,pv] (0,0) _ hG.out Tryz.underlying56 rfl (by kernel_rfl) ?_
    simp only [Act.put,sX,sZ,sS]
    obtain ⟨Ar,cr,rfl⟩:=hgr.out.own.form_
    obtain ⟨Ap,cp,rfl⟩:=hgr.out.ownp.form_
    refine wpList_store_rowTo rfl 56 (.tmp 2) (.tmp 71) rfl rfl R #[.slice Ar rs.length cr,.slice Ap ps.length cp] rfl rfl 56 _ hRr.out (by kernel_rfl) rfl (by kernel_rfl) ?_
    have hRf : Hid (Blk (wr.setRow R #[.slice Ar rs.length cr,.slice Ap ps.length cp]) R 56 #[.slice Ar rs.length cr,.slice Ap ps.length cp]):=Hd (setRow_heap _ _ _ _ _ _ hRr.out)
    have hkf : Hid (Keeps (fun b=>W5.heap.size <= b) wr (wr.setRow R #[.slice Ar rs.length cr,.slice Ap ps.length cp])):=Hd (keeps_setRow wr R _ (by exact hRG5.out.1))
    have hgf:=Hd (hgr.out.keep hkf.out)
    have hbf : Hid (Below w.heap.size w (wr.setRow R #[.slice Ar rs.length cr,.slice Ap ps.length cp])):=Hd (below_setRow (KeepM.below hB5.out hkm.out (lQ _) (fun b hb e=>by have:=hRG.out; have:=hB1'.out; have:=hR.out; omega)) (by rw [hR.out]; exact lQ _) _)
    generalize wr.setRow R #[.slice Ar rs.length cr,.slice Ap ps.length cp] = wf at *
    have z0:=hRf.out.cell 0
    have z1:=hRf.out.cell 1
    simp at z0 z1
    go_wp2
    refine bodyPost_ret (v:=.tuple #[.agg #[.slice Ar rs.length cr,.slice Ap ps.length cp],.int .i64 0]) ?_ rfl ?_
    ·rw [results_cell_tmp (p:=2) (u:=3) (ty:=56) rfl]
     have hl:=run_loadVar_row (P:=Tryz.prog) wf R 56 56 #[.slice Ar rs.length cr,.slice Ap ps.length cp] (0,0) _ hRf.out Tryz.underlying56 rfl (by kernel_rfl)
     simp [asAddr,Result.andThen,hl]
    exact ⟨_,rs,ps,rfl,⟨_,_,rfl,hgf.out.base (by have:=hW05.out; omega)⟩,hrs'.out,hps'.out,hbf.out⟩
end
end Go.Proofs.YteclineblddpbaaGreatDoorR
