import Derived.Test.YteclineblddpbaaGreatDoorRC01
import Derived.Test.YteclineblddpbaaGreatDoorRC14
import Derived.Test.YteclineblddpbaaGreatDoorRC29
import Derived.Test.YteclineblddpbaaGreatDoorRC36
set_option linter.all false
set_option maxRecDepth 100000
set_option maxHeartbeats 0
namespace Go.Proofs.YteclineblddpbaaGreatDoorR
section
open Go Go.RowKit Go.Maps
theorem same_bytes (v1 v2 : Value) (l : List Nat) (w : World) (h1 : BytesP (fun _=>True) w v1 l) (h2 : BytesP (fun _=>True) w v2 l) (hl : l.length <= 1000000) :
  Calls Tryz.prog 40 #[v1,v2] w fun e w'=>e = .returned (.bool true) /\ Below w.heap.size w w':=by
 obtain ⟨A1,c1,rfl,hn1,hc1,hA1⟩:=h1
 obtain ⟨A2,c2,rfl,hn2,hc2,hA2⟩:=h2
 replace hA1:=Hd hA1
 replace hA2:=Hd hA2
 unfold maxLen at hc1 hc2
 go_enter Tryz.func40,Tryz.ntmps40
 go_wp2_with fail
 go_loopw [5] (fun iv wr=>∃ (k : Nat),k <= l.length /\ iv = .int .i64 k /\ Hid (Below w.heap.size w wr)) (fun iv _=>l.length - (intOf iv).toNat)
 case atStart=>exact ⟨0,by omega,rfl,Hd (Below.refl _ _)⟩
 case round=>
  obtain ⟨k,hk,rfl,hbr⟩:=hrel
  rename World=>wr
  have n0 : (0 : Int) <= (k : Int):=by omega
  by_cases hlt : k < l.length
  ·have n1 : (k : Int) < (l.length : Int):=by omega
   obtain ⟨b1,o1,rfl,hb1,-,hi1⟩:=hA1.out (by omega)
   obtain ⟨b2,o2,rfl,hb2,-,hi2⟩:=hA2.out (by omega)
   have x1:=(hbr.out.cell (p:=⟨b1,o1 + k,none⟩) hb1).trans (hi1 k hlt)
   have x2:=(hbr.out.cell (p:=⟨b2,o2 + k,none⟩) hb2).trans (hi2 k hlt)
   have l1 : b1 < wr.heap.size:=Nat.lt_of_lt_of_le hb1 hbr.out.size
   have l2 : b2 < wr.heap.size:=Nat.lt_of_lt_of_le hb2 hbr.out.size
   generalize l.getD k 0 = y at *
   have X1:=fun (u : Ups wr)=>u.cellAt x1 l1
   have X2:=fun (u : Ups wr)=>u.cellAt x2 l2
   clear hi1 hi2
   go_upto_region 6 with fail
   refine wp_region_ups (P:=Tryz.prog) rfl (by kernel_rfl) ?_
   repeat (go_big_quiet_step (fail))
   refine wpQuiet_nil ?_
   rintro _ ⟨u,rfl⟩
   have hb3:=Hd (hbr.out.trans (u.up.mono hbr.out.size))
   clear X1 X2 x1 x2
   generalize u.wld = w3 at *
   go_wp2_with fail
   go_roundw
   case rel=>exact ⟨k + 1,by omega,by go_num,hb3⟩
   case measure=>simp [intOf]; omega
  ·obtain rfl : k = l.length:=by omega
   go_wp2_with fail
   go_ret
   exact ⟨rfl,hbr.out⟩
theorem same_texts (v1 v2 : Value) (l : List ByteArray) (w : World) (h1 : TextsO (fun _=>False) w v1 l) (h2 : TextsO (fun _=>False) w v2 l) (hl : l.length <= 1000000) :
  Calls Tryz.prog 42 #[v1,v2] w fun e w'=>e = .returned (.bool true) /\ Below w.heap.size w w':=by
 obtain ⟨A1,c1,rfl,hn1,hc1,hA1⟩:=h1
 obtain ⟨A2,c2,rfl,hn2,hc2,hA2⟩:=h2
 replace hA1:=Hd hA1
 replace hA2:=Hd hA2
 unfold maxLen at hc1 hc2
 go_enter Tryz.func42,Tryz.ntmps42
 go_wp2_with fail
 go_loopw [5] (fun iv wr=>∃ (k : Nat),k <= l.length /\ iv = .int .i64 k /\ Hid (Below w.heap.size w wr)) (fun iv _=>l.length - (intOf iv).toNat)
 case atStart=>exact ⟨0,by omega,rfl,Hd (Below.refl _ _)⟩
 case round=>
  obtain ⟨k,hk,rfl,hbr⟩:=hrel
  rename World=>wr
  have n0 : (0 : Int) <= (k : Int):=by omega
  by_cases hlt : k < l.length
  ·have n1 : (k : Int) < (l.length : Int):=by omega
   obtain ⟨b1,o1,rfl,hb1,-,hi1⟩:=hA1.out (by omega)
   obtain ⟨b2,o2,rfl,hb2,-,hi2⟩:=hA2.out (by omega)
   have x1:=(hbr.out.cell (p:=⟨b1,o1 + k,none⟩) hb1).trans (hi1 k hlt)
   have x2:=(hbr.out.cell (p:=⟨b2,o2 + k,none⟩) hb2).trans (hi2 k hlt)
   have l1 : b1 < wr.heap.size:=Nat.lt_of_lt_of_le hb1 hbr.out.size
   have l2 : b2 < wr.heap.size:=Nat.lt_of_lt_of_le hb2 hbr.out.size
   generalize l.getD k ByteArray.empty = y at *
   have X1:=fun (u : Ups wr)=>u.cellAt x1 l1
   have X2:=fun (u : Ups wr)=>u.cellAt x2 l2
   clear hi1 hi2
   go_upto_region 6 with fail
   refine wp_region_ups (P:=Tryz.prog) rfl (by kernel_rfl) ?_
   repeat (go_big_quiet_step (fail))
   refine wpQuiet_nil ?_
   rintro _ ⟨u,rfl⟩
   have hb3:=Hd (hbr.out.trans (u.up.mono hbr.out.size))
   clear X1 X2 x1 x2
   generalize u.wld = w3 at *
   go_wp2_with fail
   go_roundw
   case rel=>exact ⟨k + 1,by omega,by go_num,hb3⟩
   case measure=>simp [intOf]; omega
  ·obtain rfl : k = l.length:=by omega
   go_wp2_with fail
   go_ret
   exact ⟨rfl,hbr.out⟩
end
section
open Go Go.RowKit Go.Maps
def eqPart (a b : PPart) : Bool:=decide (a.kind = b.kind) && decide (a.text = b.text)
def eqParts : List PPart -> List PPart -> Bool
 | [],[]=>true
 | a :: l,b :: m=>eqPart a b && eqParts l m
 | _,_=>false
theorem eqParts_len : ∀ {l m : List PPart},l.length ≠ m.length -> eqParts l m = false
 | [],[],h=>absurd rfl h
 | [],_ :: _,_=>rfl
 | _ :: _,[],_=>rfl
 | a :: l,b :: m,h=>by
  rw [eqParts,eqParts_len (fun e=>h (by simp [e])),Bool.and_false]
theorem eqParts_drop {l m : List PPart} {k : Nat} (hk : k < l.length) (hm : k < m.length) : eqParts (l.drop k) (m.drop k) = (eqPart (l.getD k PPart.zero) (m.getD k PPart.zero) && eqParts (l.drop (k + 1)) (m.drop (k + 1))):=by
 rw [drop_getD l PPart.zero k hk,drop_getD m PPart.zero k hm]; rfl
theorem same_parts (v1 v2 : Value) (l m : List PPart) (w : World) (h1 : IsParts w v1 l) (h2 : IsParts w v2 m) (hl : l.length <= 1000000) :
  Calls Tryz.prog 101 #[v1,v2] w fun e w'=>e = .returned (.bool (eqParts l m)) /\ Below w.heap.size w w':=by
 obtain ⟨A1,c1,rfl,hn1,hc1,hA1⟩:=h1
 obtain ⟨A2,c2,rfl,hn2,hc2,hA2⟩:=h2
 replace hA1:=Hd hA1
 replace hA2:=Hd hA2
 unfold maxLen at hc1 hc2
 go_enter Tryz.func101,Tryz.ntmps101
 by_cases hlm : l.length = m.length
 case neg=>
  have q : ((l.length : Int) != (m.length : Int)) = true:=by rw [bne_iff_ne]; omega
  have hfin:=Hd (eqParts_len hlm)
  replace hlm:=Hd hlm
  go_wp2_with fail
  go_ret
  refine ⟨?_,Below.refl _ _⟩
  rw [hfin.out]
  rfl
 have q : ((l.length : Int) != (m.length : Int)) = false:=by rw [bne_eq_false_iff_eq]; omega
 have hlm':=Hd hlm
 clear hlm
 go_wp2_with fail
 go_loopw [5] (fun iv wr=>∃ (k : Nat),k <= l.length /\ iv = .int .i64 k /\ Hid (Below w.heap.size w wr) /\ Hid (eqParts l m = eqParts (l.drop k) (m.drop k))) (fun iv _=>l.length - (intOf iv).toNat)
 case atStart=>exact ⟨0,by omega,rfl,Hd (Below.refl _ _),Hd rfl⟩
 case round=>
  obtain ⟨k,hk,rfl,hbr,hst⟩:=hrel
  rename World=>wr
  have n0 : (0 : Int) <= (k : Int):=by omega
  by_cases hlt : k < l.length
  ·have n1 : (k : Int) < (l.length : Int):=by omega
   have hlt2 : k < m.length:=by rw [<- hlm'.out]; exact hlt
   have n2 : (k : Int) < (m.length : Int):=by omega
   obtain ⟨b1,o1,rfl,hb1,hi1⟩:=hA1.out (by omega)
   obtain ⟨b2,o2,rfl,hb2,hi2⟩:=hA2.out (by omega)
   obtain ⟨e1,e2⟩:=hi1 k hlt
   obtain ⟨d1,d2⟩:=hi2 k hlt2
   have hdp:=hst.out
   rw [eqParts_drop hlt hlt2] at hdp
   have x1:=(hbr.out.cell (p:=⟨b1,o1 + k * 2,none⟩) hb1).trans e1
   have x2:=(hbr.out.cell (p:=⟨b1,o1 + k * 2 + 1,none⟩) hb1).trans e2
   have y1:=(hbr.out.cell (p:=⟨b2,o2 + k * 2,none⟩) hb2).trans d1
   have y2:=(hbr.out.cell (p:=⟨b2,o2 + k * 2 + 1,none⟩) hb2).trans d2
   have l1 : b1 < wr.heap.size:=Nat.lt_of_lt_of_le hb1 hbr.out.size
   have l2 : b2 < wr.heap.size:=Nat.lt_of_lt_of_le hb2 hbr.out.size
   generalize l.getD k PPart.zero = pa at *
   generalize m.getD k PPart.zero = pb at *
   obtain ⟨k1,t1⟩:=pa
   obtain ⟨k2,t2⟩:=pb
   simp only [eqPart] at x1 x2 y1 y2 hdp
   have X1:=fun (u : Ups wr)=>u.cellAt x1 l1
   have X2:=fun (u : Ups wr)=>u.cellAt x2 l1
   have Y1:=fun (u : Ups wr)=>u.cellAt y1 l2
   have Y2:=fun (u : Ups wr)=>u.cellAt y2 l2
   clear hi1 hi2 e1 e2 d1 d2
   replace hdp:=Hd hdp
   go_upto_region 6 with fail
   refine wp_region_ups (P:=Tryz.prog) rfl (by kernel_rfl) ?_
   repeat (go_big_quiet_step (fail))
   by_cases hk : k1 = k2
   ·have hkb : (k1 == k2) = true:=by rw [beq_iff_eq]; exact hk
    by_cases ht : t1 = t2
    ·have htb : (t1.toList == t2.toList) = true:=by rw [tl_beq]; exact decide_eq_true ht
     have hnx : Hid (eqParts l m = eqParts (l.drop (k + 1)) (m.drop (k + 1))):=Hd (hdp.out.trans (by rw [decide_eq_true hk,decide_eq_true ht]; rfl))
     replace hk:=Hd hk
     replace ht:=Hd ht
     go_big_quiet_step (fail)
     refine wpQuiet_nil ?_
     rintro _ ⟨u,rfl⟩
     have hb3:=Hd (hbr.out.trans (u.up.mono hbr.out.size))
     clear X1 X2 Y1 Y2 x1 x2 y1 y2
     generalize u.wld = w3 at *
     go_wp2_with fail
     go_roundw
     case rel=>exact ⟨k + 1,by omega,by go_num,hb3,hnx⟩
     case measure=>simp [intOf]; omega
    ·have htb : (t1.toList == t2.toList) = false:=by rw [tl_beq]; exact decide_eq_false ht
     replace hk:=Hd hk
     go_big_quiet_step (fail)
     refine wpQuiet_nil ?_
     rintro _ ⟨u,rfl⟩
     have hb3:=Hd (hbr.out.trans (u.up.mono hbr.out.size))
     clear X1 X2 Y1 Y2 x1 x2 y1 y2
     generalize u.wld = w3 at *
     have hfin : Hid (eqParts l m = false):=Hd (hdp.out.trans (by rw [decide_eq_true hk.out,decide_eq_false ht]; rfl))
     go_wp2_with fail
     go_ret
     refine ⟨?_,hb3.out⟩
     rw [hfin.out]
     rfl
   ·have hkb : (k1 == k2) = false:=by rw [beq_eq_false_iff_ne]; exact hk
    replace hk:=Hd hk
    go_big_quiet_step (fail)
    refine wpQuiet_nil ?_
    rintro _ ⟨u,rfl⟩
    have hb3:=Hd (hbr.out.trans (u.up.mono hbr.out.size))
    clear X1 X2 Y1 Y2 x1 x2 y1 y2
    generalize u.wld = w3 at *
    have hfin : Hid (eqParts l m = false):=Hd (hdp.out.trans (by rw [decide_eq_false hk.out]; rfl))
    go_wp2_with fail
    go_ret
    refine ⟨?_,hb3.out⟩
    rw [hfin.out]
    rfl
  ·obtain rfl : k = l.length:=by omega
   have hfin : Hid (eqParts l m = true):=Hd (by
    have:=hst.out
    rw [List.drop_length,show m.drop l.length = [] from by rw [hlm'.out,List.drop_length]] at this
    exact this)
   go_wp2_with fail
   go_ret
   refine ⟨?_,hbr.out⟩
   rw [hfin.out]
   rfl
end
section
open Go Go.RowKit Go.Maps
theorem same_reading (c1 c2 : Int) (v1 v2 : Value) (l m : List PPart) (w : World) (h1 : IsParts w v1 l) (h2 : IsParts w v2 m) (hl : l.length <= 1000000) :
  Calls Tryz.prog 56 #[.agg #[.int .u8 c1,v1],.agg #[.int .u8 c2,v2]] w fun e w'=>e = .returned (.bool (decide (c1 = c2) && eqParts l m)) /\ Below w.heap.size w w':=by
 obtain ⟨W1,hW1⟩ : ∃ W1,W1 = w.alloc (.cells #[.int .u8 c1,v1] 42):=⟨_,rfl⟩
 obtain ⟨W2,hW2⟩ : ∃ W2,W2 = W1.alloc (.cells #[.int .u8 c2,v2] 42):=⟨_,rfl⟩
 have hb1 : Below w.heap.size w W1:=by rw [hW1]; exact (Below.refl _ _).alloc (lQ _) _
 have hb2 : Below w.heap.size w W2:=by rw [hW2]; exact hb1.alloc hb1.size _
 have k1 : Blk W2 w.heap.size 42 #[.int .u8 c1,v1]:=by rw [hW2]; refine Blk.alloc ?_ _; rw [hW1]; exact Blk.new _ _ _
 have k2 : Blk W2 W1.heap.size 42 #[.int .u8 c2,v2]:=by rw [hW2]; exact Blk.new _ _ _
 have sz1 : W1.heap.size = w.heap.size + 1:=by rw [hW1]; simp
 have hsp:=Hd (same_parts v1 v2 l m W2 (h1.stays (Stays.of hb2)) (h2.stays (Stays.of hb2)) hl)
 obtain ⟨A1,d1,rfl,-,-,-⟩:=h1
 obtain ⟨A2,d2,rfl,-,-,-⟩:=h2
 have x0:=k1.cell 0
 have x1:=k1.cell 1
 have y0:=k2.cell 0
 have y1:=k2.cell 1
 simp at x0 x1 y0 y1
 go_enter Tryz.func56,Tryz.ntmps56
 go_upto_region 1 with fail
 rw [<- hW1,<- hW2,<- sz1]
 replace hb2:=Hd hb2
 clear hW1 hW2 sz1 hb1 k1 k2
 by_cases hc : c1 = c2
 ·have hcb : (c1 == c2) = true:=by rw [beq_iff_eq]; exact hc
  replace hc:=Hd hc
  go_wp2_with fail
  refine hsp.out.mono ?_
  rintro e w3 ⟨rfl,hb3⟩
  have hb4:=Hd (hb2.out.trans (hb3.mono hb2.out.size))
  clear hsp x0 x1 y0 y1 hb3
  go_wp2_with fail
  go_ret
  refine ⟨?_,hb4.out⟩
  rw [decide_eq_true hc.out,Bool.true_and]
  rfl
 ·have hcb : (c1 == c2) = false:=by rw [beq_eq_false_iff_ne]; exact hc
  replace hc:=Hd hc
  go_wp2_with fail
  go_ret
  refine ⟨?_,hb2.out⟩
  rw [decide_eq_false hc.out]
  rfl
end
section
open Go Go.RowKit Go.Maps
abbrev PRead:=Int × List PPart
def IsReads (w : World) (v : Value) (ms : List PRead) : Prop:=Sl w v ms.length fun b off i=>w.cell? ⟨b,off + i * 2,none⟩ = some (.int .u8 (ms.getD i (0,[])).1) /\ ∃ vv,w.cell? ⟨b,off + i * 2 + 1,none⟩ = some vv /\ IsParts w vv (ms.getD i (0,[])).2
def hasP1 (ms : List PRead) (c : Int) (ps : List PPart) : Bool:=ms.any fun x=>decide (x.1 = c) && eqParts x.2 ps
theorem hasP1_drop {ms : List PRead} {c : Int} {ps : List PPart} {k : Nat} (hk : k < ms.length) : hasP1 (ms.drop k) c ps = (((decide ((ms.getD k (0,[])).1 = c) && eqParts (ms.getD k (0,[])).2 ps)) || hasP1 (ms.drop (k + 1)) c ps):=by
 rw [drop_getD ms (0,[]) k hk]; rfl
theorem has24 (v pv : Value) (ms : List PRead) (c : Int) (ps : List PPart) (w : World) (h1 : IsReads w v ms) (h2 : IsParts w pv ps) (hl : ms.length <= 1000000) (hps : ∀ x ∈ ms,x.2.length <= 1000000) :
  Calls Tryz.prog 24 #[v,.agg #[.int .u8 c,pv]] w fun e w'=>e = .returned (.bool (hasP1 ms c ps)) /\ Below w.heap.size w w':=by
 obtain ⟨A1,c1,rfl,hn1,hc1,hA1⟩:=h1
 replace hA1:=Hd hA1
 replace hps:=Hd hps
 have h2':=Hd h2
 obtain ⟨A2,c2,rfl,-,-,-⟩:=h2
 unfold maxLen at hc1
 obtain ⟨W1,hW1⟩ : ∃ W1,W1 = w.alloc (.cells #[.int .u8 c,.slice A2 ps.length c2] 42):=⟨_,rfl⟩
 have hb1 : Hid (Below w.heap.size w W1):=Hd (by rw [hW1]; exact (Below.refl _ _).alloc (lQ _) _)
 have kR : Hid (Blk W1 w.heap.size 42 #[.int .u8 c,.slice A2 ps.length c2]):=Hd (by rw [hW1]; exact Blk.new _ _ _)
 go_enter Tryz.func24,Tryz.ntmps24
 go_upto_region 1 with fail
 rw [<- hW1]
 replace hW1:=Hd hW1
 obtain ⟨RB,hRB⟩ : ∃ RB,RB = w.heap.size:=⟨_,rfl⟩
 rw [<- hRB] at kR ⊢
 replace hRB:=Hd hRB
 go_wp2_with fail
 go_loopw [5] (fun iv wr=>∃ (k : Nat),k <= ms.length /\ iv = .int .i64 k /\ Hid (Below w.heap.size w wr) /\ Hid (Blk wr RB 42 #[.int .u8 c,.slice A2 ps.length c2]) /\ Hid (hasP1 ms c ps = hasP1 (ms.drop k) c ps)) (fun iv _=>ms.length - (intOf iv).toNat)
 case atStart=>exact ⟨0,by omega,rfl,hb1,kR,Hd rfl⟩
 case round=>
  obtain ⟨k,hk,rfl,hbr,kRr,hst⟩:=hrel
  rename World=>wr
  clear hb1 kR
  have n0 : (0 : Int) <= (k : Int):=by omega
  by_cases hlt : k < ms.length
  ·have n1 : (k : Int) < (ms.length : Int):=by omega
   obtain ⟨b1,o1,rfl,hb1,hi1⟩:=hA1.out (by omega)
   obtain ⟨e1,vv,e2,e3⟩:=hi1 k hlt
   have hdp:=hst.out
   rw [hasP1_drop hlt] at hdp
   have hlx:=hps.out (ms.getD k (0,[])) (by rw [getD_at _ _ _ hlt]; exact List.getElem_mem hlt)
   generalize ms.getD k (0,[]) = x at *
   obtain ⟨xc,xps⟩:=x
   simp only at e1 e3 hdp hlx
   have e3':=Hd e3
   obtain ⟨A3,c3,rfl,-,-,-⟩:=e3
   have x1:=(hbr.out.cell (p:=⟨b1,o1 + k * 2,none⟩) hb1).trans e1
   have x2:=(hbr.out.cell (p:=⟨b1,o1 + k * 2 + 1,none⟩) hb1).trans e2
   have l1 : b1 < wr.heap.size:=Nat.lt_of_lt_of_le hb1 hbr.out.size
   have X1:=fun (u : Ups wr)=>u.cellAt x1 l1
   have X2:=fun (u : Ups wr)=>u.cellAt x2 l1
   have R0:=fun (u : Ups wr)=>(kRr.out.below u.up kRr.out.lt).cell 0
   have R1:=fun (u : Ups wr)=>(kRr.out.below u.up kRr.out.lt).cell 1
   simp at R0 R1
   have hcall:=Hd (fun (u : Ups wr)=>same_reading xc c _ _ xps ps u.wld (e3'.out.stays (Stays.of (hbr.out.trans (u.up.mono hbr.out.size)))) (h2'.out.stays (Stays.of (hbr.out.trans (u.up.mono hbr.out.size)))) hlx)
   generalize (decide (xc = c) && eqParts xps ps) = q at *
   clear hi1 e1 e2
   go_upto_region 4 with fail
   refine wp_region_ups (P:=Tryz.prog) rfl (by kernel_rfl) ?_
   repeat (go_big_quiet_step (first | (go_at_call 56; exact calls_ups (hcall.out _))))
   refine wpQuiet_nil ?_
   rintro _ ⟨u,rfl⟩
   have hb3:=Hd (hbr.out.trans (u.up.mono hbr.out.size))
   have k3:=Hd (kRr.out.below u.up kRr.out.lt)
   clear X1 X2 R0 R1 x1 x2 hcall
   generalize u.wld = w3 at *
   cases q with
   | true=>
    have hfin : Hid (hasP1 ms c ps = true):=Hd (by rw [hdp]; rfl)
    clear hdp
    go_wp2_with fail
    go_ret
    refine ⟨?_,hb3.out⟩
    rw [hfin.out]
    rfl
   | false=>
    have hnx : Hid (hasP1 ms c ps = hasP1 (ms.drop (k + 1)) c ps):=Hd (by rw [hdp]; rfl)
    clear hdp
    go_wp2_with fail
    go_roundw
    case rel=>exact ⟨k + 1,by omega,by go_num,hb3,k3,hnx⟩
    case measure=>simp [intOf]; omega
  ·obtain rfl : k = ms.length:=by omega
   have hfin : Hid (hasP1 ms c ps = false):=Hd (by
    have:=hst.out
    rw [List.drop_length] at this
    exact this)
   go_wp2_with fail
   go_ret
   refine ⟨?_,hbr.out⟩
   rw [hfin.out]
   rfl
end
section
def exL : List ByteArray:=[⟨#[49,50,32,78,32,77,65,73,78,32,83,84]⟩,⟨#[83,80,82,73,78,71,70,73,69,76,68,32,73,76,32,49,50,51,52,53]⟩]
def exT : List PTok:=streamP (toksOf exL)
def exK : List Nat:=exT.map fun t=>t.cls.toNat
def exTrees : List PTree:=(treesN (gramR 1) exK (symN (gramR 1) exK 3) 3 0 0 exK.length).take 64
def exRead (t : PTree) : List PRead:=(readP (gatherF (gramR 1) (gramP 1) exT 3 t zeros11)).map fun p=>((1 : Int),p)
def exReads : List PRead:=exTrees.flatMap exRead
def exWant : List PPart:=[⟨1,⟨#[49,50]⟩⟩,⟨3,⟨#[78,79,82,84,72]⟩⟩,⟨4,⟨#[77,65,73,78]⟩⟩,⟨5,⟨#[83,84,82,69,69,84]⟩⟩,⟨8,⟨#[83,80,82,73,78,71,70,73,69,76,68]⟩⟩,⟨9,⟨#[73,76]⟩⟩,⟨10,⟨#[49,50,51,52,53]⟩⟩]
theorem exK_eq : exK = [129,140,132,404,16384,4,388,641]:=by decide +kernel
theorem ex_right : exT.all tokRightB = true:=by decide +kernel
theorem ex_toks : (toksOf exL).length = 7:=by decide +kernel
theorem gramR1 : gramR 1 = (gramLL rulesA.data.toList).map lineRule:=by rw [gramR_list]; rfl
def exTreesL : List PTree:=(treesN ((gramLL rulesA.data.toList).map lineRule) [129,140,132,404,16384,4,388,641] (symN ((gramLL rulesA.data.toList).map lineRule) [129,140,132,404,16384,4,388,641] 3) 3 0 0 8).take 64
theorem exTrees_eq : exTrees = exTreesL:=by
 unfold exTrees exTreesL
 rw [exK_eq,gramR1]
 rfl
theorem ex_len : exTrees.length = 8:=by
 rw [exTrees_eq]
 decide +kernel
theorem ex_trees : (exTrees.all fun t=>isTreeF (gramR 1) exK 3 t 0 0 exK.length) = true:=by
 rw [exTrees_eq,exK_eq,gramR1]
 decide +kernel
theorem gramP1 : gramP 1 = (gramLL rulesA.data.toList).map lineParts:=by rw [gramP,gramL_list]; rfl
theorem ex_has : hasP1 exReads 1 exWant = true:=by
 unfold exReads exRead
 rw [exTrees_eq,gramR1,gramP1]
 decide +kernel
theorem ex_small : exT.all (fun x=>decide (x.text.size <= 60) && decide (0 <= x.cls) && decide (x.cls < 65536) && (decide (x.cls.toNat &&& 2 = 0) || decide (0 < x.text.size))) = true:=by decide +kernel
theorem ex_fold : exL.all (fun x=>decide (x.size <= 60) && decide (x ≠ ⟨#[]⟩) && decide (foldOf x = x)) = true:=by decide +kernel
end
section
open Go Go.RowKit Go.Maps
def MRead.read (m : MRead) : PRead:=(m.c,m.ps)
theorem rdIn_parts {P : Nat -> Prop} {w : World} {m : MRead} (h : rdIn P w m) : IsParts w m.v m.ps:=by
 obtain ⟨A,c,hv,hn,hc,hA⟩:=h
 refine ⟨A,c,hv,hn,hc,fun h0=>?_⟩
 obtain ⟨b,off,e,hb,-,hi⟩:=hA h0
 exact ⟨b,off,e,hb,hi⟩
theorem OwnReads.reads {base : Nat} {w : World} {v : Value} {ms : List MRead} (h : OwnReads base w v ms) : IsReads w v (ms.map MRead.read):=by
 obtain ⟨A,c,hv,hn,hc,hA⟩:=OwnL.sl h (fun _=>rfl)
 refine ⟨A,c,by rw [List.length_map]; exact hv,by rw [List.length_map]; exact hn,hc,fun h0=>?_⟩
 rw [List.length_map] at h0
 obtain ⟨b,off,e,hb,-,hi⟩:=hA h0
 refine ⟨b,off,e,hb,fun i hi'=>?_⟩
 rw [List.length_map] at hi'
 have hr:=(hi i hi').2.2 hi'
 have h0:=hr 0 (by omega)
 have h1:=hr 1 (by omega)
 rw [getD_at _ _ _ (by simpa using hi'),List.getElem_map]
 exact ⟨by simpa [rdCells,MRead.read] using h0,ms[i].v,by simpa [rdCells] using h1,rdIn_parts (h.2 _ (List.getElem_mem hi'))⟩
end
section
open Go Go.RowKit
def tailW (ops : Array Oper) (n t : Nat) : Prop:=
 (∃ u,n <= u /\ u < ops.size /\ Region.waitsFor .any ops t u = true) \/ ∀ i,i < n -> Region.waitsFor .any ops t i = true \/ ∃ k,k < n /\ Region.waitsFor .any ops t k = true /\ Region.waitsFor .any ops k i = true
def tailsB (ops : Array Oper) (n : Nat) : Bool:=
 (List.range ops.size).all fun t=>decide (t < n) || (((List.range ops.size).any fun u=>decide (n <= u) && Region.waitsFor .any ops t u) || (List.range n).all fun i=>Region.waitsFor .any ops t i || (List.range n).any fun k=>Region.waitsFor .any ops t k && Region.waitsFor .any ops k i)
theorem tails_of {ops : Array Oper} {n : Nat} (h : tailsB ops n = true) : ∀ t,n <= t -> t < ops.size -> tailW ops n t:=fun t h1 h2=>by
 unfold tailsB at h
 rw [List.all_eq_true] at h
 have h3:=h t (List.mem_range.2 h2)
 simp only [Bool.or_eq_true,decide_eq_true_eq,List.any_eq_true,List.mem_range,Bool.and_eq_true,List.all_eq_true] at h3
 rcases h3 with h3 | ⟨u,h4,h5,h6⟩ | h3
 ·omega
 ·exact .inl ⟨u,h5,h4,h6⟩
 ·refine .inr fun i hi=>?_
  rcases h3 i hi with h4 | ⟨k,h4,h5,h6⟩
  ·exact .inl h4
  ·exact .inr ⟨k,h4,h5,h6⟩
theorem tail_shut {ops : Array Oper} {n i0 : Nat} {b : Array Bool} (hw : ∀ t,n <= t -> t < ops.size -> tailW ops n t) (inv : HeadInv .any ops n b) (hi0 : i0 < n) (hu0 : b.getD i0 true = false) : ∀ i,n <= i -> i ∉ Region.ready .any ops b:=fun i h hi=>by
 obtain ⟨_,o,ho,hall⟩:=mem_ready.1 hi
 have hlt:=(Array.getElem?_eq_some_iff.1 ho).1
 rcases hw i h hlt with ⟨u,h1,h2,h3⟩ | h1
 ·obtain ⟨o',ho',e,he,hbd,hon⟩:=Region.waitsFor_spec h3
  obtain rfl : o' = o:=Option.some.inj (ho'.symm.trans ho)
  have h4:=hall e he hbd
  rw [hon,getD_both (inv.tail u h1 h2)] at h4
  cases h4
 ·rcases h1 i0 hi0 with h2 | ⟨k,h2,h3,h4⟩
  ·obtain ⟨o',ho',e,he,hbd,hon⟩:=Region.waitsFor_spec h2
   obtain rfl : o' = o:=Option.some.inj (ho'.symm.trans ho)
   have h5:=hall e he hbd
   rw [hon,getD_both hu0] at h5
   cases h5
  ·obtain ⟨o',ho',e,he,hbd,hon⟩:=Region.waitsFor_spec h3
   obtain rfl : o' = o:=Option.some.inj (ho'.symm.trans ho)
   have h5:=hall e he hbd
   rw [hon] at h5
   obtain ⟨o2,ho2,e2,he2,hbd2,hon2⟩:=Region.waitsFor_spec h4
   have h6:=inv.closed k o2 ho2 h5 e2 he2 hbd2
   rw [hon2,getD_both hu0] at h6
   cases h6
section
variable {P : Program} {ops : Array Oper} {Q : Exit -> Act -> World -> Prop} {C : World -> Prop} {T : Act -> World -> Prop}
structure FlowE (ops : Array Oper) (n : Nat) (zs : List Nat) : Prop where
 size : n < ops.size
 sel : Region.noSelect ops = true
 wait : ∀ t,n <= t -> t < ops.size -> tailW ops n t
 low : ∀ (j : Nat) (oj : Oper),ops[j]? = some oj -> ∀ e ∈ oj.after,Region.binds .any e = true -> e.on < j
 ap : ∀ (i j : Nat) (oi oj : Oper),i < n -> j < n -> i ≠ j -> ops[i]? = some oi -> ops[j]? = some oj -> Region.waitsFor .any ops j i = false -> Region.waitsFor .any ops i j = false -> oi.apart ops oj = true
 qz : ∀ j,j < n -> j ∉ zs -> ∀ i ∈ zs,Region.waitsFor .any ops j i = false
 zg : ∀ i ∈ zs,i < n /\ ∀ o : Oper,ops[i]? = some o -> o.guard = none
theorem flowE_any {n : Nat} {zs : List Nat} (F : FlowE ops n zs) {G : Nat -> Array Bool -> Act -> World -> Prop} (hG0 : ∀ b a w,HeadInv .any ops n b -> (∀ j,j < n -> b.getD j false = true) -> (∀ w1,Below w.heap.size w w1 -> T a w1) -> G 0 b a w)
  (hGs : ∀ m b a w,Region.ready .any ops b ≠ [] -> (∀ i ∈ Region.ready .any ops b,wpOp P ops Q i (G m (b.setIfInBounds i true)) a w) -> G (m + 1) b a w) : ∀ (m : Nat) (r rz : List Nat) (b : Array Bool) (a A : Act) (w : World),r.length + rz.length = m -> HeadInv .any ops n b -> r.Pairwise (· < ·) -> (∀ j ∈ r,j < n /\ j ∉ zs) ->
  rz.Nodup -> (∀ j ∈ rz,j ∈ zs) -> (∀ j,j < n -> (b.getD j true = false ↔ j ∈ r \/ j ∈ rz)) -> runQ P ops C r a A -> (∀ w2,Below w.heap.size w w2 -> C w2) -> mkT P ops C T rz.length rz A w -> G m b a w
 | 0,r,rz,b,a,A,w,hm,inv,_,_,_,_,hun,hq,_,hz=>by
  obtain rfl : r = []:=List.eq_nil_of_length_eq_zero (by omega)
  obtain rfl : rz = []:=List.eq_nil_of_length_eq_zero (by omega)
  obtain rfl : a = A:=hq
  exact hG0 b a w inv (fun j hj=>by
   have h1 : ¬ b.getD j true = false:=fun h=>by rcases (hun j hj).1 h with h | h <;> cases h
   cases h2 : b.getD j false with
   | true=>rfl
   | false=>exact absurd (getD_in (by rw [inv.size]; have:=F.size; omega) h2) h1) hz
 | m + 1,r,rz,b,a,A,w,hm,inv,hpw,hr,hnd,hrz,hun,hq,hC,hz=>by
  have hn : n < ops.size:=F.size
  have hex : ∃ i0,i0 < n /\ b.getD i0 true = false:=by
   cases r with
   | cons i _=>exact ⟨i,(hr i (List.mem_cons_self ..)).1,(hun i (hr i (List.mem_cons_self ..)).1).2 (.inl (List.mem_cons_self ..))⟩
   | nil=>cases rz with
    | cons i _=>
     have:=(F.zg i (hrz i (List.mem_cons_self ..))).1
     exact ⟨i,this,(hun i this).2 (.inr (List.mem_cons_self ..))⟩
    | nil=>simp at hm
  obtain ⟨i0,hi0,hu0⟩:=hex
  obtain ⟨j0,hj0⟩:=exists_ready F.low hn inv.size i0 i0 rfl hi0 hu0
  refine hGs m b a w (fun h0=>(by rw [h0] at hj0; cases hj0)) fun i hi=>?_
  have hin : i < n:=by
   rcases Nat.lt_or_ge i n with h | h
   ·exact h
   ·exact absurd hi (tail_shut F.wait inv hi0 hu0 i h)
  obtain ⟨hiu,oi,hoi,hall⟩:=mem_ready.1 hi
  have hunset : ∀ (r' rz' : List Nat),(∀ j,j ≠ i -> ((j ∈ r' \/ j ∈ rz') ↔ (j ∈ r \/ j ∈ rz))) -> i ∉ r' -> i ∉ rz' -> ∀ j,j < n -> ((b.setIfInBounds i true).getD j true = false ↔ j ∈ r' \/ j ∈ rz'):=fun r' rz' h1 h2 h3 j hj=>by
   rcases Decidable.em (i = j) with rfl | hne
   ·have hsz : i < b.size:=by rw [inv.size]; omega
    simp [hsz,h2,h3]
   ·rw [getD_set_ne true hne,hun j hj,h1 j (Ne.symm hne)]
  rcases (hun i hin).1 hiu with hir | hir
  ·obtain ⟨r1,r2,rfl⟩:=List.append_of_mem hir
   have hlt1 : ∀ j ∈ r1,j < i:=fun j hj=>(List.pairwise_append.1 hpw).2.2 j hj i (List.mem_cons_self ..)
   have hgt2 : ∀ j ∈ r2,i < j:=fun j hj=>(List.pairwise_cons.1 (List.pairwise_append.1 hpw).2.1).1 j hj
   have hap1 : ∀ j ∈ r1,∀ oj,ops[j]? = some oj -> oi.apart ops oj = true:=fun j hj oj hoj=>by
    have hjn:=(hr j (List.mem_append_left _ hj)).1
    refine F.ap i j oi oj hin hjn (by have:=hlt1 j hj; omega) hoi hoj ?_ (unlisted_wait hi ((hun j hjn).2 (.inl (List.mem_append_left _ hj))))
    cases h : Region.waitsFor .any ops j i with
    | false=>rfl
    | true=>
     obtain ⟨o',ho',e,he,hbd,hon⟩:=Region.waitsFor_spec h
     have:=F.low j o' ho' e he hbd
     have:=hlt1 j hj
     omega
   obtain ⟨v,hy,hq'⟩:=runQ_pull F.sel hoi r1 a hap1 hq
   have hsub : List.Sublist (r1 ++ r2) (r1 ++ i :: r2):=List.Sublist.append (List.Sublist.refl _) (List.sublist_cons_self ..)
   have next : ∀ w',Below w.heap.size w w' -> G m (b.setIfInBounds i true) (a.put oi.dst v) w':=fun w' hb=>by
    refine flowE_any F hG0 hGs m (r1 ++ r2) rz _ _ A w' (by simp at hm ⊢; omega) (inv.set hi hin) (hpw.sublist hsub) (fun j hj=>hr j (hsub.subset hj)) hnd hrz (hunset _ _ ?_ ?_ ?_) hq' (fun w2 h2=>hC w2 (hb.trans (h2.mono hb.size))) (mkT.up hz hb)
    ·intro j hj
     simp [hj]
    ·intro h
     rcases List.mem_append.1 h with h | h
     ·have:=hlt1 i h; omega
     ·have:=hgt2 i h; omega
    ·intro h
     exact (hr i hir).2 (hrz i h)
   unfold wpOp
   simp only [hoi]
   rcases hy with ⟨hw,hv⟩ | ⟨hw,rfl⟩
   ·rw [if_pos hw]
    refine .inl (Oper.wp_of_quiet (C:=CS1 fun w'=>Below w.heap.size w w') ⟨⟨w,Below.refl _ _⟩,rfl⟩ (K:=fun a'=>a' = a.put oi.dst v) ?_ ⟨v,hv _ (fun _ _ h1 h2=>h1.trans (h2.mono h1.size)) hC,rfl⟩)
    rintro a' w' ⟨u,rfl⟩ rfl
    exact next _ u.mem
   ·rw [if_neg (by rw [hw]; exact Bool.false_ne_true)]
    exact next w (Below.refl _ _)
  ·have hapz : ∀ j ∈ r,∀ oj,ops[j]? = some oj -> oi.apart ops oj = true:=fun j hj oj hoj=>by
    have hjn:=hr j hj
    exact F.ap i j oi oj hin hjn.1 (fun e=>hjn.2 (e ▸ hrz i hir)) hoi hoj (F.qz j hjn.1 hjn.2 i (hrz i hir)) (unlisted_wait hi ((hun j hjn.1).2 (.inl hj)))
   have hlen:=List.length_erase_of_mem hir
   have hpos : 0 < rz.length:=List.length_pos_of_mem hir
   obtain ⟨k,hk⟩ : ∃ k,rz.length = k + 1:=⟨rz.length - 1,by omega⟩
   rw [hk] at hz
   have hrd : readyZ ops rz i = true:=by
    unfold readyZ
    simp only [hoi,Array.all_eq_true',Bool.or_eq_true,Bool.not_eq_true']
    intro e he
    cases hb : Region.binds .any e with
    | false=>exact .inl rfl
    | true=>
     refine .inr ?_
     have h1:=hall e he hb
     cases hc : rz.contains e.on with
     | false=>rfl
     | true=>
      have hmem : e.on ∈ rz:=by simpa using hc
      have hlt:=(F.zg _ (hrz _ hmem)).1
      have h2:=(hun _ hlt).2 (.inr hmem)
      rw [getD_both h2] at h1
      cases h1
   obtain ⟨o,ho,hmade⟩:=hz i hir hrd w (Below.refl _ _)
   obtain rfl : o = oi:=Option.some.inj (ho.symm.trans hoi)
   have hmade':=hmade.congr (runQ_exec F.sel hoi r a hapz hq).symm
   have hw : Region.wanted o (yielded ops a.tmps) = true:=by unfold Region.wanted; rw [(F.zg i (hrz i hir)).2 o ho]
   unfold wpOp
   simp only [hoi]
   rw [if_pos hw]
   refine .inl (hmade'.wp ?_)
   rintro v w' ⟨hC',hz'⟩
   have hke : (rz.erase i).length = k:=by omega
   refine flowE_any F hG0 hGs m r (rz.erase i) _ _ (A.put o.dst v) w' (by omega) (inv.set hi hin) hpw hr (hnd.erase i) (fun j hj=>hrz j (List.mem_of_mem_erase hj)) (hunset _ _ ?_ ?_ ?_) (runQ_put F.sel r a hapz hq) hC' (by rw [hke]; exact hz')
   ·intro j hj
    rw [hnd.mem_erase_iff]
    simp [hj]
   ·exact fun h=>(hr i h).2 (hrz i hir)
   ·rw [hnd.mem_erase_iff]; simp
end
def flowEB (ops : Array Oper) (m : List Bool) (zs : List Nat) : Bool:=
 decide (m.length < ops.size) && (Region.noSelect ops && (tailsB ops m.length && (
  ((List.range ops.size).all fun j=>match ops[j]? with | some oj=>oj.after.all (fun e=>!Region.binds .any e || decide (e.on < j)) | none=>true) && (
  ((List.range m.length).all fun i=>(List.range m.length).all fun j=>decide (i = j) || (Region.waitsFor .any ops j i || (Region.waitsFor .any ops i j || (match ops[i]?,ops[j]? with | some oi,some oj=>oi.apart ops oj | _,_=>true)))) && (
  ((idxB true 0 m).all fun j=>zs.all fun i=>!Region.waitsFor .any ops j i) && (
  (zs.all fun i=>match ops[i]? with | some o=>o.guard.isNone | none=>true) && decide (idxB false 0 m = zs)))))))
theorem flowE_of {ops : Array Oper} {m : List Bool} {zs : List Nat} (h : flowEB ops m zs = true) : FlowE ops m.length zs:=by
 simp only [flowEB,Bool.and_eq_true,decide_eq_true_eq,List.all_eq_true,List.mem_range,Bool.or_eq_true,Bool.not_eq_true'] at h
 obtain ⟨h1,h2,h4,h5,h6,h7,h8,rfl⟩:=h
 have hlt : ∀ (j : Nat) (oj : Oper),ops[j]? = some oj -> j < ops.size:=fun j oj hj=>(Array.getElem?_eq_some_iff.1 hj).1
 refine ⟨h1,h2,tails_of h4,fun j oj hj e he hbd=>?_,fun i j oi oj hi hj hne hoi hoj hji hij=>?_,fun j hj hjz i hi=>?_,fun i hi=>⟨?_,fun o ho=>?_⟩⟩
 ·have:=h5 j (hlt j oj hj)
  rw [hj] at this
  simp only [Array.all_eq_true',decide_eq_true_eq,Bool.or_eq_true,Bool.not_eq_true'] at this
  rcases this e he with h0 | h0
  ·rw [hbd] at h0; cases h0
  ·exact h0
 ·rcases h6 i hi j hj with h | h | h | h
  ·exact absurd h hne
  ·rw [h] at hji; cases hji
  ·rw [h] at hij; cases hij
  ·rw [hoi,hoj] at h; exact h
 ·refine h7 j ?_ i hi
  rw [mem_idx]
  refine ⟨Nat.zero_le _,?_⟩
  rw [mem_idx] at hjz
  rw [Nat.sub_zero] at hjz ⊢
  have hv : m[j]? = some m[j]:=List.getElem?_eq_getElem hj
  cases hb : m[j] with
  | true=>rw [hv,hb]
  | false=>exact absurd ⟨Nat.zero_le _,by rw [hv,hb]⟩ hjz
 ·have:=((mem_idx m 0).1 hi).2
  rw [Nat.sub_zero] at this
  exact (List.getElem?_eq_some_iff.1 this).1
 ·have:=h8 i hi
  rw [ho] at this
  simpa using this
theorem wpIn_region_flowE2 {P : Program} {C : World -> Prop} {id : Nat} {Q : Exit -> Act -> World -> Prop} {a : Act} {w : World} {l : List Oper} {lp np : Nat} (m : List Bool) (zs : List Nat) (g : Nat) (hm : P.follows .mixedOrders = true) (hB : flowEB l.toArray m zs = true) (hg : m.length + g = l.length)
  (hd : dstsOK a.tmps.size (pickB true m l) = true) (hC : ∀ w1,Below w.heap.size w w1 -> C w1) (A : Act)
  (hq : ∀ S,Grows S -> (∀ w,S w -> C w) -> Nonempty (UpsC S) -> wpQuiet P l.toArray (fun w'=>∃ u : UpsC S,w' = u.wld) (fun a'=>a' = A) (pickB true m l) a)
  (hdf : noDefB l.toArray = true) (hQ : ¬ LetsOut Q) (hT : mkT P l.toArray C (fun a' w'=>wpAnyIn (Fence.wide.inRound lp) np P .any l.toArray Q g (headAll m.length l.toArray.size) a' w') zs.length zs A w) : (Code.region id l.toArray true).wpIn (Fence.wide.inRound lp) np P Q a w:=by
 have F:=flowE_of hB
 have hzs : idxB false 0 m = zs:=by
  simp only [flowEB,Bool.and_eq_true,decide_eq_true_eq] at hB
  exact hB.2.2.2.2.2.2.2
 have hd0 : Below w.heap.size w { w with drawn:=w.drawn + 1 }:=(Below.refl _ _).drew
 refine wpIn_region_any hm ?_
 have hr:=runQ_of (P:=P) (A:=A) w hC m l 0 a (fun j=>by simp) (by omega) hd hq
 have inv0 : HeadInv .any l.toArray m.length (Array.replicate l.toArray.size false):=
  ⟨by simp,fun j oj _ hl=>(by rw [getD_replicate_false] at hl; cases hl),fun t _ ht=>getD_in (by simpa using ht) (getD_replicate_false _ _)⟩
 have hlen:=idx_len m 0
 rw [hzs] at hlen
 have H:=flowE_any (P:=P) (Q:=Q) (C:=C) F (G:=fun k b a' w'=>wpAnyIn (Fence.wide.inRound lp) np P .any l.toArray Q (k + g) b a' w')
  (fun b a' w' inv hall hT'=>by
   have hb:=headAll_of inv hall
   simp only [Nat.zero_add]
   rw [hb]
   exact hT' w' (Below.refl _ _))
  (fun k b a' w' hne h=>by
   simp only [show k + 1 + g = (k + g) + 1 by omega]
   exact ⟨fun h0=>absurd h0 hne,fun i hi=>wpOp_in hdf hQ (fun _ _ h=>h) (h i hi)⟩)
  ((idxB true 0 m).length + zs.length) (idxB true 0 m) zs (Array.replicate l.toArray.size false) a A { w with drawn:=w.drawn + 1 } rfl inv0 (idx_pair true m 0)
  (fun j hj=>by
   have h1:=((mem_idx m 0).1 hj).2
   rw [Nat.sub_zero] at h1
   refine ⟨(List.getElem?_eq_some_iff.1 h1).1,fun h2=>?_⟩
   rw [<- hzs,mem_idx,Nat.sub_zero,h1] at h2
   simp at h2)
  (by rw [<- hzs]; exact (idx_pair false m 0).imp Nat.ne_of_lt) (fun j hj=>hj)
  (fun j hj=>by
   have h1 : (Array.replicate l.toArray.size false).getD j true = false:=getD_in (by simp; omega) (getD_replicate_false _ _)
   rw [h1,<- hzs,mem_idx,mem_idx,Nat.sub_zero]
   have hv : m[j]? = some m[j]:=List.getElem?_eq_getElem hj
   rw [hv]
   cases m[j] <;> simp)
  hr (fun w2 h2=>hC w2 (hd0.trans (h2.mono hd0.size))) (mkT.up hT hd0)
 rw [hlen,show m.length + g = l.toArray.size by simpa using hg] at H
 exact H
theorem wp_region_flowE2 {P : Program} {C : World -> Prop} {id : Nat} {Q : Exit -> Act -> World -> Prop} {a : Act} {w : World} {l : List Oper} (m : List Bool) (zs : List Nat) (g : Nat) (hm : P.follows .mixedOrders = true) (hB : flowEB l.toArray m zs = true) (hg : m.length + g = l.length)
  (hd : dstsOK a.tmps.size (pickB true m l) = true) (hC : ∀ w1,Below w.heap.size w w1 -> C w1) (A : Act)
  (hq : ∀ S,Grows S -> (∀ w,S w -> C w) -> Nonempty (UpsC S) -> wpQuiet P l.toArray (fun w'=>∃ u : UpsC S,w' = u.wld) (fun a'=>a' = A) (pickB true m l) a)
  (hT : mkT P l.toArray C (fun a' w'=>wpAny P .any l.toArray Q g (headAll m.length l.toArray.size) a' w') zs.length zs A w) : (Code.region id l.toArray true).wp P Q a w:=by
 have F:=flowE_of hB
 have hzs : idxB false 0 m = zs:=by
  simp only [flowEB,Bool.and_eq_true,decide_eq_true_eq] at hB
  exact hB.2.2.2.2.2.2.2
 have hd0 : Below w.heap.size w { w with drawn:=w.drawn + 1 }:=(Below.refl _ _).drew
 refine wp_region_any hm ?_
 have hr:=runQ_of (P:=P) (A:=A) w hC m l 0 a (fun j=>by simp) (by omega) hd hq
 have inv0 : HeadInv .any l.toArray m.length (Array.replicate l.toArray.size false):=
  ⟨by simp,fun j oj _ hl=>(by rw [getD_replicate_false] at hl; cases hl),fun t _ ht=>getD_in (by simpa using ht) (getD_replicate_false _ _)⟩
 have hlen:=idx_len m 0
 rw [hzs] at hlen
 have H:=flowE_any (P:=P) (Q:=Q) (C:=C) F (G:=fun k b a' w'=>wpAny P .any l.toArray Q (k + g) b a' w')
  (fun b a' w' inv hall hT'=>by
   have hb:=headAll_of inv hall
   simp only [Nat.zero_add]
   rw [hb]
   exact hT' w' (Below.refl _ _))
  (fun k b a' w' hne h=>by
   simp only [show k + 1 + g = (k + g) + 1 by omega]
   exact ⟨fun h0=>absurd h0 hne,h⟩)
  ((idxB true 0 m).length + zs.length) (idxB true 0 m) zs (Array.replicate l.toArray.size false) a A { w with drawn:=w.drawn + 1 } rfl inv0 (idx_pair true m 0)
  (fun j hj=>by
   have h1:=((mem_idx m 0).1 hj).2
   rw [Nat.sub_zero] at h1
   refine ⟨(List.getElem?_eq_some_iff.1 h1).1,fun h2=>?_⟩
   rw [<- hzs,mem_idx,Nat.sub_zero,h1] at h2
   simp at h2)
  (by rw [<- hzs]; exact (idx_pair false m 0).imp Nat.ne_of_lt) (fun j hj=>hj)
  (fun j hj=>by
   have h1 : (Array.replicate l.toArray.size false).getD j true = false:=getD_in (by simp; omega) (getD_replicate_false _ _)
   rw [h1,<- hzs,mem_idx,mem_idx,Nat.sub_zero]
   have hv : m[j]? = some m[j]:=List.getElem?_eq_getElem hj
   rw [hv]
   cases m[j] <;> simp)
  hr (fun w2 h2=>hC w2 (hd0.trans (h2.mono hd0.size))) (mkT.up hT hd0)
 rw [hlen,show m.length + g = l.toArray.size by simpa using hg] at H
 exact H
theorem any_pick {g : Nat} {P : Program} {ops : Array Oper} {Q : Exit -> Act -> World -> Prop} {b : Array Bool} {a : Act} {w : World} (is : List Nat) (h : Region.ready .any ops b = is) (hne : is ≠ [])
  (hi : ∀ i ∈ is,wpOp P ops Q i (wpAny P .any ops Q g (b.setIfInBounds i true)) a w) : wpAny P .any ops Q (g + 1) b a w:=
 ⟨fun h0=>absurd (h.symm.trans h0) hne,fun i hi'=>hi i (by rw [<- h]; exact hi')⟩
theorem any_done {P : Program} {ops : Array Oper} {Q : Exit -> Act -> World -> Prop} {b : Array Bool} {a : Act} {w : World} (h : Region.ready .any ops b = []) (hQ : Q .normal a w) : wpAny P .any ops Q 0 b a w:=⟨h,hQ⟩
theorem op_list {P : Program} {ops : Array Oper} {Q : Exit -> Act -> World -> Prop} {K : Act -> World -> Prop} {i : Nat} {a : Act} {w : World} {o : Oper} (hi : ops[i]? = some o) (hg : o.guard = none)
  (h : ∀ Q' : Exit -> Act -> World -> Prop,(∀ a' w',a'.defers = a.defers -> K a' w' -> Q' .normal a' w') -> wpList P ops Q' [o] a w) : wpOp P ops Q i K a w:=by
 have hw : Region.wanted o (yielded ops a.tmps) = true:=by unfold Region.wanted; rw [hg]
 unfold wpOp
 simp only [hi]
 rw [if_pos hw]
 exact .inl ((made_of (K:=K) hg h).wp fun v w' h=>h)
end
end Go.Proofs.YteclineblddpbaaGreatDoorR
