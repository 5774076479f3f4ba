import Derived.Test.YteclineblddpbaaGreatDoorRC01
import Derived.Test.YteclineblddpbaaGreatDoorRC04
import Derived.Test.YteclineblddpbaaGreatDoorRC11
import Derived.Test.YteclineblddpbaaGreatDoorRC18
import Derived.Test.YteclineblddpbaaGreatDoorRC33
import Derived.Test.YteclineblddpbaaGreatDoorRC38
import Derived.Test.YteclineblddpbaaGreatDoorRC39
import Derived.Test.YteclineblddpbaaGreatDoorRRows
import Derived.ProofKit
import Derived.OpenShut
import Derived.LaidMore
import Derived.Lay
import Derived.Stop.Joined
import Derived.Stop.LaidErr
import Derived.Deep.Slices
import Derived.ChangeSlices
import Derived.Below
import Derived.HandedShaped
import Derived.Shelf.Vars
import Derived.SizedLaws
set_option linter.all false
set_option maxRecDepth 100000
set_option maxHeartbeats 0
namespace Go.Proofs.YteclineblddpbaaGreatDoorR
section
theorem exC_rule : (gramR 3).length = 17 /\ ((gramR 3).getD 1 PRule.zero).left = 1 /\ ((gramR 3).getD 1 PRule.zero).right.length = 2 /\ (((gramR 3).getD 1 PRule.zero).right.getD 0 PItem.zero).cls = 0 /\ (((gramR 3).getD 1 PRule.zero).right.getD 0 PItem.zero).sym = 3 /\ (((gramR 3).getD 1 PRule.zero).right.getD 1 PItem.zero).cls = 1 /\ (((gramR 3).getD 1 PRule.zero).right.getD 1 PItem.zero).sym = 0:=by
 rw [gramR_list]
 decide +kernel
theorem exC_parts : (gramP 3).length = 17 /\ (gramP 3).getD 1 [] = [0,1]:=by
 rw [gramP,gramL_list]
 decide +kernel
theorem ex_reads_len : exReads.length = 8:=by
 unfold exReads exRead
 rw [exTrees_eq,gramR1,gramP1]
 decide +kernel
def stJohn : ByteArray:=⟨#[83,84,32,74,79,72,78]⟩
def saintJohn : ByteArray:=⟨#[83,65,73,78,84,32,74,79,72,78]⟩
theorem ex_name : nameP stJohn = (saintJohn,true):=by decide +kernel
def exO1 : List ByteArray:=[⟨#[49,32,49,50]⟩,⟨#[51,32,78,79,82,84,72]⟩,⟨#[52,32,77,65,73,78]⟩,⟨#[53,32,83,84,82,69,69,84]⟩,⟨#[56,32,83,80,82,73,78,71,70,73,69,76,68]⟩,⟨#[57,32,73,76]⟩,⟨#[49,48,32,49,50,51,52,53]⟩]
def exO3 : List ByteArray:=[⟨#[55,32,53]⟩,⟨#[56,32,66,69,82,78]⟩,⟨#[49,48,32,51,48,48,48]⟩]
def exO2 : List ByteArray:=[⟨#[49,32,49,50]⟩,⟨#[50,32,66]⟩,⟨#[52,32,77,65,73,78]⟩,⟨#[54,32,51]⟩,⟨#[49,48,32,75,49,65,48,66,49]⟩]
def exL3 : List ByteArray:=[⟨#[66,79,88,32,53]⟩,⟨#[51,48,48,48,32,66,69,82,78]⟩]
def exL2 : List ByteArray:=[⟨#[85,78,73,84,32,51]⟩,⟨#[49,50,66,32,77,65,73,78]⟩,⟨#[75,49,65,48,66,49]⟩]
theorem exO_kd : (exO1 ++ exO2 ++ exO3).all kdB = true:=by decide +kernel
theorem exO1_has : hasP1 exReads 1 (exO1.map ofP) = true:=by
 unfold exReads exRead
 rw [exTrees_eq,gramR1,gramP1]
 decide +kernel
theorem exO_plain : ((exO2 ++ exO3).map ofP).all (fun p=>decide (p.text.size <= 60) && decide (0 <= p.kind) && decide (p.kind <= 255)) = true:=by decide +kernel
theorem exO3_lines : linesP 3 (exO3.map ofP) = (exL3,0):=by decide +kernel
theorem exO2_lines : linesP 2 (exO2.map ofP) = (exL2,0):=by decide +kernel
theorem ex_psize : exReads.all (fun x=>decide (x.2.length <= 100)) = true:=by
 unfold exReads exRead
 rw [exTrees_eq,gramR1,gramP1]
 decide +kernel
end
section
open Go Go.RowKit Go.Maps
theorem texts_new (W : World) (ls : List ByteArray) (cs : Array Value) (hcs : cs = (ls.map Value.string).toArray) (hl : ls.length <= 1000) : TextsO (fun _=>False) (W.alloc (.cells cs 9)) (.slice (some ⟨W.heap.size,0,none⟩) ls.length ls.length) ls:=by
 refine ⟨_,_,rfl,lQ _,by unfold maxLen; omega,fun _=>⟨W.heap.size,0,rfl,by simp,fun h=>h,fun i hi=>?_⟩⟩
 show (W.alloc (.cells cs 9)).cell? ⟨W.heap.size,0 + i,none⟩ = _
 rw [Nat.zero_add,(Blk.new W 9 cs).cell i,hcs,List.getElem?_toArray,List.getElem?_map,List.getElem?_eq_getElem hi,getD_at _ _ _ hi]
 rfl
theorem bytes_new (W : World) (ls : List Nat) (cs : Array Value) (hcs : cs = (ls.map fun n : Nat=>Value.int .u8 (n : Int)).toArray) (hl : ls.length <= 1000) : BytesP (fun _=>True) (W.alloc (.cells cs 5)) (.slice (some ⟨W.heap.size,0,none⟩) ls.length ls.length) ls:=by
 refine ⟨_,_,rfl,lQ _,by unfold maxLen; omega,fun _=>⟨W.heap.size,0,rfl,by simp,trivial,fun i hi=>?_⟩⟩
 show (W.alloc (.cells cs 5)).cell? ⟨W.heap.size,0 + i,none⟩ = _
 rw [Nat.zero_add,(Blk.new W 5 cs).cell i,hcs,List.getElem?_toArray,List.getElem?_map,List.getElem?_eq_getElem hi,getD_at _ _ _ hi]
 rfl
theorem ex_lines : ∀ x ∈ exL,x.size <= 60 /\ x ≠ ⟨#[]⟩ /\ foldOf x = x:=fun x hx=>by
 have:=List.all_eq_true.1 ex_fold x hx
 simp only [Bool.and_eq_true,decide_eq_true_eq] at this
 exact ⟨this.1.1,this.1.2,this.2⟩
theorem ex_sm : ∀ x ∈ exT,x.text.size <= 60 /\ 0 <= x.cls /\ x.cls < 65536 /\ (x.cls.toNat &&& 2 = 0 \/ 0 < x.text.size):=fun x hx=>by
 have:=List.all_eq_true.1 ex_small x hx
 simp only [Bool.and_eq_true,Bool.or_eq_true,decide_eq_true_eq] at this
 exact ⟨this.1.1.1,this.1.1.2,this.1.2,this.2⟩
theorem ex_small1 : ∀ x ∈ exT,x.text.size <= 60 /\ 0 <= x.cls /\ x.cls < 65536:=fun x hx=>⟨(ex_sm x hx).1,(ex_sm x hx).2.1,(ex_sm x hx).2.2.1⟩
theorem ex_small2 : ∀ x ∈ exT,x.cls.toNat &&& 2 ≠ 0 -> 0 < x.text.size:=fun x hx h=>(ex_sm x hx).2.2.2.resolve_left h
theorem exT_len : exT.length = exK.length:=by unfold exK; rw [List.length_map]
theorem ex_len40 : exT.length <= 40:=by rw [exT_len,exK_eq]; decide
theorem treesC_ex : treesC 1 exT = exTrees:=by
 unfold treesC exTrees
 rw [exT_len]
 rfl
theorem ex_treeOK : ∀ t ∈ treesC 1 exT,treeOK 1 exT t:=fun t ht=>by
 rw [treesC_ex] at ht
 have h1:=List.all_eq_true.1 ex_trees t ht
 unfold treeOK
 rw [exT_len]
 exact h1
theorem ex_readsT : (treesC 1 exT).flatMap (readsT 1 exT 3) = exReads:=by
 rw [treesC_ex]
 rfl
theorem exO_kds : ∀ s ∈ exO1 ++ exO2 ++ exO3,kdB s = true:=List.all_eq_true.1 exO_kd
theorem exO1_kd : ∀ s ∈ exO1,kdB s = true:=fun s h=>exO_kds s (List.mem_append_left _ (List.mem_append_left _ h))
theorem exO2_kd : ∀ s ∈ exO2,kdB s = true:=fun s h=>exO_kds s (List.mem_append_left _ (List.mem_append_right _ h))
theorem exO3_kd : ∀ s ∈ exO3,kdB s = true:=fun s h=>exO_kds s (List.mem_append_right _ h)
theorem exO_pl : ∀ p ∈ (exO2 ++ exO3).map ofP,p.text.size <= 1000000 /\ 0 <= p.kind /\ p.kind <= 255:=fun p hp=>by
 have:=List.all_eq_true.1 exO_plain p hp
 simp only [Bool.and_eq_true,decide_eq_true_eq] at this
 exact ⟨Nat.le_trans this.1.1 (by decide),this.1.2,this.2⟩
theorem exO2_plain : ∀ p ∈ exO2.map ofP,p.text.size <= 1000000 /\ 0 <= p.kind /\ p.kind <= 255:=fun p hp=>exO_pl p (by rw [List.map_append]; exact List.mem_append_left _ hp)
theorem exO3_plain : ∀ p ∈ exO3.map ofP,p.text.size <= 1000000 /\ 0 <= p.kind /\ p.kind <= 255:=fun p hp=>exO_pl p (by rw [List.map_append]; exact List.mem_append_right _ hp)
theorem awake14 (w : World) (hml : MaxL w) (h00 : 0 < w.heap.size) : Calls Tryz.prog 14 #[] w fun e w'=>e = .returned (.bool true) /\ Below w.heap.size w w':=by
 have hof:=Hd (of_any 3 w (by decide))
 replace hml:=Hd hml
 go_enter Tryz.func14,Tryz.ntmps14
 go_wp2_with fail
 refine hof.out.mono ?_
 rintro e W2 ⟨v2,rs,ps,rfl,⟨rv,pv,rfl,hgr⟩,hrs,hps,hb2⟩
 clear hof
 have hr17 : rs.length = 17:=by have:=congrArg List.length hrs; rw [List.length_map,exC_rule.1] at this; exact this
 have hp17 : ps.length = 17:=by have:=congrArg List.length hps; rw [List.length_map,exC_parts.1] at this; exact this
 obtain ⟨Ar,cr,hrv⟩:=hgr.own.form_
 obtain ⟨Ap,cp,hpv⟩:=hgr.ownp.form_
 rw [hr17] at hrv
 rw [hp17] at hpv
 subst hrv
 subst hpv
 obtain ⟨W3,hW3⟩ : ∃ W3,W3 = W2.alloc (.cells #[.slice Ar 17 cr,.slice Ap 17 cp] 56):=⟨_,rfl⟩
 have hb3 : Below W2.heap.size W2 W3:=by rw [hW3]; exact (Below.refl _ _).alloc (lQ _) _
 have kG:=Blk.new W2 56 #[.slice Ar 17 cr,.slice Ap 17 cp]
 rw [<- hW3] at kG
 have g0:=kG.cell 0
 have g1:=kG.cell 1
 have gl:=kG.lt
 simp at g0 g1
 go_upto_region 2 with fail
 rw [<- hW3]
 have hb23:=hb2.trans (hb3.mono hb2.size)
 have h1 : GramAt w.heap.size W3 (.slice Ar 17 cr) (.slice Ap 17 cp) rs ps:=hgr.keep ⟨hb3.size,fun b hb _=>hb3.block b hb⟩
 have hRP:=(h1.rulesP (P:=fun b=>w.heap.size <= b) fun b hb=>hb).lt
 have hPP:=(h1.parts (P:=fun b=>w.heap.size <= b) fun b hb=>hb).lt
 rw [hrs] at hRP
 rw [hps] at hPP
 clear h1 hgr hrs hps hr17 hp17 hb2 hb3 kG
 replace hW3:=Hd hW3
 obtain ⟨A1,c1,e1,-,-,hA1⟩:=hRP
 obtain ⟨rfl,-,rfl⟩:=Value.slice.inj e1
 obtain ⟨b1,o1,rfl,hb1,-,hi1⟩:=hA1 (by rw [exC_rule.1]; decide)
 obtain ⟨r0,iv,r1,hit⟩:=hi1 1 (by rw [exC_rule.1]; decide)
 clear hi1 hA1 e1
 obtain ⟨A2,c2,e2,-,-,hA2⟩:=hPP
 obtain ⟨rfl,-,rfl⟩:=Value.slice.inj e2
 obtain ⟨b2,o2,rfl,hb2,-,hi2⟩:=hA2 (by rw [exC_parts.1]; decide)
 obtain ⟨bv,p1,hby⟩:=hi2 1 (by rw [exC_parts.1]; decide)
 clear hi2 hA2 e2
 rw [exC_parts.2] at hby
 have hR:=exC_rule.2
 generalize (gramR 3).getD 1 PRule.zero = r3 at *
 obtain ⟨rl,rr⟩:=r3
 obtain ⟨hr1,hr2,hr3,hr4,hr5,hr6⟩:=hR
 simp only at r0 hit hr1 hr2 hr3 hr4 hr5 hr6
 obtain ⟨A3,c3,rfl,-,-,hA3⟩:=hit
 obtain ⟨b3,o3,rfl,hb3,-,hi3⟩:=hA3 (by omega)
 have i0:=(hi3 0 (by omega)).c0
 have i1:=(hi3 0 (by omega)).c1
 have i2:=(hi3 1 (by omega)).c0
 have i3:=(hi3 1 (by omega)).c1
 rw [hr3] at i0
 rw [hr4] at i1
 rw [hr5] at i2
 rw [hr6] at i3
 rw [hr1] at r0
 rw [hr2] at r1
 clear hi3 hA3 hr1 hr2 hr3 hr4 hr5 hr6 rr rl
 simp at r0 r1 p1 i0 i1 i2 i3
 have hby':=Hd hby
 clear hby
 obtain ⟨A4,c4,rfl,-⟩:=hby'.out
 have hb34:=Hd (hb23.alloc hb23.size (.cells #[.int .u8 0,.int .u8 1] 5))
 have hsb:=Hd (same_bytes (.slice A4 2 c4) (.slice (some ⟨W3.heap.size,0,none⟩) 2 2) [0,1] (W3.alloc (.cells #[.int .u8 0,.int .u8 1] 5)) (BytesP.keep hby'.out (by simp) (fun b o v hp hc=>(((Below.refl W3.heap.size W3).alloc (lQ _) _).cell (p:=⟨b,o,none⟩) hp).trans hc) fun _ _ _=>trivial) (bytes_new W3 [0,1] _ rfl (by decide)) (by decide))
 have hb23':=Hd hb23
 clear hb23
 go_wp2_with fail
 refine hsb.out.mono ?_
 rintro e W5 ⟨rfl,hb5⟩
 have h5:=Hd (hb34.out.trans (hb5.mono hb34.out.size))
 clear hsb hb5 hb34 hb23' g0 g1 r0 r1 p1 i0 i1 i2 i3 hb1 hb2 hb3 gl hby'
 replace hW3:=hW3
 have h6:=Hd (h5.out.alloc h5.out.size (.cells #[.string ⟨#[49,50,32,78,32,77,65,73,78,32,83,84]⟩,.string ⟨#[83,80,82,73,78,71,70,73,69,76,68,32,73,76,32,49,50,51,52,53]⟩] 9))
 have hst:=Hd (stream41 (.slice (some ⟨W5.heap.size,0,none⟩) 2 2) exL (W5.alloc (.cells #[.string ⟨#[49,50,32,78,32,77,65,73,78,32,83,84]⟩,.string ⟨#[83,80,82,73,78,71,70,73,69,76,68,32,73,76,32,49,50,51,52,53]⟩] 9)) (texts_new W5 exL _ rfl (by decide)) (by decide) ex_lines (by rw [ex_toks]; decide) (hml.out.below h6.out) (by have:=h6.out.size; omega))
 go_wp2_with fail
 refine hst.out.mono ?_
 rintro e W7 ⟨v7,rfl,ho7,hb7⟩
 clear hst
 obtain ⟨A7,c7,rfl⟩:=ho7.form_
 have h7:=Hd (h6.out.trans (hb7.mono h6.out.size))
 have hrd:=Hd (readings25 1 _ exT W7 (by decide) ho7.toks ex_len40 ex_small1 ex_right ex_small2 (hml.out.below h7.out) (by have:=h7.out.size; omega) ex_treeOK)
 clear ho7 hb7 h6 h5
 go_wp2_with fail
 refine hrd.out.mono ?_
 rintro e W8 ⟨v8,m8,rfl,ho8,hm8,hb8⟩
 clear hrd
 have h8:=Hd (h7.out.trans (hb8.mono h7.out.size))
 have hO8:=Hd (ho8.base rdIn_inner h7.out.size)
 have hm8' : Hid (m8.map MRead.read = exReads):=Hd (hm8.trans ex_readsT)
 have hl8 : m8.length = 8:=by have:=congrArg List.length hm8'.out; rw [List.length_map,ex_reads_len] at this; exact this
 obtain ⟨A8,c8,hv8⟩:=ho8.form_
 rw [hl8] at hv8
 subst hv8
 replace hl8:=Hd hl8
 clear ho8 hm8 hb8 h7
 have hnm:=Hd (name_of stJohn W8 (by decide))
 rw [ex_name] at hnm
 unfold saintJohn at hnm
 go_wp2_with fail
 refine hnm.out.mono ?_
 rintro e W9 ⟨rfl,hb9⟩
 clear hnm
 have h9:=Hd (h8.out.trans (hb9.mono h8.out.size))
 have hO9:=Hd (hO8.out.keep rdIn_inner (Keeps.of_below hb9 _))
 clear hO8 hb9 h8
 have h10:=Hd (h9.out.alloc h9.out.size (.cells #[.string ⟨#[55,32,53]⟩,.string ⟨#[56,32,66,69,82,78]⟩,.string ⟨#[49,48,32,51,48,48,48]⟩] 9))
 have hof3:=Hd (of37 3 (.slice (some ⟨W9.heap.size,0,none⟩) 3 3) exO3 (W9.alloc (.cells #[.string ⟨#[55,32,53]⟩,.string ⟨#[56,32,66,69,82,78]⟩,.string ⟨#[49,48,32,51,48,48,48]⟩] 9)) (texts_new W9 exO3 _ rfl (by decide)) exO3_kd (by decide))
 go_wp2_with fail
 refine hof3.out.mono ?_
 rintro e W11 ⟨pv,rfl,hp11,hb11⟩
 clear hof3
 obtain ⟨Ap1,cp1,rfl⟩:=hp11.form_
 have h11:=Hd (h10.out.trans (hb11.mono h10.out.size))
 have hO11:=Hd (hO9.out.keep rdIn_inner (Keeps.of_below (((Below.refl _ W9).alloc (lQ _) _).trans (hb11.mono (by simp))) _))
 have hln:=Hd (lines23 3 _ _ W11 (rdIn_parts (m:=⟨3,_,_⟩) (hp11.rdIn_ (P:=fun _=>True) (fun b _=>trivial) 3)) exO3_plain)
 rw [exO3_lines] at hln
 clear hp11 hb11 h10 hO9 h9
 go_wp2_with fail
 refine hln.out.mono ?_
 rintro e W12 ⟨lv3,rfl,hq12,hb12⟩
 clear hln
 have h12:=Hd (h11.out.trans (hb12.mono h11.out.size))
 have hO12:=Hd (hO11.out.keep rdIn_inner (Keeps.of_below hb12 _))
 have hT12:=Hd (hq12.base strIn_inner h11.out.size)
 obtain ⟨A12,c12,rfl⟩:=hq12.form_
 clear hq12 hb12 h11 hO11
 have hof2:=Hd (of37 2 (.slice (some ⟨W12.heap.size,0,none⟩) 5 5) exO2 (W12.alloc (.cells #[.string ⟨#[49,32,49,50]⟩,.string ⟨#[50,32,66]⟩,.string ⟨#[52,32,77,65,73,78]⟩,.string ⟨#[54,32,51]⟩,.string ⟨#[49,48,32,75,49,65,48,66,49]⟩] 9)) (texts_new W12 exO2 _ rfl (by decide)) exO2_kd (by decide))
 go_wp2_with fail
 refine hof2.out.mono ?_
 rintro e W13 ⟨pv,rfl,hp13,hb13⟩
 clear hof2
 obtain ⟨Ap2,cp2,rfl⟩:=hp13.form_
 have hb13':=((Below.refl _ W12).alloc (lQ _) _).trans (hb13.mono (by simp))
 have h13:=Hd (h12.out.trans (hb13'.mono h12.out.size))
 have hO13:=Hd (hO12.out.keep rdIn_inner (Keeps.of_below hb13' _))
 have hT13:=Hd (hT12.out.keep strIn_inner (Keeps.of_below hb13' _))
 have hln:=Hd (lines23 2 _ _ W13 (rdIn_parts (m:=⟨2,_,_⟩) (hp13.rdIn_ (P:=fun _=>True) (fun b _=>trivial) 2)) exO2_plain)
 rw [exO2_lines] at hln
 clear hp13 hb13 hb13' h12 hO12 hT12
 go_wp2_with fail
 refine hln.out.mono ?_
 rintro e W14 ⟨lv2,rfl,hq14,hb14⟩
 clear hln
 have h14:=Hd (h13.out.trans (hb14.mono h13.out.size))
 have hO14:=Hd (hO13.out.keep rdIn_inner (Keeps.of_below hb14 _))
 have hT14:=Hd (hT13.out.keep strIn_inner (Keeps.of_below hb14 _))
 have hU14:=Hd (hq14.base strIn_inner h13.out.size)
 obtain ⟨A14,c14,rfl⟩:=hq14.form_
 clear hq14 hb14 h13 hO13 hT13
 have hof1:=Hd (of37 1 (.slice (some ⟨W14.heap.size,0,none⟩) 7 7) exO1 (W14.alloc (.cells #[.string ⟨#[49,32,49,50]⟩,.string ⟨#[51,32,78,79,82,84,72]⟩,.string ⟨#[52,32,77,65,73,78]⟩,.string ⟨#[53,32,83,84,82,69,69,84]⟩,.string ⟨#[56,32,83,80,82,73,78,71,70,73,69,76,68]⟩,.string ⟨#[57,32,73,76]⟩,.string ⟨#[49,48,32,49,50,51,52,53]⟩] 9)) (texts_new W14 exO1 _ rfl (by decide)) exO1_kd (by decide))
 go_wp2_with fail
 refine hof1.out.mono ?_
 rintro e W15 ⟨pv,rfl,hp15,hb15⟩
 clear hof1
 obtain ⟨Ap3,cp3,rfl⟩:=hp15.form_
 have hb15':=((Below.refl _ W14).alloc (lQ _) _).trans (hb15.mono (by simp))
 have h15:=Hd (h14.out.trans (hb15'.mono h14.out.size))
 have hO15:=hO14.out.keep rdIn_inner (Keeps.of_below hb15' _)
 have hT15:=Hd (hT14.out.keep strIn_inner (Keeps.of_below hb15' _))
 have hU15:=Hd (hU14.out.keep strIn_inner (Keeps.of_below hb15' _))
 have hR15:=OwnReads.reads hO15
 rw [hm8'.out] at hR15
 have hhas:=Hd (has24 _ _ exReads 1 (exO1.map ofP) W15 hR15 (rdIn_parts (m:=⟨1,_,_⟩) (hp15.rdIn_ (P:=fun _=>True) (fun b _=>trivial) 1)) (by rw [ex_reads_len]; decide) (fun x hx=>by
  have:=List.all_eq_true.1 ex_psize x hx
  simp only [decide_eq_true_eq] at this
  omega))
 rw [exO1_has] at hhas
 clear hR15 hO15 hp15 hb15 hb15' h14 hO14 hT14 hU14 hm8'
 go_wp2_with fail
 refine hhas.out.mono ?_
 rintro e W16 ⟨rfl,hb16⟩
 clear hhas
 have h16:=Hd (h15.out.trans (hb16.mono h15.out.size))
 have hT16:=Hd (hT15.out.keep strIn_inner (Keeps.of_below hb16 _))
 have hU16:=Hd (hU15.out.keep strIn_inner (Keeps.of_below hb16 _))
 clear hb16 h15 hT15 hU15
 have hbx:=((Below.refl _ W16).alloc (lQ _) (.cells #[.string ⟨#[66,79,88,32,53]⟩,.string ⟨#[51,48,48,48,32,66,69,82,78]⟩] 9))
 have hT17:=hT16.out.keep strIn_inner (Keeps.of_below hbx _)
 have hs3:=Hd (same_texts (.slice A12 2 c12) (.slice (some ⟨W16.heap.size,0,none⟩) 2 2) exL3 (W16.alloc (.cells #[.string ⟨#[66,79,88,32,53]⟩,.string ⟨#[51,48,48,48,32,66,69,82,78]⟩] 9)) (OwnStrs.textsO hT17 (fun _ h=>h.elim)) (texts_new W16 exL3 _ rfl (by decide)) (by decide))
 have hbx':=Hd hbx
 clear hbx hT17
 go_wp2_with fail
 refine hs3.out.mono ?_
 rintro e W18 ⟨rfl,hb18⟩
 clear hs3
 have hb18':=hbx'.out.trans (hb18.mono hbx'.out.size)
 have h18:=Hd (h16.out.trans (hb18'.mono h16.out.size))
 have hU18:=Hd (hU16.out.keep strIn_inner (Keeps.of_below hb18' _))
 clear hb18 hb18' hbx' h16 hU16 hT16
 have hbx:=((Below.refl _ W18).alloc (lQ _) (.cells #[.string ⟨#[85,78,73,84,32,51]⟩,.string ⟨#[49,50,66,32,77,65,73,78]⟩,.string ⟨#[75,49,65,48,66,49]⟩] 9))
 have hU19:=hU18.out.keep strIn_inner (Keeps.of_below hbx _)
 have hs2:=Hd (same_texts (.slice A14 3 c14) (.slice (some ⟨W18.heap.size,0,none⟩) 3 3) exL2 (W18.alloc (.cells #[.string ⟨#[85,78,73,84,32,51]⟩,.string ⟨#[49,50,66,32,77,65,73,78]⟩,.string ⟨#[75,49,65,48,66,49]⟩] 9)) (OwnStrs.textsO hU19 (fun _ h=>h.elim)) (texts_new W18 exL2 _ rfl (by decide)) (by decide))
 have hbx':=Hd hbx
 clear hbx hU19
 go_wp2_with fail
 refine hs2.out.mono ?_
 rintro e W20 ⟨rfl,hb20⟩
 clear hs2
 have h20:=Hd (h18.out.trans ((hbx'.out.trans (hb20.mono hbx'.out.size)).mono h18.out.size))
 go_wp2_with fail
 go_ret
 exact ⟨rfl,h20.out⟩
end
section
open Go.ChangeShapes Go.WideShapes Go.ChangeAt Go.RowKit Go.Deep
theorem own_knob : ownKnob Tryz.prog.godebug = none:=by kernel_rfl
theorem laid_out : laidOutB Tryz.prog = true:=by kernel_rfl
theorem kc3 : Tryz.prog.cellsOf 3 = 1:=by kernel_rfl
theorem kc5 : Tryz.prog.cellsOf 5 = 1:=by kernel_rfl
theorem kc9 : Tryz.prog.cellsOf 9 = 1:=by kernel_rfl
theorem kc37 : Tryz.prog.cellsOf 37 = 1:=by kernel_rfl
theorem kc39 : Tryz.prog.cellsOf 39 = 4:=by kernel_rfl
theorem max_of_shaped {W : World} (h : W.ShapedOpen Tryz.prog) : MaxL W:=
 cell_of_shapedOpen_int (P:=Tryz.prog) (g:=0) (t:=3) (zero:=#[.int .i64 0]) h (of_decide_eq_true (by kernel_rfl)) (by kernel_rfl) rfl (by kernel_rfl) (by kernel_rfl) Tryz.underlying3
theorem returnsInHanded_of_change_both {H : Type} {enc : TypeId × Value -> H} {a : Assume} {C : Checked} {os : Os} {f : FuncId} {fn : Func} {s : ChangeSpec} {conds : List PathCond} {apart fresh handsOn again : Bool} {X : World -> Array Value -> Prop}
  (hX : ∀ (w w' : World) (args : Array Value),w.heap = w'.heap -> X w args -> X w' args)
  (own : ownKnob C.prog.godebug = none) (started : os.Started) (noInit : C.prog.inits.idxOf? f = none) (hfn : C.prog.funcs[f]? = some fn)
  (witness : ∃ (w : World) (tape : Tape) (i : Input),w.os = os /\ (w.forCall tape i).Shaped C.prog /\ i.vars = [] /\ Input.okWide C.prog (w.forCall tape i) .any w.heap.size f i /\
   ((s.pre enc C.prog fn conds apart (w.forCall tape i).memory i.args /\ X (w.forCall tape i).memory i.args) /\ sizedMet enc C.prog fn (OpenSpec.ofChange s) apart (w.forCall tape i).memory i.args) /\ a.holds C.prog (lone (Frame.enter C.prog f i.args .normal) [] (w.forCall tape i)))
  (contract : ∀ (W : World) (base : Nat) (args : Array Value) (ds gs : List (DataW H)) (before : List MemPlace),
   (∀ (j : Nat) t v,fn.params[j]? = some t -> args[j]? = some v -> Value.okWide C.prog W .any base t v) ->
   DataW.Whole enc C.prog fn.params.toList s.vars apart W args.toList ds gs before ->
   (DataW.weightsEach C.prog (fn.params.toList ++ s.plain.varTypes C.prog) (ds ++ gs)).all (· <= reachBytes) = true -> X W args ->
   W.ShapedOpen C.prog ->
   Calls C.prog f args W fun e W'=>∃ v,e = .returned v /\ s.post enc C.prog fn apart fresh handsOn again W args v W') :
  ReturnsInHanded a C os f .any (fun w args=>(s.pre enc C.prog fn conds apart w args /\ X w args) /\ sizedMet enc C.prog fn (OpenSpec.ofChange s) apart w args) (s.post enc C.prog fn apart fresh handsOn again):=by
 refine returnsInHanded_of_calls own started noInit witness ?_
 intro w tape i _ hsh _ hok hpre hholds
 obtain ⟨_,_,_,fn',hfn',_,_,_,_,hval⟩:=hok
 have e : fn' = fn:=Option.some.inj (hfn'.symm.trans hfn)
 subst e
 obtain ⟨⟨⟨ds,gs,before,hw,hc⟩,hx⟩,hz⟩:=hpre
 have hw':=DataW.Whole.of_heap (w':=w.forCall tape i) (by rfl) hw
 refine (contract (w.forCall tape i) w.heap.size i.args ds gs before hval hw' (hz.weights hw) (hX _ _ _ (by rfl) hx) hsh).mono fun e W' ⟨v,he,hp⟩=>?_
 subst he
 exact ChangeSpec.post_blind hp
theorem weightsAll_mem {H : Type} {P : Program} {e : TypeId} : ∀ {l : List (DataW H)} {d : DataW H},d ∈ l -> ∀ m ∈ d.weights P e,m ∈ DataW.weightsAll P e l
 | x :: l,d,h,m,hm=>by
  simp only [DataW.weightsAll,List.mem_append]
  rcases List.mem_cons.1 h with rfl | h
  ·exact .inl hm
  ·exact .inr (weightsAll_mem h m hm)
section
variable {H : Type} {enc : TypeId × Value -> H} {w : World} {base : Nat} {spare : Nat -> Bool} {held : Bool}
theorem len_4 {α : Type} : ∀ {l : List α},l.length = 4 -> ∃ a b c d,l = [a,b,c,d]
 | [a,b,c,d],_=>⟨a,b,c,d,rfl⟩
theorem trod_four {t : TypeId} {f0 f1 f2 f3 : Field} {fuel : Nat} {cs : List Value} {x : DataW H × List MemPlace} (ht : Tryz.prog.underlying t = some (.struct #[f0,f1,f2,f3])) (o0 : f0.offset = 0) (o1 : f1.offset = 1) (o2 : f2.offset = 2) (o3 : f3.offset = 3)
  (c0 : Tryz.prog.cellsOf f0.type = 1) (c1 : Tryz.prog.cellsOf f1.type = 1) (c2 : Tryz.prog.cellsOf f2.type = 1) (c3 : Tryz.prog.cellsOf f3.type = 1) (hc : Tryz.prog.cellsOf t = 4) (h : DataW.trod enc Tryz.prog w base spare held fuel t cs = some x) :
  ∃ v0 v1 v2 v3 y0 y1 y2 y3 n,cs = [v0,v1,v2,v3] /\ x.1 = .agg [y0.1,y1.1,y2.1,y3.1] /\ DataW.trod enc Tryz.prog w base spare held n f0.type [v0] = some y0 /\ DataW.trod enc Tryz.prog w base spare held n f1.type [v1] = some y1 /\ DataW.trod enc Tryz.prog w base spare held n f2.type [v2] = some y2 /\ DataW.trod enc Tryz.prog w base spare held n f3.type [v3] = some y3:=by
 obtain ⟨xs,n,_,hx,hl,hxl,hf⟩:=DataW.trod_struct ht h
 rw [hc] at hl
 obtain ⟨v0,v1,v2,v3,rfl⟩:=len_4 hl
 obtain ⟨y0,y1,y2,y3,rfl⟩:=len_4 (show xs.length = 4 from hxl)
 have h0:=hf 0 f0 rfl
 have h1:=hf 1 f1 rfl
 have h2:=hf 2 f2 rfl
 have h3:=hf 3 f3 rfl
 rw [o0,c0] at h0
 rw [o1,c1] at h1
 rw [o2,c2] at h2
 rw [o3,c3] at h3
 exact ⟨v0,v1,v2,v3,y0,y1,y2,y3,n,rfl,by rw [hx]; rfl,h0,h1,h2,h3⟩
theorem pick_list {α : Type} (zero : α) (n : Nat) (Q : Nat -> α -> Prop) (h : ∀ i,i < n -> ∃ a,Q i a) : ∃ l : List α,l.length = n /\ ∀ i,i < n -> Q i (l.getD i zero):=by
 refine ⟨(List.range n).map fun i=>if hi : i < n then Classical.choose (h i hi) else zero,by simp,fun i hi=>?_⟩
 rw [List.getD_eq_getElem?_getD,List.getElem?_map,List.getElem?_range hi]
 simp only [Option.map_some,Option.getD_some,dif_pos hi]
 exact Classical.choose_spec (h i hi)
theorem read_rows (R : Nat) {α : Type} {t e : TypeId} {k : Nat} (zero : α) (Q : Nat -> Nat -> α -> Prop) (ht : Tryz.prog.underlying t = some (.slice e)) (hc : Tryz.prog.cellsOf e = k) (hk : 0 < k)
  (hel : ∀ (b o n : Nat) (cs : List Value) (d : DataW H × List MemPlace),(∀ j,j < k -> w.cell? ⟨b,o + j,none⟩ = cs[j]?) -> DataW.trod enc Tryz.prog w base spare held n e cs = some d -> (∀ m ∈ d.1.weights Tryz.prog e,m <= R) -> ∃ a,Q b o a)
  {fuel : Nat} {v : Value} {x : DataW H × List MemPlace} (h : DataW.trod enc Tryz.prog w base spare held fuel t [v] = some x) (hw : ∀ m ∈ x.1.weights Tryz.prog t,m <= R) :
  ∃ l : List α,Sl w v l.length (fun b off i=>Q b (off + i * k) (l.getD i zero)) /\ l.length * Tryz.prog.bytesOf e <= R:=by
 rcases open_slice ht h with ⟨hv,_⟩ | ⟨a,len,cap,m,n,D,Pl,hv,_,hl,hm,hmm,hx,hi⟩
 ·obtain rfl : v = .slice none 0 0:=by simpa using hv
  exact ⟨[],⟨none,0,rfl,lQ _,Nat.zero_le _,fun h=>absurd h (by simp)⟩,(by rw [List.length_nil,Nat.zero_mul]; exact Nat.zero_le _)⟩
 ·obtain rfl : v = .slice (some a) len cap:=by simpa using hv
  have hlm : len <= m:=by rw [hmm]; split <;> omega
  have hwl : len * Tryz.prog.bytesOf e <= R:=by
   have:=hw ((len + (m - len)) * Tryz.prog.bytesOf e) (by rw [hx]; simp [DataW.weights,ht])
   refine Nat.le_trans ?_ this
   exact Nat.mul_le_mul_right _ (by omega)
  have hwi : ∀ i,i < len -> ∀ q ∈ (D i).weights Tryz.prog e,q <= R:=fun i hil q hq=>hw q (by
   rw [hx]
   simp only [DataW.weights,ht,List.mem_cons,List.mem_append]
   exact .inr (.inl (weightsAll_mem (List.mem_map.2 ⟨i,List.mem_range.2 hil,rfl⟩) q hq)))
  rcases Nat.eq_zero_or_pos len with h0 | h0
  ·subst h0
   exact ⟨[],⟨some a,cap,rfl,Nat.zero_le _,hm,fun h=>absurd h (by simp)⟩,(by rw [List.length_nil,Nat.zero_mul]; exact Nat.zero_le _)⟩
  ·obtain ⟨b,off,rfl,hb⟩ : ∃ b off,a = ⟨b,off,none⟩ /\ b < w.heap.size:=by
    obtain ⟨cs',hcs,_⟩:=hi 0 (by omega)
    obtain ⟨_,hcl,hat⟩:=World.cells?_some hcs
    have h1:=hat 0 (by rw [hc]; exact hk)
    have hl0 : 0 < cs'.length:=by rw [hcl,hc]; exact hk
    rw [List.getElem?_eq_getElem hl0] at h1
    have h2 : w.cell? a = some cs'[0]:=by simpa [Addr.add] using h1
    obtain ⟨b,off,spot⟩:=a
    have hspot : spot = none:=by simpa using World.cell?_spot h2
    subst hspot
    exact ⟨b,off,rfl,World.block_lt_of_cell? w _ h2⟩
   obtain ⟨l,hll,hlq⟩:=pick_list zero len (fun i a=>Q b (off + i * k) a) fun i hil=>by
    obtain ⟨cs',hcs,ht'⟩:=hi i (by omega)
    obtain ⟨_,hcl,hat⟩:=World.cells?_some hcs
    refine hel b (off + i * k) n cs' (D i,Pl i) (fun j hj=>?_) ht' (hwi i hil)
    have h1:=hat j (by rw [hc]; exact hj)
    rw [hc,Go.WideShapes.add_plain,Go.WideShapes.add_plain] at h1
    exact h1
   refine ⟨l,⟨some ⟨b,off,none⟩,cap,by rw [hll],by omega,hm,fun _=>⟨b,off,rfl,hb,fun i hil=>hlq i (by omega)⟩⟩,(by rw [hll]; exact hwl)⟩
end
end
section
def stF : Bool -> List UInt8 -> Option Bool
 | p,[]=>some p
 | p,b :: t=>if b.toNat = 32 then (if p = true then none else stF true t) else if plainB b.toNat then stF false t else none
def FoldedL (l : List UInt8) : Prop:=l = [] \/ stF true l = some false
def Folded (s : ByteArray) : Prop:=FoldedL s.data.toList
theorem stF_append : ∀ (l : List UInt8) (p : Bool) (r : List UInt8),stF p (l ++ r) = (stF p l).bind fun q=>stF q r
 | [],p,r=>rfl
 | b :: l,p,r=>by
  rw [List.cons_append,stF,stF]
  by_cases h : b.toNat = 32
  ·rw [if_pos h,if_pos h]
   cases p
   ·rw [if_neg (by decide),if_neg (by decide)]; exact stF_append l true r
   ·rfl
  ·rw [if_neg h,if_neg h]
   by_cases h2 : plainB b.toNat
   ·rw [if_pos h2,if_pos h2]; exact stF_append l false r
   ·rw [if_neg h2,if_neg h2]; rfl
theorem plain_ne {b : Nat} (h : plainB b) : b ≠ 32:=by unfold plainB at h; omega
theorem stF_plain : ∀ (z : List UInt8) (p : Bool),(∀ b ∈ z,plainB b.toNat) -> z ≠ [] -> stF p z = some false
 | [b],p,h,_=>by
  have h1:=h b (List.mem_cons_self ..)
  rw [stF,if_neg (plain_ne h1),if_pos h1]; rfl
 | b :: c :: z,p,h,_=>by
  have h1:=h b (List.mem_cons_self ..)
  rw [stF,if_neg (plain_ne h1),if_pos h1]
  exact stF_plain (c :: z) false (fun x hx=>h x (List.mem_cons_of_mem _ hx)) (by simp)
def AllPlain (s : ByteArray) : Prop:=∀ b ∈ s.data.toList,plainB b.toNat
theorem ite_plain {p : Prop} [Decidable p] {a b : ByteArray} (ha : AllPlain a) (hb : AllPlain b) : AllPlain (if p then a else b):=by
 by_cases h : p
 ·rw [if_pos h]; exact ha
 ·rw [if_neg h]; exact hb
theorem plain_lit (s : ByteArray) (h : (s.data.toList.all fun b=>decide (plainB b.toNat)) = true) : AllPlain s:=fun b hb=>by
 have:=List.all_eq_true.1 h b hb
 simpa using this
theorem lettersQ_plain (c : Nat) : AllPlain (lettersQ c):=ite_plain (plain_lit _ (by decide)) (ite_plain (plain_lit _ (by decide)) (ite_plain (plain_lit _ (by decide)) (ite_plain (plain_lit _ (by decide)) (ite_plain (plain_lit _ (by decide)) (ite_plain (plain_lit _ (by decide)) (ite_plain (plain_lit _ (by decide)) (ite_plain (plain_lit _ (by decide)) (ite_plain (plain_lit _ (by decide)) (ite_plain (plain_lit _ (by decide)) (ite_plain (plain_lit _ (by decide)) (ite_plain (plain_lit _ (by decide)) (ite_plain (plain_lit _ (by decide)) (plain_lit _ (by decide))))))))))))))
theorem lettersP_plain (a b : Nat) : AllPlain (lettersP a b):=ite_plain (ite_plain (plain_lit _ (by decide)) (ite_plain (plain_lit _ (by decide)) (ite_plain (plain_lit _ (by decide)) (plain_lit _ (by decide))))) (ite_plain (ite_plain (plain_lit _ (by decide)) (ite_plain (plain_lit _ (by decide)) (lettersQ_plain _))) (plain_lit _ (by decide)))
theorem byte_list {s : ByteArray} {i : Nat} (h : i < s.size) : s.data.toList[i]? = some (s[i]'h):=by
 rw [Array.getElem?_toList]
 exact Array.getElem?_eq_getElem h
theorem byteAt_list {s : ByteArray} {i : Nat} {b : UInt8} (h : s.data.toList[i]? = some b) : i < s.size /\ byteAt s i = b.toNat:=by
 obtain ⟨hi,rfl⟩:=List.getElem?_eq_some_iff.1 h
 have hi' : i < s.size:=by rw [Lib.size_eq]; exact hi
 refine ⟨hi',?_⟩
 unfold byteAt
 rw [dif_pos hi']
 have:=byte_list hi'
 rw [List.getElem?_eq_getElem hi] at this
 rw [Option.some.inj this]
theorem ext_one {s : ByteArray} {i : Nat} {b : UInt8} (h : s.data.toList[i]? = some b) : (s.extract i (i + 1)).data.toList = [b]:=by
 rw [ByteArray.data_extract,Array.toList_extract]
 have hi:=(byteAt_list h).1
 rw [Lib.size_eq] at hi
 obtain ⟨hi2,rfl⟩:=List.getElem?_eq_some_iff.1 h
 rw [List.extract_eq_take_drop,Nat.add_sub_cancel_left,List.drop_eq_getElem_cons hi2,tS,tZ]
theorem becG_plain {s : ByteArray} {i : Nat} (hi : i < s.size) : AllPlain (becG s i).1:=by
 have hb:=byte_list hi
 have hat:=(byteAt_list hb).2
 unfold becG
 split
 ·rename_i h
  intro b hm
  rw [show (s.extract i (i + 1),1).1 = s.extract i (i + 1) from rfl,ext_one hb] at hm
  rw [mS.1 hm,<- hat]
  exact h
 ·split
  ·rename_i h
   intro b hm
   have hm' : b ∈ [UInt8.ofNat (byteAt s i - 32)]:=hm
   rw [mS.1 hm']
   have : (UInt8.ofNat (byteAt s i - 32)).toNat = byteAt s i - 32:=by simp; omega
   rw [this]
   unfold plainB
   omega
  ·split
   ·exact lettersP_plain _ _
   ·intro b hm; cases hm
theorem foldedL_add {l z : List UInt8} (hl : FoldedL l) (hz : ∀ b ∈ z,plainB b.toNat) (hne : z ≠ []) (ap : Bool) : FoldedL ((l ++ (if ap = true /\ 0 < l.length then [32] else [])) ++ z):=by
 refine .inr ?_
 rcases hl with rfl | hl
 ·rw [if_neg (by simp),List.append_nil,List.nil_append]
  exact stF_plain z true hz hne
 ·by_cases h : ap = true /\ 0 < l.length
  ·rw [if_pos h,stF_append,stF_append,hl]
   exact stF_plain z true hz hne
  ·rw [if_neg h,List.append_nil,stF_append,hl]
   exact stF_plain z false hz hne
theorem foldG_folded (s : ByteArray) : ∀ (f i : Nat) (ap : Bool) (l : List UInt8),FoldedL l -> FoldedL (foldG s f i ap l)
 | 0,_,_,_,h=>h
 | f + 1,i,ap,l,h=>by
  rw [foldG]
  split
  ·rename_i hi
   split
   ·exact foldG_folded s f _ _ _ h
   ·rename_i hz
    exact foldG_folded s f _ _ _ (foldedL_add h (becG_plain hi) (fun e=>hz (by rw [Lib.size_eq,e]; rfl)) ap)
  ·exact h
theorem fold_folded (s : ByteArray) : Folded (foldOf s):=by
 unfold Folded foldOf
 exact foldG_folded s _ _ _ _ (.inl rfl)
theorem bec_space {s : ByteArray} {i : Nat} (h : byteAt s i = 32) : becG s i = (⟨#[]⟩,1):=by
 unfold becG
 rw [h,if_neg (by decide),if_neg (by decide),if_neg]
 rintro ⟨-,h2⟩
 exact h2 rfl
theorem bec_plain {s : ByteArray} {i : Nat} (h : plainB (byteAt s i)) : becG s i = (s.extract i (i + 1),1):=by
 unfold becG
 rw [if_pos h]
theorem foldG_keep (s : ByteArray) : ∀ (n i : Nat),s.size - i = n -> i <= s.size ->
  (∀ l,l ≠ [] -> stF false (s.data.toList.drop i) = some false -> foldG s n i false l = l ++ s.data.toList.drop i) /\
  (∀ l,l ≠ [] -> stF true (s.data.toList.drop i) = some false -> foldG s n i true l = l ++ 32 :: s.data.toList.drop i) /\
  (stF true (s.data.toList.drop i) = some false -> foldG s n i false [] = s.data.toList.drop i)
 | 0,i,hn,hi=>by
  have hd : s.data.toList.drop i = []:=List.drop_eq_nil_of_le (by rw [<- Lib.size_eq]; omega)
  rw [hd]
  refine ⟨fun l _ _=>by rw [foldG,List.append_nil],fun l _ h=>?_,fun h=>?_⟩
  ·cases h
  ·cases h
 | n + 1,i,hn,hi=>by
  have hlt : i < s.size:=by omega
  obtain ⟨k1,k2,k3⟩:=foldG_keep s n (i + 1) (by omega) (by omega)
  have hb:=byte_list hlt
  have hat:=(byteAt_list hb).2
  have hx:=ext_one hb
  have hd : s.data.toList.drop i = s[i] :: s.data.toList.drop (i + 1):=by
   have hlt' : i < s.data.toList.length:=by rw [<- Lib.size_eq]; exact hlt
   rw [List.drop_eq_getElem_cons hlt']
   rw [List.getElem?_eq_getElem hlt'] at hb
   rw [Option.some.inj hb]
  rw [hd]
  generalize s.data.toList.drop (i + 1) = t at *
  have hsz : (s.extract i (i + 1)).size ≠ 0:=by rw [Lib.size_eq,hx]; exact Nat.one_ne_zero
  generalize s[i] = b at *
  have go : ∀ (ap : Bool) (l : List UInt8),plainB b.toNat -> foldG s (n + 1) i ap l = foldG s n (i + 1) false ((l ++ (if ap = true /\ 0 < l.length then [32] else [])) ++ [b]):=fun ap l hp=>by
   rw [foldG,if_pos hlt,bec_plain (by rw [hat]; exact hp),if_neg hsz,hx]
  have gs : ∀ (ap : Bool) (l : List UInt8),b.toNat = 32 -> foldG s (n + 1) i ap l = foldG s n (i + 1) true l:=fun ap l hp=>by
   rw [foldG,if_pos hlt,bec_space (by rw [hat]; exact hp)]
   exact if_pos rfl
  have pl : ∀ (p : Bool),stF p (b :: t) = some false -> b.toNat ≠ 32 -> plainB b.toNat /\ stF false t = some false:=fun p h hne=>by
   rw [stF,if_neg hne] at h
   by_cases hp : plainB b.toNat
   ·rw [if_pos hp] at h; exact ⟨hp,h⟩
   ·rw [if_neg hp] at h; cases h
  refine ⟨fun l hl h=>?_,fun l hl h=>?_,fun h=>?_⟩
  ·by_cases h32 : b.toNat = 32
   ·have h':=h
    rw [stF,if_pos h32,if_neg (by decide)] at h'
    rw [gs _ _ h32,k2 l hl h']
    congr 2
    exact (UInt8.toNat_inj.1 (by rw [h32]; rfl)).symm
   ·obtain ⟨hp,h'⟩:=pl _ h h32
    rw [go _ _ hp,if_neg (by simp),List.append_nil,k1 _ (by simp) h']
    simp
  ·by_cases h32 : b.toNat = 32
   ·rw [stF,if_pos h32] at h
    cases h
   ·obtain ⟨hp,h'⟩:=pl _ h h32
    have hl0 : 0 < l.length:=List.length_pos_iff.2 hl
    rw [go _ _ hp,if_pos ⟨rfl,hl0⟩,k1 _ (by simp) h']
    simp
  ·by_cases h32 : b.toNat = 32
   ·rw [stF,if_pos h32] at h
    cases h
   ·obtain ⟨hp,h'⟩:=pl _ h h32
    rw [go _ _ hp,if_neg (by simp),List.append_nil,k1 _ (by simp) h']
    simp
theorem fold_keep {s : ByteArray} (h : Folded s) : foldOf s = s:=by
 obtain ⟨⟨l⟩⟩:=s
 rcases h with h | h
 ·have : l = []:=h
  subst this
  rfl
 ·have:=(foldG_keep ⟨⟨l⟩⟩ _ 0 rfl (Nat.zero_le _)).2.2 (by simpa using h)
  unfold foldOf
  rw [Nat.sub_zero] at this
  rw [this]
  rfl
theorem fold_iff {s : ByteArray} : foldOf s = s ↔ Folded s:=⟨fun h=>by rw [<- h]; exact fold_folded s,fold_keep⟩
end
section
def PartOK (s : ByteArray) : Prop:=stF true s.data.toList = some false
theorem PartOK.folded {s : ByteArray} (h : PartOK s) : foldOf s = s:=fold_keep (.inr h)
theorem PartOK.pos {s : ByteArray} (h : PartOK s) : 0 < s.size:=by
 rcases Nat.eq_zero_or_pos s.size with h0 | h0
 ·unfold PartOK at h
  rw [Lib.size_eq] at h0
  rw [List.length_eq_zero_iff.1 h0] at h
  cases h
 ·exact h0
theorem PartOK.of_folded {s : ByteArray} (h : foldOf s = s) (h0 : s.size ≠ 0) : PartOK s:=by
 rcases fold_iff.1 h with h | h
 ·rw [Lib.size_eq,h] at h0
  exact absurd rfl h0
 ·exact h
theorem allPlain_of {s : ByteArray} (h : ∀ i,i < s.size -> plainB (byteAt s i)) : AllPlain s:=fun b hb=>by
 obtain ⟨i,hi,rfl⟩:=List.mem_iff_getElem.1 hb
 obtain ⟨h1,h2⟩:=byteAt_list (List.getElem?_eq_getElem hi)
 rw [<- h2]
 exact h i h1
theorem PartOK.of_plain {s : ByteArray} (h : AllPlain s) (h0 : s.size ≠ 0) : PartOK s:=
 stF_plain _ true h fun e=>h0 (by rw [Lib.size_eq,e]; rfl)
theorem digit_plain {b : Nat} (h : isDigit (b : Int) = true) : plainB b:=by
 unfold isDigit at h
 simp only [Bool.and_eq_true,decide_eq_true_eq] at h
 unfold plainB
 omega
theorem letter_plain {b : Nat} (h : isLetter (b : Int) = true) : plainB b:=by
 unfold isLetter at h
 simp only [Bool.and_eq_true,decide_eq_true_eq] at h
 unfold plainB
 omega
theorem flat_plain {b : Nat} (h : isFlat (b : Int) = true) : plainB b:=by
 unfold isFlat at h
 rcases Bool.or_eq_true_iff.1 h with h | h
 ·exact letter_plain h
 ·exact digit_plain h
theorem allB_at {p : Int -> Bool} {s : ByteArray} (h : allB p s = true) {i : Nat} (hi : i < s.size) : p (byteAt s i) = true:=by
 unfold allB at h
 exact List.all_eq_true.1 h i (List.mem_range.2 hi)
theorem number_ok {s : ByteArray} (h : numberB s = true) : AllPlain s /\ s.size ≠ 0:=by
 unfold numberB at h
 simp only [Bool.and_eq_true,decide_eq_true_eq] at h
 exact ⟨allPlain_of fun i hi=>digit_plain (allB_at h.2 hi),by omega⟩
theorem flat_ok {s : ByteArray} (h : flatB s = true) : AllPlain s /\ s.size ≠ 0:=by
 unfold flatB at h
 simp only [Bool.and_eq_true,decide_eq_true_eq] at h
 exact ⟨allPlain_of fun i hi=>flat_plain (allB_at h.2 hi),by omega⟩
theorem match_ok {ks : List Bool} {s : ByteArray} (h : matchB ks s = true) (h0 : ks.length ≠ 0) : AllPlain s /\ s.size ≠ 0:=by
 unfold matchB at h
 simp only [Bool.and_eq_true,decide_eq_true_eq,List.all_eq_true,List.mem_range] at h
 refine ⟨allPlain_of fun i hi=>?_,by omega⟩
 have:=h.2 i (by omega)
 cases hk : ks.getD i false with
 | true=>rw [hk] at this; exact letter_plain this
 | false=>rw [hk] at this; exact digit_plain this
theorem letter1_ok {s : ByteArray} (h : letter1 s = true) : AllPlain s /\ s.size ≠ 0:=by
 unfold letter1 at h
 simp only [Bool.and_eq_true,decide_eq_true_eq] at h
 refine ⟨allPlain_of fun i hi=>?_,by omega⟩
 obtain rfl : i = 0:=by omega
 exact letter_plain h.2
theorem table_plain : (table.all fun r=>decide (r.long.size ≠ 0) && r.long.data.toList.all fun b=>decide (plainB b.toNat)) = true:=by decide +kernel
theorem long_ok {kd : Int} {s : ByteArray} (h : (shortOf kd s).2 = true) : AllPlain s /\ s.size ≠ 0:=by
 unfold shortOf at h
 by_cases hf : (table.find? (keepS kd s)).isSome = true
 ·obtain ⟨r,hr⟩:=Option.isSome_iff_exists.1 hf
  have h1:=List.find?_some hr
  have h2:=List.mem_of_find?_eq_some hr
  unfold keepS at h1
  simp only [Bool.and_eq_true,decide_eq_true_eq] at h1
  obtain ⟨-,rfl⟩:=h1
  have h3:=List.all_eq_true.1 table_plain r h2
  simp only [Bool.and_eq_true,decide_eq_true_eq] at h3
  exact ⟨plain_lit _ h3.2,h3.1⟩
 ·rw [if_neg hf] at h
  cases h
theorem words_nil {s : ByteArray} (h : s.size = 0) : wordsOf s = []:=by
 obtain ⟨⟨l⟩⟩:=s
 have : l = []:=List.length_eq_zero_iff.1 h
 subst this
 rfl
theorem name_ok {s : ByteArray} (h : nameOk s = true) : foldOf s = s /\ s.size ≠ 0:=by
 unfold nameOk at h
 simp only [Bool.and_eq_true,decide_eq_true_eq] at h
 refine ⟨h.1.1.1,fun h0=>?_⟩
 have:=h.1.1.2
 rw [words_nil h0] at this
 cases this
theorem isName_ok {s : ByteArray} (h : isNameP s = true) : foldOf s = s /\ s.size ≠ 0:=by
 unfold isNameP nameP at h
 by_cases hn : nameOk s = true
 ·exact name_ok hn
 ·rw [if_neg hn] at h
  simp at h
theorem code_ok {c : Int} {s : ByteArray} (h : isCodeP c s = true) : AllPlain s /\ s.size ≠ 0:=by
 unfold isCodeP codeP at h
 by_cases h1 : c = 1
 ·rw [if_pos h1] at h
  by_cases hc : clsB s 9 = true
  ·exact match_ok (ks:=[false,false,false,false,false]) hc (by decide)
  ·rw [if_neg hc] at h; simp at h
 ·rw [if_neg h1] at h
  by_cases h2 : c = 2
  ·rw [if_pos h2] at h
   by_cases hw : codeWide s = true
   ·rw [if_pos hw] at h
    simp only [Bool.true_and,decide_eq_true_eq] at h
    unfold codeWide at hw
    simp only [Bool.and_eq_true] at hw
    obtain ⟨a1,a2⟩:=match_ok (ks:=[true,false,true]) hw.1.2 (by decide)
    obtain ⟨b1,b2⟩:=match_ok (ks:=[false,true,false]) hw.2 (by decide)
    rw [<- h]
    refine ⟨fun b hb=>?_,by rw [ByteArray.size_append]; omega⟩
    rw [ByteArray.data_append,Array.toList_append] at hb
    rcases List.mem_append.1 hb with hb | hb
    ·exact a1 b hb
    ·exact b1 b hb
   ·rw [if_neg hw] at h
    by_cases hc : clsB s 10 = true
    ·exact match_ok (ks:=[true,false,true,false,true,false]) hc (by decide)
    ·rw [if_neg hc] at h; simp at h
  ·rw [if_neg h2] at h
   by_cases h3 : c = 3
   ·rw [if_pos h3] at h
    by_cases hc : clsB s 13 = true
    ·exact match_ok (ks:=[false,false,false,false]) hc (by decide)
    ·rw [if_neg hc] at h; simp at h
   ·rw [if_neg h3] at h; simp at h
theorem part_ok {c kd : Int} {s : ByteArray} (h : isPartB c kd s = true) : PartOK s:=by
 have of:=fun (h : AllPlain s /\ s.size ≠ 0)=>PartOK.of_plain h.1 h.2
 have on:=fun (h : foldOf s = s /\ s.size ≠ 0)=>PartOK.of_folded h.1 h.2
 obtain ⟨k1,k2⟩:=isPart_known h
 have hk : kd = 1 \/ kd = 2 \/ kd = 3 \/ kd = 4 \/ kd = 5 \/ kd = 6 \/ kd = 7 \/ kd = 8 \/ kd = 9 \/ kd = 10:=by omega
 rcases hk with rfl | rfl | rfl | rfl | rfl | rfl | rfl | rfl | rfl | rfl
 ·exact of (number_ok h)
 ·exact of (letter1_ok h)
 ·exact of (long_ok (kd:=1) h)
 ·exact on (isName_ok h)
 ·exact of (long_ok (kd:=2) h)
 ·exact of (flat_ok h)
 ·exact of (number_ok h)
 ·exact on (isName_ok h)
 ·exact of (match_ok (ks:=[true,true]) h (by decide))
 ·exact of (code_ok h)
theorem joinTail_ok : ∀ (r : List ByteArray),(∀ w ∈ r,PartOK w) -> stF false (Lib.joinTail [32] (r.map (·.data.toList))) = some false
 | [],_=>rfl
 | w :: r,h=>by
  have hw:=h w (List.mem_cons_self ..)
  have ih:=joinTail_ok r fun x hx=>h x (List.mem_cons_of_mem _ hx)
  unfold Lib.joinTail at ih ⊢
  rw [List.map_cons,List.map_cons,List.flatten_cons,stF_append,stF_append]
  have e : stF false [32] = some true:=rfl
  unfold PartOK at hw
  rw [e,Option.bind_some,hw,Option.bind_some]
  exact ih
theorem join_ok {ws : List ByteArray} (h : ∀ w ∈ ws,PartOK w) (hne : ws ≠ []) : PartOK (joinS ws):=by
 cases ws with
 | nil=>exact absurd rfl hne
 | cons w r=>
  have hw:=h w (List.mem_cons_self ..)
  have ih:=joinTail_ok r fun x hx=>h x (List.mem_cons_of_mem _ hx)
  unfold PartOK joinS at *
  show stF true (Lib.join ((w :: r).map (·.data.toList)) [32]) = some false
  rw [List.map_cons,Lib.join_cons,stF_append,hw]
  exact ih
theorem append_ok {a b : ByteArray} (ha : PartOK a) (hb : AllPlain b) (h0 : b.size ≠ 0) : PartOK (a ++ b):=by
 unfold PartOK at *
 rw [ByteArray.data_append,Array.toList_append,stF_append,ha]
 exact stF_plain _ false hb fun e=>h0 (by rw [Lib.size_eq,e]; rfl)
end
end Go.Proofs.YteclineblddpbaaGreatDoorR
