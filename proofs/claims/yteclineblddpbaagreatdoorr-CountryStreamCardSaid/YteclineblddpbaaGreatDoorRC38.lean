import Derived.Test.YteclineblddpbaaGreatDoorRC01
import Derived.Test.YteclineblddpbaaGreatDoorRC31
import Derived.Test.YteclineblddpbaaGreatDoorRC32
import Derived.Test.YteclineblddpbaaGreatDoorRC36
import Derived.Test.YteclineblddpbaaGreatDoorRC37
import Derived.Deep.DeepCutAuto
import Derived.Deep.CutBlock
set_option linter.all false
set_option maxRecDepth 100000
set_option maxHeartbeats 0
namespace Go.Proofs.YteclineblddpbaaGreatDoorR
section
open Go Go.RowKit Go.Maps
def unitB : ByteArray:=⟨#[85,78,73,84]⟩
def boxB : ByteArray:=⟨#[66,79,88]⟩
def lines1 (f : Nat -> ByteArray) : List ByteArray:=if (f 6).size = 0 then [] else lineP [unitB,f 6]
def lines2 (c : Int) (f : Nat -> ByteArray) : List ByteArray:=if (f 7).size ≠ 0 then lineP [boxB,f 7] else if c = 3 then lineP [f 4,f 5,f 1 ++ f 2] else lineP [f 1 ++ f 2,f 3,f 4,f 5]
def lines3 (c : Int) (f : Nat -> ByteArray) : List ByteArray:=if c = 1 then lineP [f 8,f 9,f 10] else if c = 2 then lineP [f 8] ++ lineP [f 10] else lineP [f 10,f 8]
def linesF (c : Int) (f : Nat -> ByteArray) : List ByteArray:=lines1 f ++ lines2 c f ++ lines3 c f
def foundF (ps : List PPart) (k : Nat) : ByteArray:=(foundOf ps).getD k ⟨#[]⟩
def linesP (c : Int) (ps : List PPart) : List ByteArray × Int:=
 if rightP c ps then (if (linesF c (foundF ps)).all fun l=>decide (l.size <= 60) then (linesF c (foundF ps),0) else ([],3)) else ([],101)
theorem found_size {M : Nat} (ps : List PPart) (h : ∀ p ∈ ps,p.text.size <= M) (k : Nat) : (foundF ps k).size <= M:=by
 have key : ∀ (l : List PPart) (fd : List ByteArray),(∀ p ∈ l,p.text.size <= M) -> (∀ x ∈ fd,x.size <= M) -> ∀ x ∈ l.foldl putP fd,x.size <= M:=by
  intro l
  induction l with
  | nil=>intro fd _ h2; exact h2
  | cons p l ih=>
   intro fd h1 h2
   refine ih _ (fun q hq=>h1 q (List.mem_cons_of_mem _ hq)) fun x hx=>?_
   rcases List.mem_or_eq_of_mem_set hx with hx | rfl
   ·exact h2 x hx
   ·exact h1 p (List.mem_cons_self ..)
 unfold foundF foundOf
 rw [List.getD_eq_getElem?_getD]
 cases hq : (ps.foldl putP zeros11)[k]? with
 | none=>exact Nat.zero_le _
 | some x=>
  refine key ps zeros11 h (fun x hx=>?_) x (List.mem_of_getElem? hq)
  rw [List.eq_of_mem_replicate hx]
  exact Nat.zero_le _
structure LinesS (w : World) (c : Int) (v : Value) (cs : Array Value) (BB FB LB : Nat) (ls : List ByteArray) (W : World) : Prop where
 below : Below w.heap.size w W
 box : Blk W BB 42 #[.int .u8 c,v]
 tx : Blk W FB 109 cs
 ln : ∃ lv,Blk W LB 22 #[lv] /\ OwnStrs (LB + 1) W lv ls
theorem LinesS.call {w : World} {c : Int} {v : Value} {cs : Array Value} {BB FB LB : Nat} {ls : List ByteArray} {W : World} (h : LinesS w c v cs BB FB LB ls W) (h1 : w.heap.size <= BB) (h2 : BB < FB) (h3 : FB < LB) (ws : List ByteArray) (ds : Array Value) (hds : ds = (ws.map Value.string).toArray) (hw : ws.length <= 10) (hsz : ∀ x ∈ ws,x.size <= 10000000) (hll : ls.length <= 1000) :
  Calls Tryz.prog 59 #[.slice (some ⟨W.heap.size,0,none⟩) ws.length ws.length,.pointer (some ⟨LB,0,none⟩)] (W.alloc (.cells ds 9)) fun e w'=>e = .returned (.tuple #[]) /\ LinesS w c v cs BB FB LB (ls ++ lineP ws) w':=by
 subst hds
 obtain ⟨lv,k1,k2⟩:=h.ln
 have hb : Below W.heap.size W (W.alloc (.cells (ws.map Value.string).toArray 9)):=(Below.refl _ _).alloc (lQ _) _
 have hl:=k1.lt
 refine (line59 ws ls W.heap.size ws.length LB (LB + 1) lv _ (fun i x hx=>?_) (by simp) (lQ _) (by omega) (k1.alloc _) (k2.keep strIn_inner (Keeps.of_below (hb.mono (by omega)) _)) (by omega) (by simp; omega) hsz hll).mono ?_
 ·rw [(Blk.new W 9 _).cell i,List.getElem?_toArray,List.getElem?_map,hx]
  rfl
 ·rintro e w' ⟨rfl,lv',k3,k4,k5⟩
  have hbl:=h.below.size
  refine ⟨rfl,?_,((h.box.alloc _).below k5 (by omega)),((h.tx.alloc _).below k5 (by omega)),lv',k3,k4⟩
  exact (h.below.alloc h.below.size _).trans (k5.mono (by omega))
theorem LinesS.up {w : World} {c : Int} {v : Value} {cs : Array Value} {BB FB LB : Nat} {ls : List ByteArray} {W W' : World} (h : LinesS w c v cs BB FB LB ls W) (hB : LB + 1 <= W.heap.size) (hb : Below W.heap.size W W') : LinesS w c v cs BB FB LB ls W':=by
 obtain ⟨lv,k1,k2⟩:=h.ln
 exact ⟨h.below.trans (hb.mono h.below.size),h.box.below hb h.box.lt,h.tx.below hb h.tx.lt,lv,k1.below hb k1.lt,k2.keep strIn_inner (Keeps.of_below hb _)⟩
theorem LinesS.lt {w : World} {c : Int} {v : Value} {cs : Array Value} {BB FB LB : Nat} {ls : List ByteArray} {W : World} (h : LinesS w c v cs BB FB LB ls W) : LB + 1 <= W.heap.size:=by
 obtain ⟨lv,k1,k2⟩:=h.ln
 exact k1.lt
theorem lineP_len (ws : List ByteArray) : (lineP ws).length <= 1:=by
 unfold lineP
 split <;> simp
theorem lines1_len (f : Nat -> ByteArray) : (lines1 f).length <= 1:=by
 unfold lines1
 split
 ·simp
 ·exact lineP_len _
theorem lines2_len (c : Int) (f : Nat -> ByteArray) : (lines2 c f).length <= 1:=by
 unfold lines2
 split
 ·exact lineP_len _
 ·split <;> exact lineP_len _
theorem lines3_len (c : Int) (f : Nat -> ByteArray) : (lines3 c f).length <= 2:=by
 unfold lines3
 split
 ·exact Nat.le_trans (lineP_len _) (by decide)
 ·split
  ·rw [List.length_append]
   have:=lineP_len [f 8]
   have:=lineP_len [f 10]
   omega
  ·exact Nat.le_trans (lineP_len _) (by decide)
theorem linesF_len (c : Int) (f : Nat -> ByteArray) : (linesF c f).length <= 4:=by
 unfold linesF
 rw [List.length_append,List.length_append]
 have:=lines1_len f
 have:=lines2_len c f
 have:=lines3_len c f
 omega
theorem one_strs' (l : List ByteArray) : ((l.map Value.string).toArray).all (·.oneCell') = true:=one_strs l
theorem lines23 (c : Int) (v : Value) (ps : List PPart) (w : World) (hv : IsParts w v ps) (hps : ∀ p ∈ ps,p.text.size <= 1000000 /\ Plain p.text /\ 0 <= p.kind /\ p.kind <= 255) :
  Calls Tryz.prog 23 #[.agg #[.int .u8 c,v]] w fun e w'=>∃ lv,e = .returned (.tuple #[lv,.int .i64 (linesP c ps).2]) /\ OwnStrs w.heap.size w' lv (linesP c ps).1 /\ Below w.heap.size w w':=by
 have hfs:=Hd (found_size ps fun p hp=>(hps p hp).1)
 obtain ⟨W1,hW1⟩ : ∃ W1,W1 = w.alloc (.cells #[.int .u8 c,v] 42):=⟨_,rfl⟩
 have hb1 : Below w.heap.size w W1:=by rw [hW1]; exact (Below.refl _ _).alloc (lQ _) _
 have hs1 : W1.heap.size = w.heap.size + 1:=by rw [hW1]; simp
 have kB : Blk W1 w.heap.size 42 #[.int .u8 c,v]:=by rw [hW1]; exact Blk.new _ _ _
 have hpo:=Hd (partsOf_any c v ps W1 (hv.stays (Stays.of hb1)) hps)
 obtain ⟨A,cv,rfl,-⟩:=hv
 have hLP : Hid (linesP c ps = if rightP c ps then (if (linesF c (foundF ps)).all fun l=>decide (l.size <= 60) then (linesF c (foundF ps),0) else ([],3)) else ([],101)):=Hd rfl
 have hff : Hid (∀ k,foundF ps k = (foundOf ps).getD k ⟨#[]⟩):=Hd fun _=>rfl
 clear hps
 generalize foundF ps = f at *
 generalize hF : foundOf ps = fo at *
 replace hF:=Hd hF
 go_enter Tryz.func23,Tryz.ntmps23
 go_upto_region 1 with fail
 rw [<- hW1]
 replace hW1:=Hd hW1
 obtain ⟨BB,hBB⟩ : ∃ BB,BB = w.heap.size:=⟨_,rfl⟩
 rw [<- hBB] at kB ⊢
 replace hBB:=Hd hBB
 have b0:=kB.cell 0
 have b1:=kB.cell 1
 have bl:=kB.lt
 simp at b0 b1
 go_wp2_with fail
 refine hpo.out.mono ?_
 rintro e w2 ⟨fd,rfl,hfl,hfi,hb2⟩
 clear hpo b0 b1
 generalize hcs : (fd.map Value.string).toArray = cs at *
 have hoc : cs.all (·.oneCell') = true:=by rw [<- hcs]; exact one_strs fd
 have hif : (Tryz.prog.info? 109).map (·.size) = some cs.size:=by rw [info109,<- hcs]; simp [hfl]
 have hol : zc11.size = cs.size:=by rw [<- hcs]; simp [hfl,zc11]
 have hs2:=hb2.size
 have hbA : Hid (Below w.heap.size w ((w2.alloc (.cells zc11 109)).setRow w2.heap.size cs)):=Hd (Below.setRow_ ((hb1.trans (hb2.mono (by omega))).alloc (by omega) _) (by omega) cs)
 have kBA : Hid (Blk ((w2.alloc (.cells zc11 109)).setRow w2.heap.size cs) BB 42 #[.int .u8 c,.slice A ps.length cv]):=Hd (((kB.below hb2 kB.lt).alloc _).setRow_far (by have:=hBB.out; omega) _)
 have kFA : Hid (Blk ((w2.alloc (.cells zc11 109)).setRow w2.heap.size cs) w2.heap.size 109 cs):=Hd ((Blk.new w2 109 zc11).setRow_ _)
 have hFB : Hid (BB < w2.heap.size /\ w2.heap.size < ((w2.alloc (.cells zc11 109)).setRow w2.heap.size cs).heap.size):=Hd ⟨by have:=hBB.out; omega,kFA.out.lt⟩
 replace hfl:=Hd hfl
 replace hfi:=Hd hfi
 replace hcs:=Hd hcs
 dsimp only
 iterate 13 go_step
 refine wpList_store_rowTo rfl 109 _ _ rfl rfl w2.heap.size cs rfl rfl 109 zc11 (Blk.new w2 109 zc11) hif hol hoc ?_
 refine (?_ : wpList _ _ _ _ _ ((w2.alloc (.cells zc11 109)).setRow w2.heap.size cs))
 generalize (w2.alloc (.cells zc11 109)).setRow w2.heap.size cs = W3 at *
 generalize w2.heap.size = FB at *
 clear hb1 kB hb2 hs1 hs2 hif hoc bl hol
 cases hr : rightP c ps with
 | false=>
  have hl : Hid (linesP c ps = ([],101)):=Hd (by rw [hLP.out,hr]; rfl)
  clear hLP hfi
  go_wp2_with fail
  go_ret2
  exact ⟨_,by rw [hl.out]; rfl,by rw [hl.out]; exact OwnL.nil_,hbA.out⟩
 | true=>
  have hl : Hid (linesP c ps = if (linesF c f).all fun l=>decide (l.size <= 60) then (linesF c f,0) else ([],3)):=Hd (by rw [hLP.out,hr]; rfl)
  have hcell : Hid (∀ k,k < 11 -> cs[k]? = some (.string (f k))):=Hd fun k hk=>by
   have e:=hfi.out hr
   rw [<- hcs.out,hff.out,<- e]
   exact fd_get hfl.out hk
  clear hLP hfi hfl hff hcs hr hF
  obtain ⟨W4,hW4⟩ : ∃ W4,W4 = W3.alloc (.cells #[.slice none 0 0] 22):=⟨_,rfl⟩
  have hS : Hid (LinesS w c (.slice A ps.length cv) cs BB FB W3.heap.size [] W4):=Hd (by
   rw [hW4]
   exact ⟨hbA.out.alloc hbA.out.size _,kBA.out.alloc _,kFA.out.alloc _,_,Blk.new _ _ _,OwnL.nil_⟩)
  go_upto_region 6 with fail
  rw [<- hW4]
  have hl4 : Hid (W3.heap.size < W4.heap.size):=Hd (by rw [hW4]; simp)
  replace hW4:=Hd hW4
  obtain ⟨LB,hLB⟩ : ∃ LB,LB = W3.heap.size:=⟨_,rfl⟩
  have hFw : Hid (w.heap.size <= BB /\ BB < FB /\ FB < LB):=Hd (by have:=hFB.out; have:=hBB.out; omega)
  rw [<- hLB] at hS ⊢
  replace hLB:=Hd hLB
  have hsmall:=Hd (show ∀ k,(f k).size <= 10000000 from fun k=>Nat.le_trans (hfs.out k) (by decide))
  have x6:=(hS.out.tx.cell 6).trans (hcell.out 6 (by omega))
  have xl:=hS.out.tx.lt
  go_upto_if 25 with fail
  go_cut [] (fun wx=>Hid (LinesS w c (.slice A ps.length cv) cs BB FB LB (lines1 f) wx))
  case first=>
   have s6:=hsmall.out 6
   have hls1 : Hid (lines1 f = if (f 6).size = 0 then [] else lineP [⟨#[85,78,73,84]⟩,f 6]):=Hd rfl
   generalize f 6 = f6 at *
   by_cases h6 : f6.size = 0
   ·have yq : f6.toList.isEmpty = true:=by rw [empty_tl]; exact decide_eq_true h6
    rw [if_pos h6] at hls1
    clear h6
    simp only [yq,Bool.not_true]
    go_wp2_with fail
    go_meet
    case rel=>exact Hd (by rw [hls1.out]; exact hS.out)
   ·have yq : f6.toList.isEmpty = false:=by rw [empty_tl]; exact decide_eq_false h6
    rw [if_neg h6] at hls1
    have hcall:=Hd (hS.out.call hFw.out.1 hFw.out.2.1 hFw.out.2.2 [⟨#[85,78,73,84]⟩,f6] #[.string ⟨#[85,78,73,84]⟩,.string f6] rfl (by simp) (by
     intro x hx
     simp only [List.mem_cons,List.not_mem_nil,or_false] at hx
     rcases hx with rfl | rfl
     ·decide
     ·exact s6) (by decide))
    clear h6
    simp only [yq,Bool.not_false]
    go_wp2_with fail
    refine hcall.out.mono ?_
    rintro e wx ⟨rfl,hx⟩
    have hx':=Hd hx
    clear hx
    go_wp2_with fail
    go_meet
    case rel=>exact Hd (by rw [hls1.out]; exact hx'.out)
  case rest=>
   have hS5:=Hd hcut.out
   rename World=>W5
   clear hcut hS hl4 x6 xl
   have hn1:=Hd (lines1_len f)
   have s1:=hsmall.out 1
   have s2:=hsmall.out 2
   have x1:=(hS5.out.tx.cell 1).trans (hcell.out 1 (by omega))
   have x2:=(hS5.out.tx.cell 2).trans (hcell.out 2 (by omega))
   have xl:=hS5.out.tx.lt
   go_upto_region 9 with fail
   clear x1 x2
   have x4:=(hS5.out.tx.cell 4).trans (hcell.out 4 (by omega))
   have x5:=(hS5.out.tx.cell 5).trans (hcell.out 5 (by omega))
   have xl:=hS5.out.tx.lt
   have X4:=fun (u : Ups W5)=>u.cellAt x4 xl
   have X5:=fun (u : Ups W5)=>u.cellAt x5 xl
   refine wp_region_ups (P:=Tryz.prog) rfl (by kernel_rfl) ?_
   repeat (go_big_quiet_step (fail))
   refine wpQuiet_nil ?_
   rintro _ ⟨u,rfl⟩
   have hS6:=Hd (hS5.out.up hS5.out.lt u.up)
   clear X4 X5 x4 x5 xl hS5
   generalize u.wld = W6 at *
   go_upto_block 0 with fail
   go_cut [] (fun wx=>Hid (LinesS w c (.slice A ps.length cv) cs BB FB LB (lines1 f ++ lines2 c f) wx))
   case first=>
    have hls2 : Hid (lines2 c f = if (f 7).size ≠ 0 then lineP [⟨#[66,79,88]⟩,f 7] else if c = 3 then lineP [f 4,f 5,f 1 ++ f 2] else lineP [f 1 ++ f 2,f 3,f 4,f 5]):=Hd rfl
    have s7:=hsmall.out 7
    have s3:=hsmall.out 3
    have s4:=hsmall.out 4
    have s5:=hsmall.out 5
    have s12 : (f 1 ++ f 2).size <= 10000000:=by
     have h1:=hfs.out 1
     have h2:=hfs.out 2
     rw [ByteArray.size_append]
     omega
    have x7:=(hS6.out.tx.cell 7).trans (hcell.out 7 (by omega))
    have x3:=(hS6.out.tx.cell 3).trans (hcell.out 3 (by omega))
    have xl:=hS6.out.tx.lt
    have b0:=hS6.out.box.cell 0
    have bl:=hS6.out.box.lt
    simp at b0
    have hn1':=hn1.out
    generalize f 1 ++ f 2 = f12 at *
    generalize f 7 = f7 at *
    generalize f 3 = f3 at *
    generalize f 4 = f4 at *
    generalize f 5 = f5 at *
    by_cases h7 : f7.size = 0
    ·have yq : f7.toList.isEmpty = true:=by rw [empty_tl]; exact decide_eq_true h7
     rw [if_neg (fun h=>h h7)] at hls2
     clear h7
     by_cases h3 : c = 3
     ·subst h3
      rw [if_pos rfl] at hls2
      have hcall:=Hd (hS6.out.call hFw.out.1 hFw.out.2.1 hFw.out.2.2 [f4,f5,f12] #[.string f4,.string f5,.string f12] rfl (by simp) (by
       intro x hx
       simp only [List.mem_cons,List.not_mem_nil,or_false] at hx
       rcases hx with rfl | rfl | rfl
       ·exact s4
       ·exact s5
       ·exact s12
       ) (by omega))
      go_wp2_with fail
      refine hcall.out.mono ?_
      rintro e wx ⟨rfl,hx⟩
      have hx':=Hd hx
      clear hx hcall
      go_wp2_with fail
      go_meet
      case rel=>exact Hd (by rw [hls2.out]; exact hx'.out)
     ·have c3 : (c == 3) = false:=beq_eq_false_iff_ne.2 h3
      have c3' : decide (c = 3) = false:=decide_eq_false h3
      rw [if_neg h3] at hls2
      have hcall:=Hd (hS6.out.call hFw.out.1 hFw.out.2.1 hFw.out.2.2 [f12,f3,f4,f5] #[.string f12,.string f3,.string f4,.string f5] rfl (by simp) (by
       intro x hx
       simp only [List.mem_cons,List.not_mem_nil,or_false] at hx
       rcases hx with rfl | rfl | rfl | rfl
       ·exact s12
       ·exact s3
       ·exact s4
       ·exact s5
       ) (by omega))
      go_wp2_with fail
      refine hcall.out.mono ?_
      rintro e wx ⟨rfl,hx⟩
      have hx':=Hd hx
      clear hx hcall
      go_wp2_with fail
      go_meet
      case rel=>exact Hd (by rw [hls2.out]; exact hx'.out)
    ·have yq : f7.toList.isEmpty = false:=by rw [empty_tl]; exact decide_eq_false h7
     rw [if_pos h7] at hls2
     clear h7
     have hcall:=Hd (hS6.out.call hFw.out.1 hFw.out.2.1 hFw.out.2.2 [⟨#[66,79,88]⟩,f7] #[.string ⟨#[66,79,88]⟩,.string f7] rfl (by simp) (by
      intro x hx
      simp only [List.mem_cons,List.not_mem_nil,or_false] at hx
      rcases hx with rfl | rfl
      ·decide
      ·exact s7
      ) (by omega))
     go_wp2_with fail
     refine hcall.out.mono ?_
     rintro e wx ⟨rfl,hx⟩
     have hx':=Hd hx
     clear hx hcall
     go_wp2_with fail
     go_meet
     case rel=>exact Hd (by rw [hls2.out]; exact hx'.out)
   case rest=>
    have hS7:=Hd hcut.out
    rename World=>W7
    clear hcut hS6
    have hn2 : Hid ((lines1 f ++ lines2 c f).length <= 2):=Hd (by rw [List.length_append]; have:=hn1.out; have:=lines2_len c f; omega)
    have x8:=(hS7.out.tx.cell 8).trans (hcell.out 8 (by omega))
    have x10:=(hS7.out.tx.cell 10).trans (hcell.out 10 (by omega))
    have xl:=hS7.out.tx.lt
    have X8:=fun (u : Ups W7)=>u.cellAt x8 xl
    have X10:=fun (u : Ups W7)=>u.cellAt x10 xl
    go_upto_region 15 with fail
    refine wp_region_ups (P:=Tryz.prog) rfl (by kernel_rfl) ?_
    repeat (go_big_quiet_step (fail))
    refine wpQuiet_nil ?_
    rintro _ ⟨u,rfl⟩
    have hS8:=Hd (hS7.out.up hS7.out.lt u.up)
    clear X8 X10 x8 x10 xl hS7
    generalize u.wld = W8 at *
    have hn2':=hn2.out
    have b0:=hS8.out.box.cell 0
    have bl:=hS8.out.box.lt
    simp at b0
    go_upto_block 1 with fail
    clear b0 bl
    go_cut [] (fun wx=>Hid (LinesS w c (.slice A ps.length cv) cs BB FB LB (linesF c f) wx))
    case first=>
     have hls3 : Hid (linesF c f = lines1 f ++ lines2 c f ++ (if c = 1 then lineP [f 8,f 9,f 10] else if c = 2 then lineP [f 8] ++ lineP [f 10] else lineP [f 10,f 8])):=Hd rfl
     have s8:=hsmall.out 8
     have s9:=hsmall.out 9
     have s10:=hsmall.out 10
     have x9:=(hS8.out.tx.cell 9).trans (hcell.out 9 (by omega))
     have xl:=hS8.out.tx.lt
     generalize f 8 = f8 at *
     generalize f 9 = f9 at *
     generalize f 10 = f10 at *
     generalize lines1 f ++ lines2 c f = l12 at *
     by_cases h1 : c = 1
     ·subst h1
      rw [if_pos rfl] at hls3
      have hcall:=Hd (hS8.out.call hFw.out.1 hFw.out.2.1 hFw.out.2.2 [f8,f9,f10] #[.string f8,.string f9,.string f10] rfl (by simp) (by
       intro x hx
       simp only [List.mem_cons,List.not_mem_nil,or_false] at hx
       rcases hx with rfl | rfl | rfl
       ·exact s8
       ·exact s9
       ·exact s10
       ) (by omega))
      go_wp2_with fail
      refine hcall.out.mono ?_
      rintro e wx ⟨rfl,hx⟩
      have hx':=Hd hx
      clear hx hcall
      go_wp2_with fail
      go_meet
      case rel=>exact Hd (by rw [hls3.out]; exact hx'.out)
     ·have c1 : (c == 1) = false:=beq_eq_false_iff_ne.2 h1
      have c1' : decide (c = 1) = false:=decide_eq_false h1
      rw [if_neg h1] at hls3
      by_cases h2 : c = 2
      ·subst h2
       rw [if_pos rfl] at hls3
       have hcall:=Hd (hS8.out.call hFw.out.1 hFw.out.2.1 hFw.out.2.2 [f8] #[.string f8] rfl (by simp) (by
        intro x hx
        simp only [List.mem_cons,List.not_mem_nil,or_false] at hx
        subst hx
        exact s8
        ) (by omega))
       go_wp2_with fail
       refine hcall.out.mono ?_
       rintro e wx ⟨rfl,hx⟩
       have hx':=Hd hx
       clear hx hcall
       have hn3 : (l12 ++ lineP [f8]).length <= 1000:=by rw [List.length_append]; have:=lineP_len [f8]; omega
       have hcall2:=Hd (hx'.out.call hFw.out.1 hFw.out.2.1 hFw.out.2.2 [f10] #[.string f10] rfl (by simp) (by
        intro x hx
        simp only [List.mem_cons,List.not_mem_nil,or_false] at hx
        subst hx
        exact s10
        ) hn3)
       replace hn3:=Hd hn3
       go_wp2_with fail
       refine hcall2.out.mono ?_
       rintro e wy ⟨rfl,hy⟩
       have hy':=Hd hy
       clear hy hcall2
       go_wp2_with fail
       go_meet
       case rel=>exact Hd (by rw [hls3.out,<- List.append_assoc]; exact hy'.out)
      ·have c2 : (c == 2) = false:=beq_eq_false_iff_ne.2 h2
       have c2' : decide (c = 2) = false:=decide_eq_false h2
       rw [if_neg h2] at hls3
       have hcall:=Hd (hS8.out.call hFw.out.1 hFw.out.2.1 hFw.out.2.2 [f10,f8] #[.string f10,.string f8] rfl (by simp) (by
        intro x hx
        simp only [List.mem_cons,List.not_mem_nil,or_false] at hx
        rcases hx with rfl | rfl
        ·exact s10
        ·exact s8
        ) (by omega))
       go_wp2_with fail
       refine hcall.out.mono ?_
       rintro e wx ⟨rfl,hx⟩
       have hx':=Hd hx
       clear hx hcall
       go_wp2_with fail
       go_meet
       case rel=>exact Hd (by rw [hls3.out]; exact hx'.out)
    case rest=>
     have hS9:=Hd hcut.out
     rename World=>W9
     clear hcut hS8
     have hlen : (linesF c f).length <= 4:=linesF_len c f
     obtain ⟨lv,k1,k2⟩:=hS9.out.ln
     have hfin:=Hd (k2.base strIn_inner (show w.heap.size <= LB + 1 by have:=hFw.out; omega))
     have hbb:=Hd hS9.out.below
     have hl' : Hid (linesP c ps = if (linesF c f).all fun l=>decide (l.size <= 60) then (linesF c f,0) else ([],3)):=hl
     clear hl
     generalize linesF c f = ls at *
     obtain ⟨Al,cl,rfl⟩:=k2.form_
     have l0:=k1.cell 0
     have ll:=k1.lt
     simp at l0
     have hk2:=Hd k2
     clear k1 k2 hS9 hn2'
     go_wp2_with fail
     go_loop [99] (fun iv=>∃ k : Nat,k <= ls.length /\ iv = .int .i64 k /\ Hid (∀ i,i < k -> ∀ x,ls[i]? = some x -> x.size <= 60)) (fun iv=>ls.length - (intOf iv).toNat)
     case atStart=>exact ⟨0,by omega,rfl,Hd fun i hi=>absurd hi (by omega)⟩
     case round=>
      obtain ⟨k,hk,rfl,hall⟩:=hrel
      have n0 : (0 : Int) <= (k : Int):=by omega
      by_cases hlt : k < ls.length
      ·have n1 : (k : Int) < (ls.length : Int):=by omega
       obtain ⟨gl,c2,he,hg1,hg2,hc1,hc2⟩:=hk2.out.ref (by omega)
       obtain ⟨rfl,-,rfl⟩:=Value.slice.inj he
       clear he
       have hx0:=Hd (List.getElem?_eq_getElem hlt)
       have x1:=own_cell hk2.out k ls[k] hx0.out
       generalize ls[k] = x at *
       by_cases h60 : 60 < x.size
       ·have q : decide ((60 : Int) < (x.size : Int)) = true:=decide_eq_true (by omega)
        have q' : (60 : Int) < (x.size : Int):=by omega
        have hno : Hid (linesP c ps = ([],3)):=Hd (by
         rw [hl'.out,if_neg]
         rw [List.all_eq_true]
         intro h
         have:=h x (List.mem_of_getElem? hx0.out)
         simp at this
         omega)
        go_wp2_with fail
        go_ret2
        exact ⟨_,by rw [hno.out]; rfl,by rw [hno.out]; exact OwnL.nil_,hbb.out⟩
       ·have q : decide ((60 : Int) < (x.size : Int)) = false:=decide_eq_false (by omega)
        have q' : ¬ (60 : Int) < (x.size : Int):=by omega
        have hall' : Hid (∀ i,i < k + 1 -> ∀ x,ls[i]? = some x -> x.size <= 60):=Hd fun i hi y hy=>by
         rcases Nat.lt_or_ge i k with h | h
         ·exact hall.out i h y hy
         ·obtain rfl : i = k:=by omega
          rw [hx0.out] at hy
          cases hy
          omega
        clear h60
        go_wp2_with fail
        go_round
        case rel=>exact ⟨k + 1,by omega,by go_num,hall'⟩
        case measure=>simp [intOf]; omega
      ·obtain rfl : k = ls.length:=by omega
       have hyes : Hid (linesP c ps = (ls,0)):=Hd (by
        rw [hl'.out,if_pos]
        rw [List.all_eq_true]
        intro x hx
        obtain ⟨i,hi,rfl⟩:=List.mem_iff_getElem.1 hx
        exact decide_eq_true (hall.out i hi _ (List.getElem?_eq_getElem hi)))
       go_wp2_with fail
       go_ret2
       exact ⟨_,by rw [hyes.out]; rfl,by rw [hyes.out]; exact hfin.out,hbb.out⟩
end
section
theorem exC_rule : (gramR 3).length = 17 /\ ((gramR 3).getD 1 PRule.zero).left = 1 /\ ((gramR 3).getD 1 PRule.zero).right.length = 2 /\ (((gramR 3).getD 1 PRule.zero).right.getD 0 PItem.zero).cls = 0 /\ (((gramR 3).getD 1 PRule.zero).right.getD 0 PItem.zero).sym = 3 /\ (((gramR 3).getD 1 PRule.zero).right.getD 1 PItem.zero).cls = 1 /\ (((gramR 3).getD 1 PRule.zero).right.getD 1 PItem.zero).sym = 0:=by
 rw [gramR_list]
 decide +kernel
theorem exC_parts : (gramP 3).length = 17 /\ (gramP 3).getD 1 [] = [0,1]:=by
 rw [gramP,gramL_list]
 decide +kernel
theorem ex_reads_len : exReads.length = 8:=by
 unfold exReads exRead
 rw [exTrees_eq,gramR1,gramP1]
 decide +kernel
def stJohn : ByteArray:=⟨#[83,84,32,74,79,72,78]⟩
def saintJohn : ByteArray:=⟨#[83,65,73,78,84,32,74,79,72,78]⟩
theorem ex_name : nameP stJohn = (saintJohn,true):=by decide +kernel
theorem ex_john : plainS stJohn = true:=by decide +kernel
def exO1 : List ByteArray:=[⟨#[49,32,49,50]⟩,⟨#[51,32,78,79,82,84,72]⟩,⟨#[52,32,77,65,73,78]⟩,⟨#[53,32,83,84,82,69,69,84]⟩,⟨#[56,32,83,80,82,73,78,71,70,73,69,76,68]⟩,⟨#[57,32,73,76]⟩,⟨#[49,48,32,49,50,51,52,53]⟩]
def exO3 : List ByteArray:=[⟨#[55,32,53]⟩,⟨#[56,32,66,69,82,78]⟩,⟨#[49,48,32,51,48,48,48]⟩]
def exO2 : List ByteArray:=[⟨#[49,32,49,50]⟩,⟨#[50,32,66]⟩,⟨#[52,32,77,65,73,78]⟩,⟨#[54,32,51]⟩,⟨#[49,48,32,75,49,65,48,66,49]⟩]
def exL3 : List ByteArray:=[⟨#[66,79,88,32,53]⟩,⟨#[51,48,48,48,32,66,69,82,78]⟩]
def exL2 : List ByteArray:=[⟨#[85,78,73,84,32,51]⟩,⟨#[49,50,66,32,77,65,73,78]⟩,⟨#[75,49,65,48,66,49]⟩]
theorem exO_kd : (exO1 ++ exO2 ++ exO3).all kdB = true:=by decide +kernel
theorem exO1_has : hasP1 exReads 1 (exO1.map ofP) = true:=by
 unfold exReads exRead
 rw [exTrees_eq,gramR1,gramP1]
 decide +kernel
theorem exO_plain : ((exO2 ++ exO3).map ofP).all (fun p=>decide (p.text.size <= 60) && plainS p.text && decide (0 <= p.kind) && decide (p.kind <= 255)) = true:=by decide +kernel
theorem exO3_lines : linesP 3 (exO3.map ofP) = (exL3,0):=by decide +kernel
theorem exO2_lines : linesP 2 (exO2.map ofP) = (exL2,0):=by decide +kernel
theorem ex_psize : exReads.all (fun x=>decide (x.2.length <= 100)) = true:=by
 unfold exReads exRead
 rw [exTrees_eq,gramR1,gramP1]
 decide +kernel
end
section
open Go Go.RowKit Go.Maps
theorem texts_new (W : World) (ls : List ByteArray) (cs : Array Value) (hcs : cs = (ls.map Value.string).toArray) (hl : ls.length <= 1000) : TextsO (fun _=>False) (W.alloc (.cells cs 9)) (.slice (some ⟨W.heap.size,0,none⟩) ls.length ls.length) ls:=by
 refine ⟨_,_,rfl,lQ _,by unfold maxLen; omega,fun _=>⟨W.heap.size,0,rfl,by simp,fun h=>h,fun i hi=>?_⟩⟩
 show (W.alloc (.cells cs 9)).cell? ⟨W.heap.size,0 + i,none⟩ = _
 rw [Nat.zero_add,(Blk.new W 9 cs).cell i,hcs,List.getElem?_toArray,List.getElem?_map,List.getElem?_eq_getElem hi,getD_at _ _ _ hi]
 rfl
theorem bytes_new (W : World) (ls : List Nat) (cs : Array Value) (hcs : cs = (ls.map fun n : Nat=>Value.int .u8 (n : Int)).toArray) (hl : ls.length <= 1000) : BytesP (fun _=>True) (W.alloc (.cells cs 5)) (.slice (some ⟨W.heap.size,0,none⟩) ls.length ls.length) ls:=by
 refine ⟨_,_,rfl,lQ _,by unfold maxLen; omega,fun _=>⟨W.heap.size,0,rfl,by simp,trivial,fun i hi=>?_⟩⟩
 show (W.alloc (.cells cs 5)).cell? ⟨W.heap.size,0 + i,none⟩ = _
 rw [Nat.zero_add,(Blk.new W 5 cs).cell i,hcs,List.getElem?_toArray,List.getElem?_map,List.getElem?_eq_getElem hi,getD_at _ _ _ hi]
 rfl
theorem ex_lines : ∀ x ∈ exL,x.size <= 60 /\ x ≠ ⟨#[]⟩ /\ Plain x /\ foldOf x = x:=fun x hx=>by
 have:=List.all_eq_true.1 ex_fold x hx
 simp only [Bool.and_eq_true,decide_eq_true_eq] at this
 exact ⟨this.1.1.1,this.1.1.2,plain_of this.1.2,this.2⟩
theorem ex_sm : ∀ x ∈ exT,x.text.size <= 60 /\ 0 <= x.cls /\ x.cls < 65536 /\ (x.cls.toNat &&& 2 = 0 \/ 0 < x.text.size):=fun x hx=>by
 have:=List.all_eq_true.1 ex_small x hx
 simp only [Bool.and_eq_true,Bool.or_eq_true,decide_eq_true_eq] at this
 exact ⟨this.1.1.1,this.1.1.2,this.1.2,this.2⟩
theorem ex_small1 : ∀ x ∈ exT,x.text.size <= 60 /\ 0 <= x.cls /\ x.cls < 65536:=fun x hx=>⟨(ex_sm x hx).1,(ex_sm x hx).2.1,(ex_sm x hx).2.2.1⟩
theorem ex_small2 : ∀ x ∈ exT,x.cls.toNat &&& 2 ≠ 0 -> 0 < x.text.size:=fun x hx h=>(ex_sm x hx).2.2.2.resolve_left h
theorem exT_len : exT.length = exK.length:=by unfold exK; rw [List.length_map]
theorem ex_len40 : exT.length <= 40:=by rw [exT_len,exK_eq]; decide
theorem treesC_ex : treesC 1 exT = exTrees:=by
 unfold treesC exTrees
 rw [exT_len]
 rfl
theorem ex_treeOK : ∀ t ∈ treesC 1 exT,treeOK 1 exT t:=fun t ht=>by
 rw [treesC_ex] at ht
 have h1:=List.all_eq_true.1 ex_trees t ht
 have h2:=List.all_eq_true.1 ex_plain t ht
 simp only [Bool.and_eq_true] at h2
 refine ⟨?_,plain_of h2.1,plain_of h2.2⟩
 rw [exT_len]
 exact h1
theorem ex_readsT : (treesC 1 exT).flatMap (readsT 1 exT 3) = exReads:=by
 rw [treesC_ex]
 rfl
theorem exO_kds : ∀ s ∈ exO1 ++ exO2 ++ exO3,kdB s = true:=List.all_eq_true.1 exO_kd
theorem exO1_kd : ∀ s ∈ exO1,kdB s = true:=fun s h=>exO_kds s (List.mem_append_left _ (List.mem_append_left _ h))
theorem exO2_kd : ∀ s ∈ exO2,kdB s = true:=fun s h=>exO_kds s (List.mem_append_left _ (List.mem_append_right _ h))
theorem exO3_kd : ∀ s ∈ exO3,kdB s = true:=fun s h=>exO_kds s (List.mem_append_right _ h)
theorem exO_pl : ∀ p ∈ (exO2 ++ exO3).map ofP,p.text.size <= 1000000 /\ Plain p.text /\ 0 <= p.kind /\ p.kind <= 255:=fun p hp=>by
 have:=List.all_eq_true.1 exO_plain p hp
 simp only [Bool.and_eq_true,decide_eq_true_eq] at this
 exact ⟨Nat.le_trans this.1.1.1 (by decide),plain_of this.1.1.2,this.1.2,this.2⟩
theorem exO2_plain : ∀ p ∈ exO2.map ofP,p.text.size <= 1000000 /\ Plain p.text /\ 0 <= p.kind /\ p.kind <= 255:=fun p hp=>exO_pl p (by rw [List.map_append]; exact List.mem_append_left _ hp)
theorem exO3_plain : ∀ p ∈ exO3.map ofP,p.text.size <= 1000000 /\ Plain p.text /\ 0 <= p.kind /\ p.kind <= 255:=fun p hp=>exO_pl p (by rw [List.map_append]; exact List.mem_append_right _ hp)
theorem awake14 (w : World) (hml : MaxL w) (h00 : 0 < w.heap.size) : Calls Tryz.prog 14 #[] w fun e w'=>e = .returned (.bool true) /\ Below w.heap.size w w':=by
 have hof:=Hd (of_any 3 w (by decide))
 replace hml:=Hd hml
 go_enter Tryz.func14,Tryz.ntmps14
 go_wp2_with fail
 refine hof.out.mono ?_
 rintro e W2 ⟨v2,rs,ps,rfl,⟨rv,pv,rfl,hgr⟩,hrs,hps,hb2⟩
 clear hof
 have hr17 : rs.length = 17:=by have:=congrArg List.length hrs; rw [List.length_map,exC_rule.1] at this; exact this
 have hp17 : ps.length = 17:=by have:=congrArg List.length hps; rw [List.length_map,exC_parts.1] at this; exact this
 obtain ⟨Ar,cr,hrv⟩:=hgr.own.form_
 obtain ⟨Ap,cp,hpv⟩:=hgr.ownp.form_
 rw [hr17] at hrv
 rw [hp17] at hpv
 subst hrv
 subst hpv
 obtain ⟨W3,hW3⟩ : ∃ W3,W3 = W2.alloc (.cells #[.slice Ar 17 cr,.slice Ap 17 cp] 56):=⟨_,rfl⟩
 have hb3 : Below W2.heap.size W2 W3:=by rw [hW3]; exact (Below.refl _ _).alloc (lQ _) _
 have kG:=Blk.new W2 56 #[.slice Ar 17 cr,.slice Ap 17 cp]
 rw [<- hW3] at kG
 have g0:=kG.cell 0
 have g1:=kG.cell 1
 have gl:=kG.lt
 simp at g0 g1
 go_upto_region 2 with fail
 rw [<- hW3]
 have hb23:=hb2.trans (hb3.mono hb2.size)
 have h1 : GramAt w.heap.size W3 (.slice Ar 17 cr) (.slice Ap 17 cp) rs ps:=hgr.keep ⟨hb3.size,fun b hb _=>hb3.block b hb⟩
 have hRP:=(h1.rulesP (P:=fun b=>w.heap.size <= b) fun b hb=>hb).lt
 have hPP:=(h1.parts (P:=fun b=>w.heap.size <= b) fun b hb=>hb).lt
 rw [hrs] at hRP
 rw [hps] at hPP
 clear h1 hgr hrs hps hr17 hp17 hb2 hb3 kG
 replace hW3:=Hd hW3
 obtain ⟨A1,c1,e1,-,-,hA1⟩:=hRP
 obtain ⟨rfl,-,rfl⟩:=Value.slice.inj e1
 obtain ⟨b1,o1,rfl,hb1,-,hi1⟩:=hA1 (by rw [exC_rule.1]; decide)
 obtain ⟨r0,iv,r1,hit⟩:=hi1 1 (by rw [exC_rule.1]; decide)
 clear hi1 hA1 e1
 obtain ⟨A2,c2,e2,-,-,hA2⟩:=hPP
 obtain ⟨rfl,-,rfl⟩:=Value.slice.inj e2
 obtain ⟨b2,o2,rfl,hb2,-,hi2⟩:=hA2 (by rw [exC_parts.1]; decide)
 obtain ⟨bv,p1,hby⟩:=hi2 1 (by rw [exC_parts.1]; decide)
 clear hi2 hA2 e2
 rw [exC_parts.2] at hby
 have hR:=exC_rule.2
 generalize (gramR 3).getD 1 PRule.zero = r3 at *
 obtain ⟨rl,rr⟩:=r3
 obtain ⟨hr1,hr2,hr3,hr4,hr5,hr6⟩:=hR
 simp only at r0 hit hr1 hr2 hr3 hr4 hr5 hr6
 obtain ⟨A3,c3,rfl,-,-,hA3⟩:=hit
 obtain ⟨b3,o3,rfl,hb3,-,hi3⟩:=hA3 (by omega)
 have i0:=(hi3 0 (by omega)).c0
 have i1:=(hi3 0 (by omega)).c1
 have i2:=(hi3 1 (by omega)).c0
 have i3:=(hi3 1 (by omega)).c1
 rw [hr3] at i0
 rw [hr4] at i1
 rw [hr5] at i2
 rw [hr6] at i3
 rw [hr1] at r0
 rw [hr2] at r1
 clear hi3 hA3 hr1 hr2 hr3 hr4 hr5 hr6 rr rl
 simp at r0 r1 p1 i0 i1 i2 i3
 have hby':=Hd hby
 clear hby
 obtain ⟨A4,c4,rfl,-⟩:=hby'.out
 have hb34:=Hd (hb23.alloc hb23.size (.cells #[.int .u8 0,.int .u8 1] 5))
 have hsb:=Hd (same_bytes (.slice A4 2 c4) (.slice (some ⟨W3.heap.size,0,none⟩) 2 2) [0,1] (W3.alloc (.cells #[.int .u8 0,.int .u8 1] 5)) (BytesP.keep hby'.out (by simp) (fun b o v hp hc=>(((Below.refl W3.heap.size W3).alloc (lQ _) _).cell (p:=⟨b,o,none⟩) hp).trans hc) fun _ _ _=>trivial) (bytes_new W3 [0,1] _ rfl (by decide)) (by decide))
 have hb23':=Hd hb23
 clear hb23
 go_wp2_with fail
 refine hsb.out.mono ?_
 rintro e W5 ⟨rfl,hb5⟩
 have h5:=Hd (hb34.out.trans (hb5.mono hb34.out.size))
 clear hsb hb5 hb34 hb23' g0 g1 r0 r1 p1 i0 i1 i2 i3 hb1 hb2 hb3 gl hby'
 replace hW3:=hW3
 have h6:=Hd (h5.out.alloc h5.out.size (.cells #[.string ⟨#[49,50,32,78,32,77,65,73,78,32,83,84]⟩,.string ⟨#[83,80,82,73,78,71,70,73,69,76,68,32,73,76,32,49,50,51,52,53]⟩] 9))
 have hst:=Hd (stream41 (.slice (some ⟨W5.heap.size,0,none⟩) 2 2) exL (W5.alloc (.cells #[.string ⟨#[49,50,32,78,32,77,65,73,78,32,83,84]⟩,.string ⟨#[83,80,82,73,78,71,70,73,69,76,68,32,73,76,32,49,50,51,52,53]⟩] 9)) (texts_new W5 exL _ rfl (by decide)) (by decide) ex_lines (by rw [ex_toks]; decide) (hml.out.below h6.out) (by have:=h6.out.size; omega))
 go_wp2_with fail
 refine hst.out.mono ?_
 rintro e W7 ⟨v7,rfl,ho7,hb7⟩
 clear hst
 obtain ⟨A7,c7,rfl⟩:=ho7.form_
 have h7:=Hd (h6.out.trans (hb7.mono h6.out.size))
 have hrd:=Hd (readings25 1 _ exT W7 (by decide) ho7.toks ex_len40 ex_small1 ex_right ex_small2 (hml.out.below h7.out) (by have:=h7.out.size; omega) ex_treeOK)
 clear ho7 hb7 h6 h5
 go_wp2_with fail
 refine hrd.out.mono ?_
 rintro e W8 ⟨v8,m8,rfl,ho8,hm8,hb8⟩
 clear hrd
 have h8:=Hd (h7.out.trans (hb8.mono h7.out.size))
 have hO8:=Hd (ho8.base rdIn_inner h7.out.size)
 have hm8' : Hid (m8.map MRead.read = exReads):=Hd (hm8.trans ex_readsT)
 have hl8 : m8.length = 8:=by have:=congrArg List.length hm8'.out; rw [List.length_map,ex_reads_len] at this; exact this
 obtain ⟨A8,c8,hv8⟩:=ho8.form_
 rw [hl8] at hv8
 subst hv8
 replace hl8:=Hd hl8
 clear ho8 hm8 hb8 h7
 have hnm:=Hd (name_of stJohn W8 (by decide) (plain_of ex_john))
 rw [ex_name] at hnm
 unfold saintJohn at hnm
 go_wp2_with fail
 refine hnm.out.mono ?_
 rintro e W9 ⟨rfl,hb9⟩
 clear hnm
 have h9:=Hd (h8.out.trans (hb9.mono h8.out.size))
 have hO9:=Hd (hO8.out.keep rdIn_inner (Keeps.of_below hb9 _))
 clear hO8 hb9 h8
 have h10:=Hd (h9.out.alloc h9.out.size (.cells #[.string ⟨#[55,32,53]⟩,.string ⟨#[56,32,66,69,82,78]⟩,.string ⟨#[49,48,32,51,48,48,48]⟩] 9))
 have hof3:=Hd (of37 3 (.slice (some ⟨W9.heap.size,0,none⟩) 3 3) exO3 (W9.alloc (.cells #[.string ⟨#[55,32,53]⟩,.string ⟨#[56,32,66,69,82,78]⟩,.string ⟨#[49,48,32,51,48,48,48]⟩] 9)) (texts_new W9 exO3 _ rfl (by decide)) exO3_kd (by decide))
 go_wp2_with fail
 refine hof3.out.mono ?_
 rintro e W11 ⟨pv,rfl,hp11,hb11⟩
 clear hof3
 obtain ⟨Ap1,cp1,rfl⟩:=hp11.form_
 have h11:=Hd (h10.out.trans (hb11.mono h10.out.size))
 have hO11:=Hd (hO9.out.keep rdIn_inner (Keeps.of_below (((Below.refl _ W9).alloc (lQ _) _).trans (hb11.mono (by simp))) _))
 have hln:=Hd (lines23 3 _ _ W11 (rdIn_parts (m:=⟨3,_,_⟩) (hp11.rdIn_ (P:=fun _=>True) (fun b _=>trivial) 3)) exO3_plain)
 rw [exO3_lines] at hln
 clear hp11 hb11 h10 hO9 h9
 go_wp2_with fail
 refine hln.out.mono ?_
 rintro e W12 ⟨lv3,rfl,hq12,hb12⟩
 clear hln
 have h12:=Hd (h11.out.trans (hb12.mono h11.out.size))
 have hO12:=Hd (hO11.out.keep rdIn_inner (Keeps.of_below hb12 _))
 have hT12:=Hd (hq12.base strIn_inner h11.out.size)
 obtain ⟨A12,c12,rfl⟩:=hq12.form_
 clear hq12 hb12 h11 hO11
 have hof2:=Hd (of37 2 (.slice (some ⟨W12.heap.size,0,none⟩) 5 5) exO2 (W12.alloc (.cells #[.string ⟨#[49,32,49,50]⟩,.string ⟨#[50,32,66]⟩,.string ⟨#[52,32,77,65,73,78]⟩,.string ⟨#[54,32,51]⟩,.string ⟨#[49,48,32,75,49,65,48,66,49]⟩] 9)) (texts_new W12 exO2 _ rfl (by decide)) exO2_kd (by decide))
 go_wp2_with fail
 refine hof2.out.mono ?_
 rintro e W13 ⟨pv,rfl,hp13,hb13⟩
 clear hof2
 obtain ⟨Ap2,cp2,rfl⟩:=hp13.form_
 have hb13':=((Below.refl _ W12).alloc (lQ _) _).trans (hb13.mono (by simp))
 have h13:=Hd (h12.out.trans (hb13'.mono h12.out.size))
 have hO13:=Hd (hO12.out.keep rdIn_inner (Keeps.of_below hb13' _))
 have hT13:=Hd (hT12.out.keep strIn_inner (Keeps.of_below hb13' _))
 have hln:=Hd (lines23 2 _ _ W13 (rdIn_parts (m:=⟨2,_,_⟩) (hp13.rdIn_ (P:=fun _=>True) (fun b _=>trivial) 2)) exO2_plain)
 rw [exO2_lines] at hln
 clear hp13 hb13 hb13' h12 hO12 hT12
 go_wp2_with fail
 refine hln.out.mono ?_
 rintro e W14 ⟨lv2,rfl,hq14,hb14⟩
 clear hln
 have h14:=Hd (h13.out.trans (hb14.mono h13.out.size))
 have hO14:=Hd (hO13.out.keep rdIn_inner (Keeps.of_below hb14 _))
 have hT14:=Hd (hT13.out.keep strIn_inner (Keeps.of_below hb14 _))
 have hU14:=Hd (hq14.base strIn_inner h13.out.size)
 obtain ⟨A14,c14,rfl⟩:=hq14.form_
 clear hq14 hb14 h13 hO13 hT13
 have hof1:=Hd (of37 1 (.slice (some ⟨W14.heap.size,0,none⟩) 7 7) exO1 (W14.alloc (.cells #[.string ⟨#[49,32,49,50]⟩,.string ⟨#[51,32,78,79,82,84,72]⟩,.string ⟨#[52,32,77,65,73,78]⟩,.string ⟨#[53,32,83,84,82,69,69,84]⟩,.string ⟨#[56,32,83,80,82,73,78,71,70,73,69,76,68]⟩,.string ⟨#[57,32,73,76]⟩,.string ⟨#[49,48,32,49,50,51,52,53]⟩] 9)) (texts_new W14 exO1 _ rfl (by decide)) exO1_kd (by decide))
 go_wp2_with fail
 refine hof1.out.mono ?_
 rintro e W15 ⟨pv,rfl,hp15,hb15⟩
 clear hof1
 obtain ⟨Ap3,cp3,rfl⟩:=hp15.form_
 have hb15':=((Below.refl _ W14).alloc (lQ _) _).trans (hb15.mono (by simp))
 have h15:=Hd (h14.out.trans (hb15'.mono h14.out.size))
 have hO15:=hO14.out.keep rdIn_inner (Keeps.of_below hb15' _)
 have hT15:=Hd (hT14.out.keep strIn_inner (Keeps.of_below hb15' _))
 have hU15:=Hd (hU14.out.keep strIn_inner (Keeps.of_below hb15' _))
 have hR15:=OwnReads.reads hO15
 rw [hm8'.out] at hR15
 have hhas:=Hd (has24 _ _ exReads 1 (exO1.map ofP) W15 hR15 (rdIn_parts (m:=⟨1,_,_⟩) (hp15.rdIn_ (P:=fun _=>True) (fun b _=>trivial) 1)) (by rw [ex_reads_len]; decide) (fun x hx=>by
  have:=List.all_eq_true.1 ex_psize x hx
  simp only [decide_eq_true_eq] at this
  omega))
 rw [exO1_has] at hhas
 clear hR15 hO15 hp15 hb15 hb15' h14 hO14 hT14 hU14 hm8'
 go_wp2_with fail
 refine hhas.out.mono ?_
 rintro e W16 ⟨rfl,hb16⟩
 clear hhas
 have h16:=Hd (h15.out.trans (hb16.mono h15.out.size))
 have hT16:=Hd (hT15.out.keep strIn_inner (Keeps.of_below hb16 _))
 have hU16:=Hd (hU15.out.keep strIn_inner (Keeps.of_below hb16 _))
 clear hb16 h15 hT15 hU15
 have hbx:=((Below.refl _ W16).alloc (lQ _) (.cells #[.string ⟨#[66,79,88,32,53]⟩,.string ⟨#[51,48,48,48,32,66,69,82,78]⟩] 9))
 have hT17:=hT16.out.keep strIn_inner (Keeps.of_below hbx _)
 have hs3:=Hd (same_texts (.slice A12 2 c12) (.slice (some ⟨W16.heap.size,0,none⟩) 2 2) exL3 (W16.alloc (.cells #[.string ⟨#[66,79,88,32,53]⟩,.string ⟨#[51,48,48,48,32,66,69,82,78]⟩] 9)) (OwnStrs.textsO hT17 (fun _ h=>h.elim)) (texts_new W16 exL3 _ rfl (by decide)) (by decide))
 have hbx':=Hd hbx
 clear hbx hT17
 go_wp2_with fail
 refine hs3.out.mono ?_
 rintro e W18 ⟨rfl,hb18⟩
 clear hs3
 have hb18':=hbx'.out.trans (hb18.mono hbx'.out.size)
 have h18:=Hd (h16.out.trans (hb18'.mono h16.out.size))
 have hU18:=Hd (hU16.out.keep strIn_inner (Keeps.of_below hb18' _))
 clear hb18 hb18' hbx' h16 hU16 hT16
 have hbx:=((Below.refl _ W18).alloc (lQ _) (.cells #[.string ⟨#[85,78,73,84,32,51]⟩,.string ⟨#[49,50,66,32,77,65,73,78]⟩,.string ⟨#[75,49,65,48,66,49]⟩] 9))
 have hU19:=hU18.out.keep strIn_inner (Keeps.of_below hbx _)
 have hs2:=Hd (same_texts (.slice A14 3 c14) (.slice (some ⟨W18.heap.size,0,none⟩) 3 3) exL2 (W18.alloc (.cells #[.string ⟨#[85,78,73,84,32,51]⟩,.string ⟨#[49,50,66,32,77,65,73,78]⟩,.string ⟨#[75,49,65,48,66,49]⟩] 9)) (OwnStrs.textsO hU19 (fun _ h=>h.elim)) (texts_new W18 exL2 _ rfl (by decide)) (by decide))
 have hbx':=Hd hbx
 clear hbx hU19
 go_wp2_with fail
 refine hs2.out.mono ?_
 rintro e W20 ⟨rfl,hb20⟩
 clear hs2
 have h20:=Hd (h18.out.trans ((hbx'.out.trans (hb20.mono hbx'.out.size)).mono h18.out.size))
 go_wp2_with fail
 go_ret
 exact ⟨rfl,h20.out⟩
end
end Go.Proofs.YteclineblddpbaaGreatDoorR
