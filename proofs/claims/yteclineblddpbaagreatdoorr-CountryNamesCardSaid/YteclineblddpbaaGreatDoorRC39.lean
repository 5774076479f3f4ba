import Derived.Test.YteclineblddpbaaGreatDoorRC01
import Derived.Test.YteclineblddpbaaGreatDoorRC11
import Derived.Test.YteclineblddpbaaGreatDoorRC16
import Derived.Test.YteclineblddpbaaGreatDoorRC17
import Derived.Test.YteclineblddpbaaGreatDoorRC34
import Derived.Test.YteclineblddpbaaGreatDoorRC37
import Derived.Deep.DeepCutAuto
import Derived.Deep.CutBlock
set_option linter.all false
set_option maxRecDepth 100000
set_option maxHeartbeats 0
namespace Go.Proofs.YteclineblddpbaaGreatDoorR
section
open Go Go.RowKit Go.Maps
def numTo (kd : ByteArray) : Nat -> Nat
 | 0=>0
 | k + 1=>10 * numTo kd k + (byteAt kd k - 48)
def numOf (kd : ByteArray) : Nat:=numTo kd kd.size
def ofP (s : ByteArray) : PPart:=⟨(numOf (cutS s).1 : Int),(cutS s).2.1⟩
def kdB (s : ByteArray) : Bool:=decide (s.size <= 1000) && decide ((cutS s).1.size <= 2) && allB isDigit (cutS s).1
theorem numTo_lt {kd : ByteArray} (h : ∀ i,i < kd.size -> 48 <= byteAt kd i /\ byteAt kd i <= 57) : ∀ k,k <= kd.size -> numTo kd k < 10 ^ k
 | 0,_=>by simp [numTo]
 | k + 1,hk=>by
  have ih:=numTo_lt h k (by omega)
  have:=h k (by omega)
  rw [numTo,Nat.pow_succ]
  omega
theorem kdB_spec {s : ByteArray} (h : kdB s = true) : s.size <= 1000 /\ (cutS s).1.size <= 2 /\ ∀ i,i < (cutS s).1.size -> 48 <= byteAt (cutS s).1 i /\ byteAt (cutS s).1 i <= 57:=by
 unfold kdB allB isDigit at h
 simp only [Bool.and_eq_true,decide_eq_true_eq,List.all_eq_true,List.mem_range] at h
 obtain ⟨⟨h1,h2⟩,h3⟩:=h
 refine ⟨h1,h2,fun i hi=>?_⟩
 have:=h3 i hi
 omega
theorem of37 (c : Int) (v : Value) (ss : List ByteArray) (w : World) (h : TextsO (fun _=>False) w v ss) (hss : ∀ s ∈ ss,kdB s = true) (hl : ss.length <= 1000) :
  Calls Tryz.prog 37 #[.int .u8 c,v] w fun e w'=>∃ pv,e = .returned (.agg #[.int .u8 c,pv]) /\ OwnParts w.heap.size w' pv (ss.map ofP) /\ Below w.heap.size w w':=by
 obtain ⟨A,ca,rfl,hn,hcm,hA⟩:=h
 have hA:=Hd hA
 unfold maxLen at hcm
 have hss:=Hd hss
 obtain ⟨i0,hi0,hz0,hz1,hz2⟩:=info_parts info44
 obtain ⟨W1,hW1⟩ : ∃ W1,W1 = (w.alloc (.cells #[.int .u8 0,.slice none 0 0] 42)).alloc (.cells #[.int .u8 c,.slice none 0 0] 42):=⟨_,rfl⟩
 have hb1 : Below w.heap.size w W1:=by rw [hW1]; exact ((Below.refl _ _).alloc (lQ _) _).alloc (by simp) _
 have kR : Blk W1 w.heap.size 42 #[.int .u8 0,.slice none 0 0]:=by rw [hW1]; exact (Blk.new _ _ _).alloc _
 have kG : Blk W1 (w.heap.size + 1) 42 #[.int .u8 c,.slice none 0 0]:=by rw [hW1]; exact Blk.new_at _ _ _ _ (by simp)
 go_enter Tryz.func37,Tryz.ntmps37
 go_upto_region 2 with fail
 rw [<- hW1]
 have hs1 : w.heap.size + 2 <= W1.heap.size:=by rw [hW1]; simp
 replace hW1:=Hd hW1
 obtain ⟨GB,hGB⟩ : ∃ GB,GB = w.heap.size + 1:=⟨_,rfl⟩
 rw [<- hGB] at kG ⊢
 obtain ⟨RB,hRB⟩ : ∃ RB,RB = w.heap.size:=⟨_,rfl⟩
 have hRBw:=Hd hRB
 rw [<- hRB] at kR
 rw [show (Value.pointer (some ⟨w.heap.size,0,none⟩)) = Value.pointer (some ⟨RB,0,none⟩) from by rw [hRB]]
 replace hRB:=Hd hRB
 replace hGB:=Hd hGB
 go_wp2_with fail
 go_loopw [6] (fun iv wr=>∃ (k : Nat) (pv : Value),k <= ss.length /\ iv = .int .i64 k /\ Below w.heap.size w wr /\ Hid (Blk wr RB 42 #[.int .u8 0,.slice none 0 0]) /\ Hid (Blk wr GB 42 #[.int .u8 c,pv]) /\ OwnParts (w.heap.size + 2) wr pv ((ss.take k).map ofP))
  (fun iv _=>ss.length - (intOf iv).toNat)
 case atStart=>exact ⟨0,_,by omega,rfl,hb1,Hd kR,Hd kG,OwnL.nil_⟩
 case round=>
  obtain ⟨k,pv,hk,rfl,hbw,kRr,kGr,hown⟩:=hrel
  rename World=>wr
  have n0 : (0 : Int) <= (k : Int):=by omega
  clear hb1 kR kG
  obtain ⟨o,ho⟩ : ∃ o,o = (ss.take k).map ofP:=⟨_,rfl⟩
  rw [<- ho] at hown
  have hol : o.length <= 1000:=by rw [ho,List.length_map,List.length_take]; omega
  replace ho:=Hd ho
  obtain ⟨A3,c3,rfl⟩:=hown.form_
  have hown':=Hd hown
  clear hown
  by_cases hlt : k < ss.length
  ·have n1 : (k : Int) < (ss.length : Int):=by omega
   obtain ⟨b,off,rfl,hb,-,hi⟩:=hA.out (by omega)
   have e1 : wr.cell? ⟨b,off + k,none⟩ = some (.string (ss.getD k ByteArray.empty)):=(hbw.cell (p:=⟨b,off + k,none⟩) hb).trans (hi k hlt)
   have hsk:=hss.out (ss.getD k ByteArray.empty) (by rw [getD_at _ _ _ hlt]; exact List.getElem_mem hlt)
   have hst : Hid ((ss.take (k + 1)).map ofP = o ++ [ofP (ss.getD k ByteArray.empty)]):=Hd (by rw [ho.out,List.take_succ_eq_append_getElem hlt,List.map_append,getD_at _ _ _ hlt]; rfl)
   have hblr : b < wr.heap.size:=Nat.lt_of_lt_of_le hb hbw.size
   clear hi
   generalize ss.getD k ByteArray.empty = s at *
   obtain ⟨hs1',hs2,hs3⟩:=kdB_spec hsk
   have hcut:=Hd (cut_blank s wr (by omega))
   have hof : Hid (ofP s = ⟨(numOf (cutS s).1 : Int),(cutS s).2.1⟩):=Hd rfl
   have hs4 : (cutS s).2.1.size <= 1000:=Nat.le_trans (cutS_size s).2 hs1'
   clear hsk hs1'
   generalize (cutS s).2.2 = z at *
   generalize (cutS s).2.1 = tx at *
   generalize (cutS s).1 = kd at *
   have hn10:=Hd (numTo_lt hs3)
   replace hs3:=Hd hs3
   go_wp2_with fail
   refine hcut.out.mono ?_
   rintro e w5 ⟨rfl,hb5⟩
   have hs5:=hb5.size
   have hsr:=hbw.size
   clear hcut e1
   have hbw':=Hd hbw
   have hb5':=Hd hb5
   clear hbw hb5
   go_wp2_with fail
   go_loop [10,11] (fun nv iv=>∃ j : Nat,j <= kd.size /\ iv = .int .i64 j /\ nv = .int .i64 (numTo kd j)) (fun _ iv=>kd.size - (intOf iv).toNat)
   case atStart=>exact ⟨0,by omega,rfl,rfl⟩
   case round=>
    obtain ⟨j,hj,rfl,rfl⟩:=hrel
    have j0 : (0 : Int) <= (j : Int):=by omega
    have hnj:=hn10.out j hj
    have hn100 : numTo kd j < 100:=by
     have : (10 : Nat) ^ j <= 10 ^ 2:=Nat.pow_le_pow_right (by omega) (by omega)
     omega
    clear hnj
    by_cases hlt2 : j < kd.size
    ·have j1 : (j : Int) < (kd.size : Int):=by omega
     have hb : byteAt kd j = (kd[j]'hlt2).toNat:=by unfold byteAt; rw [dif_pos hlt2]
     have h48:=hs3.out j hlt2
     have hnx : Hid (numTo kd (j + 1) = 10 * numTo kd j + (byteAt kd j - 48)):=Hd rfl
     obtain ⟨d,hd⟩ : ∃ d,d = byteAt kd j - 48:=⟨_,rfl⟩
     rw [<- hd] at hnx
     have hd9 : d <= 9:=by omega
     have q1 : IntKind.u8.wrap (((kd[j]'hlt2).toNat : Int) - 48) = (d : Int):=by
      rw [<- hb]
      simp [IntKind.wrap,IntKind.bits,IntKind.signed]
      omega
     clear hb h48 hd
     generalize numTo kd j = n at *
     go_wp2_with fail
     go_round
     case rel=>exact ⟨j + 1,by omega,by go_num,by rw [hnx.out]; exact congrArg _ (by omega)⟩
     case measure=>simp [intOf]; omega
    ·obtain rfl : j = kd.size:=by omega
     have hof2 : Hid (ofP s = ⟨(numTo kd kd.size : Int),tx⟩):=Hd (by rw [hof.out]; rfl)
     clear hof
     generalize numTo kd kd.size = n at *
     have q1 : IntKind.u8.wrap (n : Int) = (n : Int):=by
      simp [IntKind.wrap,IntKind.bits,IntKind.signed]
      omega
     have kG5:=Hd (kGr.out.below hb5'.out kGr.out.lt)
     have kR5:=Hd (kRr.out.below hb5'.out kRr.out.lt)
     have y1:=kG5.out.cell 1
     have yl:=kG5.out.lt
     simp at y1
     have hA5 : Hid (Below wr.heap.size wr (w5.alloc (.cells #[.int .u8 (n : Int),.string tx] 44))):=Hd (hb5'.out.alloc hs5 _)
     have hoA:=Hd (hown'.out.keep partIn_inner (Keeps.of_below hA5.out _))
     have hkA:=Hd (kG5.out.alloc (.cells #[.int .u8 (n : Int),.string tx] 44))
     have sd1 : o.length + 1 <= maxLen:=by unfold maxLen; omega
     have sd4 : (o.length + 1) * 24 <= 140737488355328:=by omega
     have hGw : GB < w.heap.size + 2 /\ w.heap.size <= GB:=by have:=hGB.out; omega
     have hGw':=Hd hGw
     clear hGw
     have hw2 : w.heap.size + 2 <= wr.heap.size:=by have:=kGr.out.lt; have:=hGB.out; omega
     go_wp2_with (at_builtin; refine wpList_append_lies _ rfl (.tmp 44) (.tmp 49) 40 rfl (w.heap.size + 2) 44 i0 (.agg #[.int .u8 0,.string ⟨#[]⟩]) 2 24 Tryz.underlying40 hi0 hz0 hz1 hz2 rfl (by decide) (.slice A3 o.length c3) o.length (o.flatMap partCells) rfl (by exact hoA.out.1) ⟨w5.heap.size,0,none⟩ 1 1 [.int .u8 (n : Int),.string tx] rfl rfl (by exact World.news_of_block (cs:=#[.int .u8 (n : Int),.string tx]) (heap_alloc_new _ _)) (by exact one2' rfl rfl) Nat.one_pos sd1 sd4 (by simp; omega) (w5.heap.size + 1) (by simp) ?_; intro g9 cap9 w9 hown9 hgr9 hat9 hlt9; have hT9:=hkA.out.grown hgr9 (fun e=>by have:=(hoA.out.1.lt GB e.symm).1; have:=hGw'.out; omega); have z1:=hT9.cell 1; have z2:=hT9.frozen 1; have z3:=hT9.lt; simp at z1)
     have hF:=field_append (i:=1) (T:=42) (a:=(⟨(n : Int),tx⟩ : PPart)) partIn_inner hbw'.out kGr.out hown'.out hA5.out (by have:=hGw'.out; omega) hGw'.out.2 trivial hown9 rfl hgr9 (hat9.imp_right (fun e=>by simp [e]))
     have hR9 : Hid (Blk (w9.setCell ⟨GB,1,none⟩ (.slice (some ⟨g9,0,none⟩) (o.length + 1) cap9)) RB 42 #[.int .u8 0,.slice none 0 0]):=Hd (((kR5.out.alloc _).grown hgr9 (fun e=>by have:=(hoA.out.1.lt RB e.symm).1; have:=hRBw.out; omega)).far (p:=⟨GB,1,none⟩) (fun e=>by have h1 : RB = GB:=e; have:=hRBw.out; have:=hGB.out; omega) _)
     obtain ⟨f1,f2,f3⟩:=hF
     go_roundw
     case rel=>exact ⟨k + 1,_,by omega,by go_num,f1,hR9,Hd (by simpa using f2),by rw [hst.out,hof2.out]; exact f3⟩
     case measure=>simp [intOf]; omega
  ·obtain rfl : k = ss.length:=by omega
   have hfin : Hid (OwnParts (w.heap.size + 2) wr (.slice A3 o.length c3) (ss.map ofP)):=Hd (by
    have e:=ho.out
    rw [List.take_length] at e
    rw [<- e]
    exact hown'.out)
   have y0:=kGr.out.cell 0
   have y1:=kGr.out.cell 1
   have yl:=kGr.out.lt
   have r0:=kRr.out.cell 0
   have r1:=kRr.out.cell 1
   have r2:=kRr.out.frozen 0
   have r3:=kRr.out.frozen 1
   have rl:=kRr.out.lt
   simp at y0 y1 r0 r1
   have hbw':=Hd hbw
   clear hbw
   go_wp2_with fail
   refine bodyPost_ret (results_cell_row (P:=Tryz.prog) Tryz.results37 _ _ _ _ _ _ _ rfl ((kRr.out.set_ 0 (.int .u8 c)).set_ 1 (.slice A3 o.length c3)) Tryz.underlying42 rfl (by kernel_rfl)) rfl ?_
   have hRw:=hRBw.out
   refine ⟨.slice A3 o.length c3,by simp,?_,(hbw'.out.setCell (p:=⟨RB,0,none⟩) (Nat.le_of_eq hRw.symm) _).setCell (p:=⟨RB,1,none⟩) (Nat.le_of_eq hRw.symm) _⟩
   exact ((hfin.out.keep partIn_inner (Keeps.set_ _ _ _ (by simp; omega))).keep partIn_inner (Keeps.set_ _ _ _ (by simp; omega))).base partIn_inner (by omega)
end
section
open Go Go.RowKit Go.Maps
def theres (ws : List ByteArray) : List ByteArray:=ws.filter fun x=>decide (x.size ≠ 0)
def lineP (ws : List ByteArray) : List ByteArray:=if (theres ws).length = 0 then [] else [joinS (theres ws)]
theorem theres_len (ws : List ByteArray) : (theres ws).length <= ws.length:=List.length_filter_le _ _
theorem joinS_size (M : Nat) (ws : List ByteArray) (h : ∀ x ∈ ws,x.size <= M) : (joinS ws).size <= ws.length * (M + 1):=by
 have hjl:=join_len [32] M (ws.map (·.data.toList)) (fun l hl=>by
  obtain ⟨y,hy,rfl⟩:=List.mem_map.1 hl
  have:=h y hy
  rw [<- Lib.size_eq]; exact this)
 rw [List.length_map] at hjl
 rw [Lib.size_eq]
 exact hjl
attribute [local go_sem] Oper.semAt_some
theorem line59 (ws ls : List ByteArray) (g cw LB B : Nat) (lv : Value) (w : World) (hw : ∀ (i : Nat) x,ws[i]? = some x -> w.cell? ⟨g,i,none⟩ = some (.string x)) (hg : g < w.heap.size) (hc1 : ws.length <= cw) (hc2 : cw <= 1000) (hL : Blk w LB 22 #[lv]) (hls : OwnStrs B w lv ls) (hLB : LB < B) (hBw : B <= w.heap.size)
  (hsz : ∀ x ∈ ws,x.size <= 10000000) (hll : ls.length <= 1000) :
  Calls Tryz.prog 59 #[.slice (some ⟨g,0,none⟩) ws.length cw,.pointer (some ⟨LB,0,none⟩)] w fun e w'=>e = .returned (.tuple #[]) /\ ∃ lv',Blk w' LB 22 #[lv'] /\ OwnStrs B w' lv' (ls ++ lineP ws) /\ Below LB w w':=by
 obtain ⟨i0,hi0,hz0,hz1,hz2⟩:=info_parts info9
 obtain ⟨Al,cl,rfl⟩:=hls.form_
 have hw:=Hd hw
 have hsz:=Hd hsz
 have hL':=Hd hL
 have hls':=Hd hls
 clear hL hls
 go_enter Tryz.func59,Tryz.ntmps59
 go_wp2_with fail
 go_loopw [3,8] (fun ov iv wr=>∃ (k : Nat) (o : List ByteArray),k <= ws.length /\ iv = .int .i64 k /\ Below w.heap.size w wr /\ OwnStrs w.heap.size wr ov o /\ Hid (o = theres (ws.take k)))
  (fun _ iv _=>ws.length - (intOf iv).toNat)
 case atStart=>exact ⟨0,[],by omega,rfl,Below.refl _ _,OwnL.nil_,Hd rfl⟩
 case round=>
  obtain ⟨k,o,hk,rfl,hbw,hown,ho⟩:=hrel
  rename World=>wr
  have n0 : (0 : Int) <= (k : Int):=by omega
  have hol : o.length <= 1000:=by
   rw [ho.out]
   have:=theres_len (ws.take k)
   rw [List.length_take] at this
   omega
  obtain ⟨A3,c3,rfl⟩:=hown.form_
  have hown':=Hd hown
  clear hown
  by_cases hlt : k < ws.length
  ·have n1 : (k : Int) < (ws.length : Int):=by omega
   have e1:=(hbw.cell (p:=⟨g,k,none⟩) hg).trans (hw.out k ws[k] (List.getElem?_eq_getElem hlt))
   have hxs:=hsz.out ws[k] (List.getElem_mem hlt)
   have hst : Hid (theres (ws.take (k + 1)) = o ++ theres [ws[k]]):=Hd (by
    rw [ho.out,List.take_succ_eq_append_getElem hlt]
    unfold theres
    rw [List.filter_append])
   have hgr : g < wr.heap.size:=Nat.lt_of_lt_of_le hg hbw.size
   generalize ws[k] = x at *
   by_cases hx : x.size = 0
   ·have yq : x.toList.isEmpty = true:=by rw [empty_tl]; exact decide_eq_true hx
    have hst2 : Hid (theres (ws.take (k + 1)) = o):=Hd (by rw [hst.out]; unfold theres; rw [List.filter_cons_of_neg (by rw [decide_eq_true_eq]; exact fun h=>h hx),List.filter_nil,List.append_nil])
    clear hx hst
    go_wp2_with fail
    go_roundw
    case rel=>exact ⟨k + 1,o,by omega,by go_num,hbw,hown'.out,Hd hst2.out.symm⟩
    case measure=>simp [intOf]; omega
   ·have yq : x.toList.isEmpty = false:=by rw [empty_tl]; exact decide_eq_false hx
    have hst2 : Hid (theres (ws.take (k + 1)) = o ++ [x]):=Hd (by rw [hst.out]; unfold theres; rw [List.filter_cons_of_pos (by rw [decide_eq_true_eq]; exact hx),List.filter_nil])
    clear hx hst
    have hwB : Below wr.heap.size wr (wr.alloc (.cells #[.string x] 9)):=(Below.refl _ _).alloc (lQ _) _
    have hoA:=Hd (hown'.out.keep strIn_inner (Keeps.of_below hwB _))
    have hs0:=hbw.size
    have sd1 : o.length + 1 <= maxLen:=by unfold maxLen; omega
    have sd4 : (o.length + 1) * 16 <= 140737488355328:=by omega
    go_wp2_with (at_builtin; refine wpList_append_lies _ rfl (.tmp 14) (.tmp 16) 22 rfl w.heap.size 9 i0 (.string ⟨#[]⟩) 1 16 Tryz.underlying22 hi0 hz0 hz1 hz2 rfl (by decide) (.slice A3 o.length c3) o.length (o.flatMap strCells) rfl (by exact hoA.out.1) ⟨wr.heap.size,0,none⟩ 1 1 [.string x] rfl rfl (by exact World.news_of_block (cs:=#[.string x]) (heap_alloc_new _ _)) (fun u hu=>by rcases mS.1 hu with rfl; rfl) Nat.one_pos sd1 sd4 (by simp; omega) (wr.heap.size + 1) (by simp) ?_; intro g9 cap9 w9 hown9 hgr9 hat9 hlt9)
    have hR:=slot_append strIn_inner (a:=x) hbw hown'.out hwB (lQ _) hbw.size (show x.size <= maxLen from by unfold maxLen; omega) hown9 rfl hgr9 (hat9.imp_right (fun e=>by simp [e]))
    clear hown9 hgr9 hat9 hlt9
    go_roundw
    case rel=>exact ⟨k + 1,_,by omega,by go_num,hR.1,by simpa using hR.2,Hd hst2.out.symm⟩
    case measure=>simp [intOf]; omega
  ·obtain rfl : k = ws.length:=by omega
   have hth : Hid (theres ws = o):=Hd (by rw [ho.out,List.take_length])
   have hLr:=Hd (hL'.out.below hbw hL'.out.lt)
   have hlr:=Hd (hls'.out.keep strIn_inner (Keeps.of_below hbw _))
   have hsr:=hbw.size
   have hbL:=Hd (hbw.mono (B':=LB) (by omega))
   by_cases h0 : o.length = 0
   ·have e0 : decide ((o.length : Int) > 0) = false:=decide_eq_false (by omega)
    have e1 : ¬ (o.length : Int) > 0:=by omega
    have hlp : Hid (ls ++ lineP ws = ls):=Hd (by unfold lineP; rw [hth.out,if_pos h0,List.append_nil])
    replace h0:=Hd h0
    go_wp2_with fail
    go_end0
    exact ⟨rfl,_,hLr.out,by rw [hlp.out]; exact hlr.out,hbL.out⟩
   ·have e1 : (o.length : Int) > 0:=by omega
    have hlp : Hid (ls ++ lineP ws = ls ++ [joinS o]):=Hd (by unfold lineP; rw [hth.out,if_neg h0])
    have hp0 : 0 < o.length:=by omega
    have hoz : Hid (∀ x ∈ o,x.size <= 10000000):=Hd fun x hx=>by
     rw [<- hth.out] at hx
     exact hsz.out x (List.mem_filter.1 hx).1
    clear h0 hth ho
    obtain ⟨gt,ct,et,hgt1,hgt2,hct1,hct2⟩:=hown'.out.ref hp0
    obtain ⟨rfl,-,rfl⟩:=Value.slice.inj et
    clear et
    have hocell:=Hd (fun j x (h : o[j]? = some x)=>own_cell hown'.out j x h)
    have hjs:=joinS_size 10000000 o hoz.out
    have hx0:=hLr.out.cell 0
    simp at hx0
    have hlt9:=hLr.out.lt
    go_upto_region 8 with fail
    refine wp_region_flow (C:=fun w2=>w2.cell? ⟨LB,0,none⟩ = some (.slice Al ls.length cl)) [true,true,false,false,false] [2,3,4] _ (by kernel_rfl) (by kernel_rfl) (by kernel_rfl) rfl (by rfl) (by kernel_rfl)
     (fun w2 hb=>(hb.cell (p:=⟨LB,0,none⟩) hlt9).trans hx0) ?A1 ?q1 ?t1
    case q1=>
     intro S hS hSC hne
     have y0:=fun (u : UpsC S)=>hSC u.wld u.mem
     simp only [pickB,if_true,if_false,Bool.false_eq_true]
     repeat (go_big_quiet_step (fail))
     refine wpQuiet_nil ?_
     rfl
    simp only [pickB,if_true,if_false,Bool.false_eq_true]
    refine mkL_cons rfl fun w3 hb3 Q' hQ'=>?_
    have hjn : Hid (Calls Tryz.prog 29 #[.slice (some ⟨gt,0,none⟩) o.length c3,.string ⟨#[32]⟩] w3 fun e w'=>e = .returned (.string (joinS o)) /\ Below w3.heap.size w3 w'):=Hd (Sh.strings_Join gt 0 c3 o ⟨#[32]⟩ w3 (fun j x hx=>by rw [Nat.zero_add]; exact (hb3.cell (p:=⟨gt,j,none⟩) hgt2).trans (hocell.out j x hx)) (Nat.lt_of_lt_of_le hgt2 hb3.size) (by omega) hct1 (by
     have h1:=hjs
     have h2 : (joinS o).size = (Lib.join (o.map (·.data.toList)) [32]).length:=by rw [Lib.size_eq]; rfl
     rw [h2] at h1
     refine Nat.le_trans h1 ?_
     have : o.length * (10000000 + 1) <= 1000 * (10000000 + 1):=Nat.mul_le_mul_right _ hol
     omega))
    have hjs2 : (joinS o).size <= maxLen:=by
     refine Nat.le_trans hjs ?_
     have : o.length * (10000000 + 1) <= 1000 * (10000000 + 1):=Nat.mul_le_mul_right _ hol
     unfold maxLen
     omega
    replace hjs:=Hd hjs
    replace hjs2:=Hd hjs2
    have hb3':=Hd hb3
    clear hb3 hx0
    go_wp2_with fail
    refine hjn.out.mono ?_
    rintro e w4 ⟨rfl,hb4⟩
    clear hjn
    have hb4':=hb3'.out.trans (hb4.mono hb3'.out.size)
    clear hb3' hb4
    generalize joinS o = jo at *
    go_wp2_with fail
    have hx0:=hLr.out.cell 0
    simp at hx0
    refine hQ' _ _ rfl (fun w5 hb5=>((hb4'.trans (hb5.mono hb4'.size)).cell (p:=⟨LB,0,none⟩) hlt9).trans hx0) ?_
    clear hQ'
    refine mkL_cons rfl fun w5 hb5 Q' hQ'=>?_
    have hb5':=hb4'.trans (hb5.mono hb4'.size)
    clear hb5 hb4'
    have hb6:=Hd (hb5'.alloc hb5'.size (.cells #[.string jo] 9))
    have hn6:=Hd (Blk.new w5 9 #[.string jo])
    have hs5:=hb5'.size
    clear hb5'
    have hx0':=Hd hx0
    clear hx0
    go_wp2_with fail
    refine hQ' _ _ rfl (fun w7 hb7=>((hb6.out.trans (hb7.mono hb6.out.size)).cell (p:=⟨LB,0,none⟩) hlt9).trans hx0'.out) ?_
    clear hQ'
    refine mkL_cons rfl fun w7 hb7 Q' hQ'=>?_
    have hb7':=Hd (hb6.out.trans (hb7.mono hb6.out.size))
    have hn7:=Hd (hn6.out.below hb7 hn6.out.lt)
    have ho7:=Hd (hlr.out.keep strIn_inner (Keeps.of_below (hb7'.out.mono (by omega)) _))
    generalize hG : w5.heap.size = G5 at *
    replace hG:=Hd hG
    have hb7s:=hb7'.out.size
    clear hb7 hb6 hn6
    have sd1 : ls.length + 1 <= maxLen:=by unfold maxLen; omega
    have sd4 : (ls.length + 1) * 16 <= 140737488355328:=by omega
    (refine wpList_append_lies _ rfl (.tmp 22) (.tmp 25) 22 rfl B 9 i0 (.string ⟨#[]⟩) 1 16 Tryz.underlying22 hi0 hz0 hz1 hz2 rfl (by decide) (.slice Al ls.length cl) ls.length (ls.flatMap strCells) rfl (by exact ho7.out.1) ⟨G5,0,none⟩ 1 1 [.string jo] rfl rfl (by exact World.news_of_block (cs:=#[.string jo]) hn7.out) (fun u hu=>by rcases mS.1 hu with rfl; rfl) Nat.one_pos sd1 sd4 (by omega) w7.heap.size rfl ?_; intro g9 cap9 w9 hown9 hgr9 hat9 hlt9')
    have hgr9':=Hd hgr9
    have hown9':=Hd hown9
    have hat9':=Hd hat9
    clear hgr9 hown9 hat9
    have hNe : Hid (∀ h,(Value.slice Al ls.length cl).ownBlock = some h -> B <= h):=Hd fun h e=>(ho7.out.1.lt h e).1
    have hT9 : Hid (Blk w9 LB 22 #[.slice Al ls.length cl]):=Hd ((hLr.out.below hb7'.out hLr.out.lt).grown hgr9'.out (fun e=>by have:=hNe.out _ e.symm; omega))
    apply wpList_nil
    refine hQ' _ _ rfl (fun w10 hb10=>by
     have h1:=hT9.out.below hb10 hT9.out.lt
     have h2:=h1.cell 0
     simpa using h2) ?_
    clear hQ'
    intro w10 hb10
    have hT10:=hT9.out.below hb10 hT9.out.lt
    have z0:=hT10.cell 0
    have f0:=hT10.frozen 0
    have l0:=hT10.lt
    have hb10':=Hd hb10
    simp at z0
    clear hb10
    simp only [Act.put,sX,sS,sZ]
    go_wp2_with fail
    clear z0 f0 l0
    obtain ⟨k1,k2,k3,-,-⟩:=box_append (a:=jo) strIn_inner hb7'.out hlr.out hLr.out hLB (by omega) (show jo.size <= maxLen from hjs2.out) hown9'.out rfl hgr9'.out (hat9'.out.imp_right (fun e=>by rw [e]; exact lQ _)) hb10'.out
    go_end0
    refine ⟨rfl,_,k2,by rw [hlp.out]; exact k3,k1.below hbL.out (by omega) (fun b hb h=>?_)⟩
    rcases h with h | h
    ·omega
    ·have:=hNe.out b h
     omega
end
section
open Go Go.RowKit Go.Maps
def unitB : ByteArray:=⟨#[85,78,73,84]⟩
def boxB : ByteArray:=⟨#[66,79,88]⟩
def lines1 (f : Nat -> ByteArray) : List ByteArray:=if (f 6).size = 0 then [] else lineP [unitB,f 6]
def lines2 (c : Int) (f : Nat -> ByteArray) : List ByteArray:=if (f 7).size ≠ 0 then lineP [boxB,f 7] else if c = 3 then lineP [f 4,f 5,f 1 ++ f 2] else lineP [f 1 ++ f 2,f 3,f 4,f 5]
def lines3 (c : Int) (f : Nat -> ByteArray) : List ByteArray:=if c = 1 then lineP [f 8,f 9,f 10] else if c = 2 then lineP [f 8] ++ lineP [f 10] else lineP [f 10,f 8]
def linesF (c : Int) (f : Nat -> ByteArray) : List ByteArray:=lines1 f ++ lines2 c f ++ lines3 c f
def foundF (ps : List PPart) (k : Nat) : ByteArray:=(foundOf ps).getD k ⟨#[]⟩
def linesP (c : Int) (ps : List PPart) : List ByteArray × Int:=
 if rightP c ps then (if (linesF c (foundF ps)).all fun l=>decide (l.size <= 60) then (linesF c (foundF ps),0) else ([],3)) else ([],101)
theorem found_size {M : Nat} (ps : List PPart) (h : ∀ p ∈ ps,p.text.size <= M) (k : Nat) : (foundF ps k).size <= M:=by
 have key : ∀ (l : List PPart) (fd : List ByteArray),(∀ p ∈ l,p.text.size <= M) -> (∀ x ∈ fd,x.size <= M) -> ∀ x ∈ l.foldl putP fd,x.size <= M:=by
  intro l
  induction l with
  | nil=>intro fd _ h2; exact h2
  | cons p l ih=>
   intro fd h1 h2
   refine ih _ (fun q hq=>h1 q (List.mem_cons_of_mem _ hq)) fun x hx=>?_
   rcases List.mem_or_eq_of_mem_set hx with hx | rfl
   ·exact h2 x hx
   ·exact h1 p (List.mem_cons_self ..)
 unfold foundF foundOf
 rw [List.getD_eq_getElem?_getD]
 cases hq : (ps.foldl putP zeros11)[k]? with
 | none=>exact Nat.zero_le _
 | some x=>
  refine key ps zeros11 h (fun x hx=>?_) x (List.mem_of_getElem? hq)
  rw [List.eq_of_mem_replicate hx]
  exact Nat.zero_le _
structure LinesS (w : World) (c : Int) (v : Value) (cs : Array Value) (BB FB LB : Nat) (ls : List ByteArray) (W : World) : Prop where
 below : Below w.heap.size w W
 box : Blk W BB 42 #[.int .u8 c,v]
 tx : Blk W FB 109 cs
 ln : ∃ lv,Blk W LB 22 #[lv] /\ OwnStrs (LB + 1) W lv ls
theorem LinesS.call {w : World} {c : Int} {v : Value} {cs : Array Value} {BB FB LB : Nat} {ls : List ByteArray} {W : World} (h : LinesS w c v cs BB FB LB ls W) (h1 : w.heap.size <= BB) (h2 : BB < FB) (h3 : FB < LB) (ws : List ByteArray) (ds : Array Value) (hds : ds = (ws.map Value.string).toArray) (hw : ws.length <= 10) (hsz : ∀ x ∈ ws,x.size <= 10000000) (hll : ls.length <= 1000) :
  Calls Tryz.prog 59 #[.slice (some ⟨W.heap.size,0,none⟩) ws.length ws.length,.pointer (some ⟨LB,0,none⟩)] (W.alloc (.cells ds 9)) fun e w'=>e = .returned (.tuple #[]) /\ LinesS w c v cs BB FB LB (ls ++ lineP ws) w':=by
 subst hds
 obtain ⟨lv,k1,k2⟩:=h.ln
 have hb : Below W.heap.size W (W.alloc (.cells (ws.map Value.string).toArray 9)):=(Below.refl _ _).alloc (lQ _) _
 have hl:=k1.lt
 refine (line59 ws ls W.heap.size ws.length LB (LB + 1) lv _ (fun i x hx=>?_) (by simp) (lQ _) (by omega) (k1.alloc _) (k2.keep strIn_inner (Keeps.of_below (hb.mono (by omega)) _)) (by omega) (by simp; omega) hsz hll).mono ?_
 ·rw [(Blk.new W 9 _).cell i,List.getElem?_toArray,List.getElem?_map,hx]
  rfl
 ·rintro e w' ⟨rfl,lv',k3,k4,k5⟩
  have hbl:=h.below.size
  refine ⟨rfl,?_,((h.box.alloc _).below k5 (by omega)),((h.tx.alloc _).below k5 (by omega)),lv',k3,k4⟩
  exact (h.below.alloc h.below.size _).trans (k5.mono (by omega))
theorem LinesS.up {w : World} {c : Int} {v : Value} {cs : Array Value} {BB FB LB : Nat} {ls : List ByteArray} {W W' : World} (h : LinesS w c v cs BB FB LB ls W) (hB : LB + 1 <= W.heap.size) (hb : Below W.heap.size W W') : LinesS w c v cs BB FB LB ls W':=by
 obtain ⟨lv,k1,k2⟩:=h.ln
 exact ⟨h.below.trans (hb.mono h.below.size),h.box.below hb h.box.lt,h.tx.below hb h.tx.lt,lv,k1.below hb k1.lt,k2.keep strIn_inner (Keeps.of_below hb _)⟩
theorem LinesS.lt {w : World} {c : Int} {v : Value} {cs : Array Value} {BB FB LB : Nat} {ls : List ByteArray} {W : World} (h : LinesS w c v cs BB FB LB ls W) : LB + 1 <= W.heap.size:=by
 obtain ⟨lv,k1,k2⟩:=h.ln
 exact k1.lt
theorem lineP_len (ws : List ByteArray) : (lineP ws).length <= 1:=by
 unfold lineP
 split <;> simp
theorem lines1_len (f : Nat -> ByteArray) : (lines1 f).length <= 1:=by
 unfold lines1
 split
 ·simp
 ·exact lineP_len _
theorem lines2_len (c : Int) (f : Nat -> ByteArray) : (lines2 c f).length <= 1:=by
 unfold lines2
 split
 ·exact lineP_len _
 ·split <;> exact lineP_len _
theorem lines3_len (c : Int) (f : Nat -> ByteArray) : (lines3 c f).length <= 2:=by
 unfold lines3
 split
 ·exact Nat.le_trans (lineP_len _) (by decide)
 ·split
  ·rw [List.length_append]
   have:=lineP_len [f 8]
   have:=lineP_len [f 10]
   omega
  ·exact Nat.le_trans (lineP_len _) (by decide)
theorem linesF_len (c : Int) (f : Nat -> ByteArray) : (linesF c f).length <= 4:=by
 unfold linesF
 rw [List.length_append,List.length_append]
 have:=lines1_len f
 have:=lines2_len c f
 have:=lines3_len c f
 omega
theorem one_strs' (l : List ByteArray) : ((l.map Value.string).toArray).all (·.oneCell') = true:=one_strs l
theorem lines23 (c : Int) (v : Value) (ps : List PPart) (w : World) (hv : IsParts w v ps) (hps : ∀ p ∈ ps,p.text.size <= 1000000 /\ 0 <= p.kind /\ p.kind <= 255) :
  Calls Tryz.prog 23 #[.agg #[.int .u8 c,v]] w fun e w'=>∃ lv,e = .returned (.tuple #[lv,.int .i64 (linesP c ps).2]) /\ OwnStrs w.heap.size w' lv (linesP c ps).1 /\ Below w.heap.size w w':=by
 have hfs:=Hd (found_size ps fun p hp=>(hps p hp).1)
 obtain ⟨W1,hW1⟩ : ∃ W1,W1 = w.alloc (.cells #[.int .u8 c,v] 42):=⟨_,rfl⟩
 have hb1 : Below w.heap.size w W1:=by rw [hW1]; exact (Below.refl _ _).alloc (lQ _) _
 have hs1 : W1.heap.size = w.heap.size + 1:=by rw [hW1]; simp
 have kB : Blk W1 w.heap.size 42 #[.int .u8 c,v]:=by rw [hW1]; exact Blk.new _ _ _
 have hpo:=Hd (partsOf_any c v ps W1 (hv.stays (Stays.of hb1)) hps)
 obtain ⟨A,cv,rfl,-⟩:=hv
 have hLP : Hid (linesP c ps = if rightP c ps then (if (linesF c (foundF ps)).all fun l=>decide (l.size <= 60) then (linesF c (foundF ps),0) else ([],3)) else ([],101)):=Hd rfl
 have hff : Hid (∀ k,foundF ps k = (foundOf ps).getD k ⟨#[]⟩):=Hd fun _=>rfl
 clear hps
 generalize foundF ps = f at *
 generalize hF : foundOf ps = fo at *
 replace hF:=Hd hF
 go_enter Tryz.func23,Tryz.ntmps23
 go_upto_region 1 with fail
 rw [<- hW1]
 replace hW1:=Hd hW1
 obtain ⟨BB,hBB⟩ : ∃ BB,BB = w.heap.size:=⟨_,rfl⟩
 rw [<- hBB] at kB ⊢
 replace hBB:=Hd hBB
 have b0:=kB.cell 0
 have b1:=kB.cell 1
 have bl:=kB.lt
 simp at b0 b1
 go_wp2_with fail
 refine hpo.out.mono ?_
 rintro e w2 ⟨fd,rfl,hfl,hfi,hb2⟩
 clear hpo b0 b1
 generalize hcs : (fd.map Value.string).toArray = cs at *
 have hoc : cs.all (·.oneCell') = true:=by rw [<- hcs]; exact one_strs fd
 have hif : (Tryz.prog.info? 109).map (·.size) = some cs.size:=by rw [info109,<- hcs]; simp [hfl]
 have hol : zc11.size = cs.size:=by rw [<- hcs]; simp [hfl,zc11]
 have hs2:=hb2.size
 have hbA : Hid (Below w.heap.size w ((w2.alloc (.cells zc11 109)).setRow w2.heap.size cs)):=Hd (Below.setRow_ ((hb1.trans (hb2.mono (by omega))).alloc (by omega) _) (by omega) cs)
 have kBA : Hid (Blk ((w2.alloc (.cells zc11 109)).setRow w2.heap.size cs) BB 42 #[.int .u8 c,.slice A ps.length cv]):=Hd (((kB.below hb2 kB.lt).alloc _).setRow_far (by have:=hBB.out; omega) _)
 have kFA : Hid (Blk ((w2.alloc (.cells zc11 109)).setRow w2.heap.size cs) w2.heap.size 109 cs):=Hd ((Blk.new w2 109 zc11).setRow_ _)
 have hFB : Hid (BB < w2.heap.size /\ w2.heap.size < ((w2.alloc (.cells zc11 109)).setRow w2.heap.size cs).heap.size):=Hd ⟨by have:=hBB.out; omega,kFA.out.lt⟩
 replace hfl:=Hd hfl
 replace hfi:=Hd hfi
 replace hcs:=Hd hcs
 dsimp only
 iterate 13 go_step
 refine wpList_store_rowTo rfl 109 _ _ rfl rfl w2.heap.size cs rfl rfl 109 zc11 (Blk.new w2 109 zc11) hif hol hoc ?_
 refine (?_ : wpList _ _ _ _ _ ((w2.alloc (.cells zc11 109)).setRow w2.heap.size cs))
 generalize (w2.alloc (.cells zc11 109)).setRow w2.heap.size cs = W3 at *
 generalize w2.heap.size = FB at *
 clear hb1 kB hb2 hs1 hs2 hif hoc bl hol
 cases hr : rightP c ps with
 | false=>
  have hl : Hid (linesP c ps = ([],101)):=Hd (by rw [hLP.out,hr]; rfl)
  clear hLP hfi
  go_wp2_with fail
  go_ret2
  exact ⟨_,by rw [hl.out]; rfl,by rw [hl.out]; exact OwnL.nil_,hbA.out⟩
 | true=>
  have hl : Hid (linesP c ps = if (linesF c f).all fun l=>decide (l.size <= 60) then (linesF c f,0) else ([],3)):=Hd (by rw [hLP.out,hr]; rfl)
  have hcell : Hid (∀ k,k < 11 -> cs[k]? = some (.string (f k))):=Hd fun k hk=>by
   have e:=hfi.out hr
   rw [<- hcs.out,hff.out,<- e]
   exact fd_get hfl.out hk
  clear hLP hfi hfl hff hcs hr hF
  obtain ⟨W4,hW4⟩ : ∃ W4,W4 = W3.alloc (.cells #[.slice none 0 0] 22):=⟨_,rfl⟩
  have hS : Hid (LinesS w c (.slice A ps.length cv) cs BB FB W3.heap.size [] W4):=Hd (by
   rw [hW4]
   exact ⟨hbA.out.alloc hbA.out.size _,kBA.out.alloc _,kFA.out.alloc _,_,Blk.new _ _ _,OwnL.nil_⟩)
  go_upto_region 6 with fail
  rw [<- hW4]
  have hl4 : Hid (W3.heap.size < W4.heap.size):=Hd (by rw [hW4]; simp)
  replace hW4:=Hd hW4
  obtain ⟨LB,hLB⟩ : ∃ LB,LB = W3.heap.size:=⟨_,rfl⟩
  have hFw : Hid (w.heap.size <= BB /\ BB < FB /\ FB < LB):=Hd (by have:=hFB.out; have:=hBB.out; omega)
  rw [<- hLB] at hS ⊢
  replace hLB:=Hd hLB
  have hsmall:=Hd (show ∀ k,(f k).size <= 10000000 from fun k=>Nat.le_trans (hfs.out k) (by decide))
  have x6:=(hS.out.tx.cell 6).trans (hcell.out 6 (by omega))
  have xl:=hS.out.tx.lt
  go_upto_if 25 with fail
  go_cut [] (fun wx=>Hid (LinesS w c (.slice A ps.length cv) cs BB FB LB (lines1 f) wx))
  case first=>
   have s6:=hsmall.out 6
   have hls1 : Hid (lines1 f = if (f 6).size = 0 then [] else lineP [⟨#[85,78,73,84]⟩,f 6]):=Hd rfl
   generalize f 6 = f6 at *
   by_cases h6 : f6.size = 0
   ·have yq : f6.toList.isEmpty = true:=by rw [empty_tl]; exact decide_eq_true h6
    rw [if_pos h6] at hls1
    clear h6
    simp only [yq,Bool.not_true]
    go_wp2_with fail
    go_meet
    case rel=>exact Hd (by rw [hls1.out]; exact hS.out)
   ·have yq : f6.toList.isEmpty = false:=by rw [empty_tl]; exact decide_eq_false h6
    rw [if_neg h6] at hls1
    have hcall:=Hd (hS.out.call hFw.out.1 hFw.out.2.1 hFw.out.2.2 [⟨#[85,78,73,84]⟩,f6] #[.string ⟨#[85,78,73,84]⟩,.string f6] rfl (by simp) (by
     intro x hx
     simp only [List.mem_cons,List.not_mem_nil,or_false] at hx
     rcases hx with rfl | rfl
     ·decide
     ·exact s6) (by decide))
    clear h6
    simp only [yq,Bool.not_false]
    go_wp2_with fail
    refine hcall.out.mono ?_
    rintro e wx ⟨rfl,hx⟩
    have hx':=Hd hx
    clear hx
    go_wp2_with fail
    go_meet
    case rel=>exact Hd (by rw [hls1.out]; exact hx'.out)
  case rest=>
   have hS5:=Hd hcut.out
   rename World=>W5
   clear hcut hS hl4 x6 xl
   have hn1:=Hd (lines1_len f)
   have s1:=hsmall.out 1
   have s2:=hsmall.out 2
   have x1:=(hS5.out.tx.cell 1).trans (hcell.out 1 (by omega))
   have x2:=(hS5.out.tx.cell 2).trans (hcell.out 2 (by omega))
   have xl:=hS5.out.tx.lt
   go_upto_region 9 with fail
   clear x1 x2
   have x4:=(hS5.out.tx.cell 4).trans (hcell.out 4 (by omega))
   have x5:=(hS5.out.tx.cell 5).trans (hcell.out 5 (by omega))
   have xl:=hS5.out.tx.lt
   have X4:=fun (u : Ups W5)=>u.cellAt x4 xl
   have X5:=fun (u : Ups W5)=>u.cellAt x5 xl
   refine wp_region_ups (P:=Tryz.prog) rfl (by kernel_rfl) ?_
   repeat (go_big_quiet_step (fail))
   refine wpQuiet_nil ?_
   rintro _ ⟨u,rfl⟩
   have hS6:=Hd (hS5.out.up hS5.out.lt u.up)
   clear X4 X5 x4 x5 xl hS5
   generalize u.wld = W6 at *
   go_upto_block 0 with fail
   go_cut [] (fun wx=>Hid (LinesS w c (.slice A ps.length cv) cs BB FB LB (lines1 f ++ lines2 c f) wx))
   case first=>
    have hls2 : Hid (lines2 c f = if (f 7).size ≠ 0 then lineP [⟨#[66,79,88]⟩,f 7] else if c = 3 then lineP [f 4,f 5,f 1 ++ f 2] else lineP [f 1 ++ f 2,f 3,f 4,f 5]):=Hd rfl
    have s7:=hsmall.out 7
    have s3:=hsmall.out 3
    have s4:=hsmall.out 4
    have s5:=hsmall.out 5
    have s12 : (f 1 ++ f 2).size <= 10000000:=by
     have h1:=hfs.out 1
     have h2:=hfs.out 2
     rw [ByteArray.size_append]
     omega
    have x7:=(hS6.out.tx.cell 7).trans (hcell.out 7 (by omega))
    have x3:=(hS6.out.tx.cell 3).trans (hcell.out 3 (by omega))
    have xl:=hS6.out.tx.lt
    have b0:=hS6.out.box.cell 0
    have bl:=hS6.out.box.lt
    simp at b0
    have hn1':=hn1.out
    generalize f 1 ++ f 2 = f12 at *
    generalize f 7 = f7 at *
    generalize f 3 = f3 at *
    generalize f 4 = f4 at *
    generalize f 5 = f5 at *
    by_cases h7 : f7.size = 0
    ·have yq : f7.toList.isEmpty = true:=by rw [empty_tl]; exact decide_eq_true h7
     rw [if_neg (fun h=>h h7)] at hls2
     clear h7
     by_cases h3 : c = 3
     ·subst h3
      rw [if_pos rfl] at hls2
      have hcall:=Hd (hS6.out.call hFw.out.1 hFw.out.2.1 hFw.out.2.2 [f4,f5,f12] #[.string f4,.string f5,.string f12] rfl (by simp) (by
       intro x hx
       simp only [List.mem_cons,List.not_mem_nil,or_false] at hx
       rcases hx with rfl | rfl | rfl
       ·exact s4
       ·exact s5
       ·exact s12
       ) (by omega))
      go_wp2_with fail
      refine hcall.out.mono ?_
      rintro e wx ⟨rfl,hx⟩
      have hx':=Hd hx
      clear hx hcall
      go_wp2_with fail
      go_meet
      case rel=>exact Hd (by rw [hls2.out]; exact hx'.out)
     ·have c3 : (c == 3) = false:=beq_eq_false_iff_ne.2 h3
      have c3' : decide (c = 3) = false:=decide_eq_false h3
      rw [if_neg h3] at hls2
      have hcall:=Hd (hS6.out.call hFw.out.1 hFw.out.2.1 hFw.out.2.2 [f12,f3,f4,f5] #[.string f12,.string f3,.string f4,.string f5] rfl (by simp) (by
       intro x hx
       simp only [List.mem_cons,List.not_mem_nil,or_false] at hx
       rcases hx with rfl | rfl | rfl | rfl
       ·exact s12
       ·exact s3
       ·exact s4
       ·exact s5
       ) (by omega))
      go_wp2_with fail
      refine hcall.out.mono ?_
      rintro e wx ⟨rfl,hx⟩
      have hx':=Hd hx
      clear hx hcall
      go_wp2_with fail
      go_meet
      case rel=>exact Hd (by rw [hls2.out]; exact hx'.out)
    ·have yq : f7.toList.isEmpty = false:=by rw [empty_tl]; exact decide_eq_false h7
     rw [if_pos h7] at hls2
     clear h7
     have hcall:=Hd (hS6.out.call hFw.out.1 hFw.out.2.1 hFw.out.2.2 [⟨#[66,79,88]⟩,f7] #[.string ⟨#[66,79,88]⟩,.string f7] rfl (by simp) (by
      intro x hx
      simp only [List.mem_cons,List.not_mem_nil,or_false] at hx
      rcases hx with rfl | rfl
      ·decide
      ·exact s7
      ) (by omega))
     go_wp2_with fail
     refine hcall.out.mono ?_
     rintro e wx ⟨rfl,hx⟩
     have hx':=Hd hx
     clear hx hcall
     go_wp2_with fail
     go_meet
     case rel=>exact Hd (by rw [hls2.out]; exact hx'.out)
   case rest=>
    have hS7:=Hd hcut.out
    rename World=>W7
    clear hcut hS6
    have hn2 : Hid ((lines1 f ++ lines2 c f).length <= 2):=Hd (by rw [List.length_append]; have:=hn1.out; have:=lines2_len c f; omega)
    have x8:=(hS7.out.tx.cell 8).trans (hcell.out 8 (by omega))
    have x10:=(hS7.out.tx.cell 10).trans (hcell.out 10 (by omega))
    have xl:=hS7.out.tx.lt
    have X8:=fun (u : Ups W7)=>u.cellAt x8 xl
    have X10:=fun (u : Ups W7)=>u.cellAt x10 xl
    go_upto_region 15 with fail
    refine wp_region_ups (P:=Tryz.prog) rfl (by kernel_rfl) ?_
    repeat (go_big_quiet_step (fail))
    refine wpQuiet_nil ?_
    rintro _ ⟨u,rfl⟩
    have hS8:=Hd (hS7.out.up hS7.out.lt u.up)
    clear X8 X10 x8 x10 xl hS7
    generalize u.wld = W8 at *
    have hn2':=hn2.out
    have b0:=hS8.out.box.cell 0
    have bl:=hS8.out.box.lt
    simp at b0
    go_upto_block 1 with fail
    clear b0 bl
    go_cut [] (fun wx=>Hid (LinesS w c (.slice A ps.length cv) cs BB FB LB (linesF c f) wx))
    case first=>
     have hls3 : Hid (linesF c f = lines1 f ++ lines2 c f ++ (if c = 1 then lineP [f 8,f 9,f 10] else if c = 2 then lineP [f 8] ++ lineP [f 10] else lineP [f 10,f 8])):=Hd rfl
     have s8:=hsmall.out 8
     have s9:=hsmall.out 9
     have s10:=hsmall.out 10
     have x9:=(hS8.out.tx.cell 9).trans (hcell.out 9 (by omega))
     have xl:=hS8.out.tx.lt
     generalize f 8 = f8 at *
     generalize f 9 = f9 at *
     generalize f 10 = f10 at *
     generalize lines1 f ++ lines2 c f = l12 at *
     by_cases h1 : c = 1
     ·subst h1
      rw [if_pos rfl] at hls3
      have hcall:=Hd (hS8.out.call hFw.out.1 hFw.out.2.1 hFw.out.2.2 [f8,f9,f10] #[.string f8,.string f9,.string f10] rfl (by simp) (by
       intro x hx
       simp only [List.mem_cons,List.not_mem_nil,or_false] at hx
       rcases hx with rfl | rfl | rfl
       ·exact s8
       ·exact s9
       ·exact s10
       ) (by omega))
      go_wp2_with fail
      refine hcall.out.mono ?_
      rintro e wx ⟨rfl,hx⟩
      have hx':=Hd hx
      clear hx hcall
      go_wp2_with fail
      go_meet
      case rel=>exact Hd (by rw [hls3.out]; exact hx'.out)
     ·have c1 : (c == 1) = false:=beq_eq_false_iff_ne.2 h1
      have c1' : decide (c = 1) = false:=decide_eq_false h1
      rw [if_neg h1] at hls3
      by_cases h2 : c = 2
      ·subst h2
       rw [if_pos rfl] at hls3
       have hcall:=Hd (hS8.out.call hFw.out.1 hFw.out.2.1 hFw.out.2.2 [f8] #[.string f8] rfl (by simp) (by
        intro x hx
        simp only [List.mem_cons,List.not_mem_nil,or_false] at hx
        subst hx
        exact s8
        ) (by omega))
       go_wp2_with fail
       refine hcall.out.mono ?_
       rintro e wx ⟨rfl,hx⟩
       have hx':=Hd hx
       clear hx hcall
       have hn3 : (l12 ++ lineP [f8]).length <= 1000:=by rw [List.length_append]; have:=lineP_len [f8]; omega
       have hcall2:=Hd (hx'.out.call hFw.out.1 hFw.out.2.1 hFw.out.2.2 [f10] #[.string f10] rfl (by simp) (by
        intro x hx
        simp only [List.mem_cons,List.not_mem_nil,or_false] at hx
        subst hx
        exact s10
        ) hn3)
       replace hn3:=Hd hn3
       go_wp2_with fail
       refine hcall2.out.mono ?_
       rintro e wy ⟨rfl,hy⟩
       have hy':=Hd hy
       clear hy hcall2
       go_wp2_with fail
       go_meet
       case rel=>exact Hd (by rw [hls3.out,<- List.append_assoc]; exact hy'.out)
      ·have c2 : (c == 2) = false:=beq_eq_false_iff_ne.2 h2
       have c2' : decide (c = 2) = false:=decide_eq_false h2
       rw [if_neg h2] at hls3
       have hcall:=Hd (hS8.out.call hFw.out.1 hFw.out.2.1 hFw.out.2.2 [f10,f8] #[.string f10,.string f8] rfl (by simp) (by
        intro x hx
        simp only [List.mem_cons,List.not_mem_nil,or_false] at hx
        rcases hx with rfl | rfl
        ·exact s10
        ·exact s8
        ) (by omega))
       go_wp2_with fail
       refine hcall.out.mono ?_
       rintro e wx ⟨rfl,hx⟩
       have hx':=Hd hx
       clear hx hcall
       go_wp2_with fail
       go_meet
       case rel=>exact Hd (by rw [hls3.out]; exact hx'.out)
    case rest=>
     have hS9:=Hd hcut.out
     rename World=>W9
     clear hcut hS8
     have hlen : (linesF c f).length <= 4:=linesF_len c f
     obtain ⟨lv,k1,k2⟩:=hS9.out.ln
     have hfin:=Hd (k2.base strIn_inner (show w.heap.size <= LB + 1 by have:=hFw.out; omega))
     have hbb:=Hd hS9.out.below
     have hl' : Hid (linesP c ps = if (linesF c f).all fun l=>decide (l.size <= 60) then (linesF c f,0) else ([],3)):=hl
     clear hl
     generalize linesF c f = ls at *
     obtain ⟨Al,cl,rfl⟩:=k2.form_
     have l0:=k1.cell 0
     have ll:=k1.lt
     simp at l0
     have hk2:=Hd k2
     clear k1 k2 hS9 hn2'
     go_wp2_with fail
     go_loop [99] (fun iv=>∃ k : Nat,k <= ls.length /\ iv = .int .i64 k /\ Hid (∀ i,i < k -> ∀ x,ls[i]? = some x -> x.size <= 60)) (fun iv=>ls.length - (intOf iv).toNat)
     case atStart=>exact ⟨0,by omega,rfl,Hd fun i hi=>absurd hi (by omega)⟩
     case round=>
      obtain ⟨k,hk,rfl,hall⟩:=hrel
      have n0 : (0 : Int) <= (k : Int):=by omega
      by_cases hlt : k < ls.length
      ·have n1 : (k : Int) < (ls.length : Int):=by omega
       obtain ⟨gl,c2,he,hg1,hg2,hc1,hc2⟩:=hk2.out.ref (by omega)
       obtain ⟨rfl,-,rfl⟩:=Value.slice.inj he
       clear he
       have hx0:=Hd (List.getElem?_eq_getElem hlt)
       have x1:=own_cell hk2.out k ls[k] hx0.out
       generalize ls[k] = x at *
       by_cases h60 : 60 < x.size
       ·have q : decide ((60 : Int) < (x.size : Int)) = true:=decide_eq_true (by omega)
        have q' : (60 : Int) < (x.size : Int):=by omega
        have hno : Hid (linesP c ps = ([],3)):=Hd (by
         rw [hl'.out,if_neg]
         rw [List.all_eq_true]
         intro h
         have:=h x (List.mem_of_getElem? hx0.out)
         simp at this
         omega)
        go_wp2_with fail
        go_ret2
        exact ⟨_,by rw [hno.out]; rfl,by rw [hno.out]; exact OwnL.nil_,hbb.out⟩
       ·have q : decide ((60 : Int) < (x.size : Int)) = false:=decide_eq_false (by omega)
        have q' : ¬ (60 : Int) < (x.size : Int):=by omega
        have hall' : Hid (∀ i,i < k + 1 -> ∀ x,ls[i]? = some x -> x.size <= 60):=Hd fun i hi y hy=>by
         rcases Nat.lt_or_ge i k with h | h
         ·exact hall.out i h y hy
         ·obtain rfl : i = k:=by omega
          rw [hx0.out] at hy
          cases hy
          omega
        clear h60
        go_wp2_with fail
        go_round
        case rel=>exact ⟨k + 1,by omega,by go_num,hall'⟩
        case measure=>simp [intOf]; omega
      ·obtain rfl : k = ls.length:=by omega
       have hyes : Hid (linesP c ps = (ls,0)):=Hd (by
        rw [hl'.out,if_pos]
        rw [List.all_eq_true]
        intro x hx
        obtain ⟨i,hi,rfl⟩:=List.mem_iff_getElem.1 hx
        exact decide_eq_true (hall.out i hi _ (List.getElem?_eq_getElem hi)))
       go_wp2_with fail
       go_ret2
       exact ⟨_,by rw [hyes.out]; rfl,by rw [hyes.out]; exact hfin.out,hbb.out⟩
end
end Go.Proofs.YteclineblddpbaaGreatDoorR
