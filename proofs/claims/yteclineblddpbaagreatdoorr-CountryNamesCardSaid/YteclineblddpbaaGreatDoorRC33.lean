import Derived.Test.YteclineblddpbaaGreatDoorRC01
import Derived.Test.YteclineblddpbaaGreatDoorRC05
import Derived.Test.YteclineblddpbaaGreatDoorRC06
import Derived.Test.YteclineblddpbaaGreatDoorRC08
import Derived.Test.YteclineblddpbaaGreatDoorRC21
import Derived.Test.YteclineblddpbaaGreatDoorRC27
import Derived.Test.YteclineblddpbaaGreatDoorRC30
import Derived.Test.YteclineblddpbaaGreatDoorRC32
set_option linter.all false
set_option maxRecDepth 100000
set_option maxHeartbeats 0
namespace Go.Proofs.YteclineblddpbaaGreatDoorR
section
open Go Go.RowKit
def u16Cells (n : Int) : List Value:=[.int .u16 n]
def u16In (_ : Nat -> Prop) (_ : World) (_ : Int) : Prop:=True
theorem u16In_inner : Inner u16In:=⟨fun h _ _=>h⟩
abbrev OwnU16:=OwnL 37 1 u16Cells u16In
theorem infoU16 : (Tryz.prog.info? 37).map (fun i=>(i.zero,i.size,i.bytes)) = some (some (.int .u16 0),1,2):=by kernel_rfl
theorem OwnU16.nats {base : Nat} {w : World} {v : Value} {l : List Int} (h : OwnU16 base w v l) (h0 : ∀ n ∈ l,0 <= n) : NatsO .u16 (fun _=>False) w v (l.map Int.toNat):=by
 have hsl:=OwnL.sl h (fun _=>rfl)
 unfold NatsO
 rw [List.length_map]
 refine SlP.map hsl (lQ _) (fun _ _ _ h=>h) fun b off i _ _ hi hr=>?_
 have e:=hr.2.2 hi 0 (by omega)
 have h1:=h0 _ (List.getElem_mem hi)
 rw [getD_at _ _ _ (by simpa using hi),List.getElem_map]
 have h2 : ((l[i].toNat : Nat) : Int) = l[i]:=by omega
 rw [h2]
 simpa [u16Cells] using e
theorem classes46 (v : Value) (l : List PTok) (w : World) (h : IsToks w v l) (hl : l.length <= 1000) :
  Calls Tryz.prog 46 #[v] w fun e w'=>∃ v',e = .returned v' /\ OwnU16 w.heap.size w' v' (l.map PTok.cls) /\ Below w.heap.size w w':=by
 obtain ⟨A,c,rfl,hn,hcm,hA⟩:=h
 have hA:=Hd hA
 unfold maxLen at hcm
 obtain ⟨i0,hi0,hz0,hz1,hz2⟩:=info_parts infoU16
 go_enter Tryz.func46,Tryz.ntmps46
 go_wp2
 go_loopw [3,4] (fun ov iv wr=>∃ (k : Nat) (o : List Int),k <= l.length /\ iv = .int .i64 k /\ Below w.heap.size w wr /\ OwnU16 w.heap.size wr ov o /\ Hid (o = (l.take k).map PTok.cls))
  (fun _ iv _=>l.length - (intOf iv).toNat)
 case atStart=>exact ⟨0,[],by omega,rfl,Below.refl _ _,OwnL.nil_,Hd rfl⟩
 case round=>
  obtain ⟨k,o,hk,rfl,hbw,hown,ho⟩:=hrel
  rename World=>wr
  have n0 : (0 : Int) <= (k : Int):=by omega
  have hol : o.length = k:=by rw [ho.out,List.length_map,List.length_take]; omega
  have hol' : o.length <= 1000:=by omega
  replace hol:=Hd hol
  obtain ⟨A3,c3,rfl⟩:=hown.form_
  have hown':=Hd hown
  clear hown
  by_cases hlt : k < l.length
  ·have n1 : (k : Int) < (l.length : Int):=by omega
   obtain ⟨b,off,rfl,hb,hi⟩:=hA.out (by omega)
   have hit:=(hi k hlt).stays (Stays.of hbw) hb
   have hst:=Hd (show (l.take (k + 1)).map PTok.cls = o ++ [(l.getD k PTok.zero).cls] by rw [ho.out,List.take_succ_eq_append_getElem hlt,List.map_append,getD_at _ _ _ hlt]; rfl)
   generalize l.getD k PTok.zero = t at *
   obtain ⟨tx,ln,ps,cl⟩:=t
   obtain ⟨d0,d1,d2,d3⟩:=hit
   simp only at d0 d1 d2 d3
   clear d0 d1 d2
   have hbr : b < wr.heap.size:=Nat.lt_of_lt_of_le hb hbw.size
   have hwB : Below wr.heap.size wr (wr.alloc (.cells #[.int .u16 cl] 37)):=(Below.refl _ _).alloc (lQ _) _
   have hoA:=Hd (hown'.out.keep u16In_inner (Keeps.of_below hwB _))
   have hs0:=hbw.size
   have sd1 : o.length + 1 <= maxLen:=by unfold maxLen; omega
   have sd4 : (o.length + 1) * 2 <= 140737488355328:=by omega
   go_wp2_with (at_builtin; refine wpList_append_lies _ rfl (.tmp 11) (.tmp 17) 93 rfl w.heap.size 37 i0 (.int .u16 0) 1 2 Tryz.underlying93 hi0 hz0 hz1 hz2 rfl (by decide) (.slice A3 o.length c3) o.length (o.flatMap u16Cells) rfl (by exact hoA.out.1) ⟨wr.heap.size,0,none⟩ 1 1 [.int .u16 cl] rfl rfl (by exact World.news_of_block (cs:=#[.int .u16 cl]) (heap_alloc_new _ _)) (fun u hu=>by rcases mS.1 hu with rfl; rfl) Nat.one_pos sd1 sd4 (by simp; omega) (wr.heap.size + 1) (by simp) ?_; intro g9 cap9 w9 hown9 hgr9 hat9 hlt9)
   have hR:=slot_append u16In_inner (a:=cl) hbw hown'.out hwB (lQ _) hbw.size trivial hown9 rfl hgr9 (hat9.imp_right (fun e=>by simp [e]))
   clear hown9 hgr9 hat9 hlt9
   go_roundw
   case rel=>exact ⟨k + 1,_,by omega,by go_num,hR.1,by simpa using hR.2,Hd hst.out.symm⟩
   case measure=>simp [intOf]; omega
  ·obtain rfl : k = l.length:=by omega
   have hfin : Hid (OwnU16 w.heap.size wr (.slice A3 o.length c3) (l.map PTok.cls)):=Hd (by
    have e:=ho.out
    rw [List.take_length] at e
    rw [<- e]
    exact hown'.out)
   go_wp2
   go_ret
   exact ⟨_,rfl,hfin.out,hbw⟩
theorem stream41 (lv : Value) (ls : List ByteArray) (w : World) (hlv : TextsO (fun _=>False) w lv ls) (hl6 : ls.length <= 6) (hls : ∀ x ∈ ls,x.size <= 60 /\ x ≠ ⟨#[]⟩ /\ foldOf x = x) (h40 : (toksOf ls).length <= 40) (hml : MaxL w) (h00 : 0 < w.heap.size) :
  Calls Tryz.prog 41 #[lv] w fun e w'=>∃ v',e = .returned v' /\ OwnToks w.heap.size w' v' (streamP (toksOf ls)) /\ Below w.heap.size w w':=by
 have htk:=Hd (tokens_any lv ls w hlv hl6 hls h40 hml h00)
 go_enter Tryz.func41,Tryz.ntmps41
 go_wp2_with fail
 refine htk.out.mono ?_
 rintro e W1 ⟨v1,rfl,ho1,hb1⟩
 obtain ⟨A1,c1,rfl⟩:=ho1.form_
 have hst:=Hd (stream_any _ _ W1 ho1.toks (by omega))
 replace ho1:=Hd ho1
 go_wp2_with fail
 refine hst.out.mono ?_
 rintro e W2 ⟨v2,rfl,ho2,hb2⟩
 obtain ⟨A2,c2,rfl⟩:=ho2.form_
 have hres:=Hd (ho2.base tokIn_inner hb1.size)
 have hbb:=Hd (hb1.trans (hb2.mono hb1.size))
 go_wp2_with fail
 go_ret
 exact ⟨_,rfl,hres.out,hbb.out⟩
end
section
open Go Go.RowKit
theorem tl_empty (x : ByteArray) : x.toList.isEmpty = decide (x = ⟨#[]⟩):=by
 rw [empty_tl]
 exact decide_eq_decide.2 ByteArray.size_eq_zero_iff
theorem all_take {α : Type} (p : α -> Bool) (l : List α) (d : α) (k : Nat) (hk : k < l.length) (h : (l.take k).all p = true) : (l.take (k + 1)).all p = p (l.getD k d):=by
 rw [List.take_succ_eq_append_getElem hk,List.all_append,h,getD_at _ _ _ hk]; simp
theorem all_not {α : Type} (p : α -> Bool) (l : List α) (k : Nat) (h : (l.take k).all p = false) : l.all p = false:=by
 rw [List.all_eq_false] at h ⊢
 obtain ⟨x,hx,hp⟩:=h
 exact ⟨x,List.mem_of_mem_take hx,hp⟩
theorem tokens_right (v : Value) (l : List PTok) (w : World) (h : IsToks w v l) (hl : l.length <= 1000) (hsz : ∀ t ∈ l,t.text.size <= 1000000 /\ 0 <= t.cls /\ t.cls < 65536) :
  Calls Tryz.prog 86 #[v] w fun e w'=>e = .returned (.bool (l.all tokRightB)) /\ Below w.heap.size w w':=by
 obtain ⟨A,c,rfl,hn,hcm,hA⟩:=h
 have hA:=Hd hA
 unfold maxLen at hcm
 replace hsz:=Hd hsz
 go_enter Tryz.func86,Tryz.ntmps86
 go_wp2_with fail
 go_loopw [8] (fun iv wr=>∃ (k : Nat),k <= l.length /\ iv = .int .i64 k /\ Below w.heap.size w wr /\ Hid ((l.take k).all tokRightB = true))
  (fun iv _=>l.length - (intOf iv).toNat)
 case atStart=>exact ⟨0,by omega,rfl,Below.refl _ _,Hd rfl⟩
 case round=>
  obtain ⟨k,hk,rfl,hbw,ho⟩:=hrel
  rename World=>wr
  have n0 : (0 : Int) <= (k : Int):=by omega
  by_cases hlt : k < l.length
  ·have n1 : (k : Int) < (l.length : Int):=by omega
   obtain ⟨b,off,rfl,hb,hi⟩:=hA.out (by omega)
   have hit:=(hi k hlt).stays (Stays.of hbw) hb
   have hst:=Hd (all_take tokRightB l PTok.zero k hlt ho.out)
   have hno:=Hd (all_not tokRightB l (k + 1))
   have hs1:=hsz.out (l.getD k PTok.zero) (by rw [getD_at _ _ _ hlt]; exact List.getElem_mem hlt)
   generalize l.getD k PTok.zero = t at *
   obtain ⟨tx,ln,ps,cl⟩:=t
   obtain ⟨d0,d1,d2,d3⟩:=hit
   simp only at d0 d1 d2 d3 hs1
   obtain ⟨hs1,hc0,hc1⟩:=hs1
   obtain ⟨cn,rfl⟩ : ∃ n : Nat,cl = (n : Int):=⟨cl.toNat,by omega⟩
   have hbr : b < wr.heap.size:=Nat.lt_of_lt_of_le hb hbw.size
   have hand : bits BinOp.and IntKind.u16 (cn : Int) (16384 : Int) = ((cn &&& 16384 : Nat) : Int):=and_u16_nat cn 16384 (by omega) (by omega)
   have hwB : Hid (Below wr.heap.size wr (wr.alloc (.cells #[.string tx,.int .i64 ln,.int .i64 ps,.int .u16 cn] 39))):=Hd ((Below.refl _ _).alloc (lQ _) _)
   have kT:=Hd (Blk.new wr 39 #[.string tx,.int .i64 ln,.int .i64 ps,.int .u16 cn])
   have htr : Hid (tokRightB ⟨tx,ln,ps,(cn : Int)⟩ = decide ((cn : Int) = if tx.size = 0 /\ cn &&& 16384 ≠ 0 then 16384 else (classesOf tx : Int))):=Hd rfl
   generalize cn &&& 16384 = zz at *
   go_upto_region 4 with fail
   clear d0 d1 d2 d3
   generalize wr.alloc (.cells #[.string tx,.int .i64 ln,.int .i64 ps,.int .u16 cn] 39) = wx at *
   have z0:=kT.out.cell 0
   simp at z0
   have hcl:=Hd (classes_any tx wx hs1)
   go_wp2_with fail
   refine hcl.out.mono ?_
   rintro e w2 ⟨rfl,hb2⟩
   clear z0 hcl
   go_upto_region 5 with fail
   have k2:=Hd (kT.out.below hb2 kT.out.lt)
   have hbb:=Hd (hbw.trans ((hwB.out.trans (hb2.mono hwB.out.size)).mono hbw.size))
   clear hb2
   have z0:=k2.out.cell 0
   have z3:=k2.out.cell 3
   simp at z0 z3
   generalize classesOf tx = ct at *
   by_cases hx : tx = ⟨#[]⟩
   ·have qx : tx.toList.isEmpty = true:=by rw [tl_empty]; exact decide_eq_true hx
    by_cases ha : zz = 0
    ·have qa : (((zz : Nat) : Int) != 0) = false:=by rw [ha]; rfl
     have hcd:=Hd (show ¬ (tx.size = 0 /\ zz ≠ 0) from fun h=>h.2 ha)
     replace ha:=Hd ha
     replace hx:=Hd hx
     by_cases he : (cn : Int) = (ct : Int)
     ·have q9 : ((cn : Int) != (ct : Int)) = false:=by rw [bne_eq_false_iff_eq]; exact he
      have hyes : Hid (tokRightB ⟨tx,ln,ps,(cn : Int)⟩ = true):=Hd (by rw [htr.out,if_neg hcd.out]; exact decide_eq_true he)
      replace he:=Hd he
      go_wp2_with fail
      go_roundw
      case rel=>exact ⟨k + 1,by omega,by go_num,hbb.out,Hd (by rw [hst.out,hyes.out])⟩
      case measure=>simp [intOf]; omega
     ·have q9 : ((cn : Int) != (ct : Int)) = true:=bne_iff_ne.2 he
      have hyes : Hid (tokRightB ⟨tx,ln,ps,(cn : Int)⟩ = false):=Hd (by rw [htr.out,if_neg hcd.out]; exact decide_eq_false he)
      have hall:=Hd (hno.out (hst.out.trans hyes.out))
      replace he:=Hd he
      go_wp2_with fail
      go_ret
      refine ⟨?_,hbb.out⟩
      rw [hall.out]
      rfl
    ·have qa : (((zz : Nat) : Int) != 0) = true:=by rw [bne_iff_ne]; omega
     have hcd:=Hd (show tx.size = 0 /\ zz ≠ 0 from ⟨by rw [hx]; rfl,ha⟩)
     replace ha:=Hd ha
     replace hx:=Hd hx
     by_cases he : (cn : Int) = 16384
     ·have q9 : ((cn : Int) != 16384) = false:=by rw [bne_eq_false_iff_eq]; exact he
      have hyes : Hid (tokRightB ⟨tx,ln,ps,(cn : Int)⟩ = true):=Hd (by rw [htr.out,if_pos hcd.out]; exact decide_eq_true he)
      replace he:=Hd he
      go_wp2_with fail
      go_roundw
      case rel=>exact ⟨k + 1,by omega,by go_num,hbb.out,Hd (by rw [hst.out,hyes.out])⟩
      case measure=>simp [intOf]; omega
     ·have q9 : ((cn : Int) != 16384) = true:=bne_iff_ne.2 he
      have hyes : Hid (tokRightB ⟨tx,ln,ps,(cn : Int)⟩ = false):=Hd (by rw [htr.out,if_pos hcd.out]; exact decide_eq_false he)
      have hall:=Hd (hno.out (hst.out.trans hyes.out))
      replace he:=Hd he
      go_wp2_with fail
      go_ret
      refine ⟨?_,hbb.out⟩
      rw [hall.out]
      rfl
   ·have qx : tx.toList.isEmpty = false:=by rw [tl_empty]; exact decide_eq_false hx
    have hcd:=Hd (show ¬ (tx.size = 0 /\ zz ≠ 0) from fun h=>hx (ByteArray.size_eq_zero_iff.1 h.1))
    replace hx:=Hd hx
    by_cases he : (cn : Int) = (ct : Int)
    ·have q9 : ((cn : Int) != (ct : Int)) = false:=by rw [bne_eq_false_iff_eq]; exact he
     have hyes : Hid (tokRightB ⟨tx,ln,ps,(cn : Int)⟩ = true):=Hd (by rw [htr.out,if_neg hcd.out]; exact decide_eq_true he)
     replace he:=Hd he
     go_wp2_with fail
     go_roundw
     case rel=>exact ⟨k + 1,by omega,by go_num,hbb.out,Hd (by rw [hst.out,hyes.out])⟩
     case measure=>simp [intOf]; omega
    ·have q9 : ((cn : Int) != (ct : Int)) = true:=bne_iff_ne.2 he
     have hyes : Hid (tokRightB ⟨tx,ln,ps,(cn : Int)⟩ = false):=Hd (by rw [htr.out,if_neg hcd.out]; exact decide_eq_false he)
     have hall:=Hd (hno.out (hst.out.trans hyes.out))
     replace he:=Hd he
     go_wp2_with fail
     go_ret
     refine ⟨?_,hbb.out⟩
     rw [hall.out]
     rfl
  ·obtain rfl : k = l.length:=by omega
   have hall : Hid (l.all tokRightB = true):=Hd (by have:=ho.out; rwa [List.take_length] at this)
   go_wp2_with fail
   go_ret
   refine ⟨?_,hbw⟩
   rw [hall.out]
   rfl
end
section
open Go Go.RowKit Go.Maps
theorem isTree_inv {g : List PRule} {tk : List Nat} {n : Nat} {r src dst : Int} {sub : List PTree} {s a b : Nat} (h : isTreeF g tk (n + 1) (.node r src dst sub) s a b = true) : 0 <= r /\ r < (g.length : Int) /\ (g.getD r.toNat PRule.zero).left = s /\ src = a /\ dst = b /\ isSub (isTreeF g tk n) tk b (ruleOf g r.toNat) a sub = true:=by
 rw [isTreeF] at h
 split at h
 ·rename_i hh
  simp only [headOK,Bool.and_eq_true,decide_eq_true_eq] at hh
  exact ⟨hh.1.1.1.1,hh.1.1.1.2,hh.1.1.2,hh.1.2,hh.2,h⟩
 ·cases h
theorem isSub_inv {rec : PTree -> Nat -> Nat -> Nat -> Bool} {tk : List Nat} {b : Nat} {i : PItem} {t : List PItem} {a : Nat} {sub : List PTree} (h : isSub rec tk b (i :: t) a sub = true) : a < b /\ ((i.cls ≠ 0 /\ tk.getD a 0 &&& i.cls ≠ 0 /\ isSub rec tk b t (a + 1) sub = true) \/ (i.cls = 0 /\ ∃ x sub',sub = x :: sub' /\ (a : Int) < x.to /\ x.to <= (b : Int) - (t.length : Int) /\ rec x i.sym a x.to.toNat = true /\ isSub rec tk b t x.to.toNat sub' = true)):=by
 unfold isSub at h
 split at h
 ·cases h
 rename_i hab
 refine ⟨by omega,?_⟩
 split at h
 ·rename_i hc
  split at h
  ·cases h
  rename_i hk
  exact .inl ⟨hc,hk,h⟩
 ·rename_i hc
  have hc' : i.cls = 0:=by omega
  cases sub with
  | nil=>simp at h
  | cons x sub'=>
   simp only at h
   split at h
   ·cases h
   rename_i hx
   split at h
   ·rename_i hr
    exact .inr ⟨hc',x,sub',rfl,by omega,by omega,hr,h⟩
   ·cases h
theorem isSub_end {rec : PTree -> Nat -> Nat -> Nat -> Bool} {tk : List Nat} {a b : Nat} {sub : List PTree} (h : isSub rec tk b [] a sub = true) : a = b /\ sub = []:=by
 rw [isSub,Bool.and_eq_true,decide_eq_true_eq,List.isEmpty_iff] at h
 exact h
theorem SubV.tail {O : Nat -> Prop} {w : World} {x : PTree} {ts : List PTree} {bl off n c : Nat} (h : SubV O w (x :: ts) (.slice (some ⟨bl,off,none⟩) n c)) :
  SubV O w ts (.slice (if c = 1 then some ⟨bl,off,none⟩ else some ⟨bl,off + 4,none⟩) ts.length (c - 1)):=by
 obtain ⟨A,c',e,h1,h2,h3⟩:=h
 simp only [Value.slice.injEq] at e
 obtain ⟨rfl,rfl,rfl⟩:=e
 simp only [List.length_cons] at h1 h3
 refine ⟨_,_,rfl,by omega,⟨by omega,fun e=>by split at e <;> cases e⟩,fun h0=>?_⟩
 obtain ⟨bl',off',e,h4,h5,h6⟩:=h3 (by omega)
 cases e
 rw [if_neg (by omega)]
 exact ⟨bl,off + 4,rfl,h4,h5,h6.2⟩
theorem is_tree {g : List PRule} {tk : List Nat} (gv tv : Value) (hgl : g.length <= 200) (hok : ∀ r,r < g.length -> (ruleOf g r).length <= 8 /\ ∀ i ∈ ruleOf g r,i.cls < 65536) (htl : tk.length <= 40) (htc : ∀ i,tk.getD i 0 < 65536) :
  ∀ (n : Nat) (t : PTree) (v : Value) (w : World) (s a b : Nat),b <= tk.length -> isTreeF g tk n t s a b = true -> RulesP (fun _=>True) w gv g -> NatsO .u16 (fun _=>False) w tv tk -> TrAt (fun _=>False) w t v ->
  Calls Tryz.prog 158 #[gv,tv,v,.int .i64 (s : Int),.int .i64 (a : Int),.int .i64 (b : Int)] w fun e w'=>e = .returned (.bool true) /\ Below w.heap.size w w':=by
 intro n
 induction n with
 | zero=>
  intro t v w s a b _ h
  rw [isTreeF] at h
  cases h
 | succ n ih=>
  intro t v w s a b hbt h hg htk ht
  obtain ⟨r,src,dst,sub⟩:=t
  obtain ⟨hr0,hr1,hl,rfl,rfl,hs⟩:=isTree_inv h
  obtain ⟨rn,rfl⟩ : ∃ rn : Nat,r = (rn : Int):=⟨r.toNat,by omega⟩
  obtain ⟨_,_,_,_,sv,et,rfl,hsub⟩:=ht.sub
  cases et
  simp only [Int.toNat_natCast] at hl hs
  have hrn : rn < g.length:=by omega
  have hg':=Hd hg
  have htk':=Hd htk
  obtain ⟨A0,c0,rfl,-,hcm0,hi0⟩:=hg
  obtain ⟨b0,off0,rfl,hb0,-,hi0⟩:=hi0 (by omega)
  obtain ⟨g0,iv,g1,hiv⟩:=hi0 rn hrn
  obtain ⟨hr8,hcl⟩:=hok rn hrn
  unfold ruleOf at hs hr8 hcl
  rw [hl] at g0
  obtain ⟨At,tc,rfl,htn,htm,hit⟩:=htk
  replace hit:=Hd hit
  obtain ⟨A1,c1,rfl,hn1,hcm1,hit1⟩:=hiv
  generalize (g.getD rn PRule.zero).right = its at *
  replace hit1:=Hd hit1
  replace hcl:=Hd hcl
  replace hs:=Hd hs
  replace ih:=Hd ih
  clear h hl hi0 ht
  obtain ⟨A,c,rfl,hn,⟨hcm,-⟩,-⟩:=id hsub
  have hsub':=Hd hsub
  clear hsub
  unfold maxLen at hcm hcm0 htm hcm1
  obtain ⟨W1,hW1⟩ : ∃ W1,W1 = w.alloc (.cells #[.int .i64 (rn : Int),.int .i64 (a : Int),.int .i64 (b : Int),.slice A sub.length c] 34):=⟨_,rfl⟩
  have hb1 : Below w.heap.size w W1:=by rw [hW1]; exact (Below.refl _ _).alloc (lQ _) _
  have kT : Blk W1 w.heap.size 34 #[.int .i64 (rn : Int),.int .i64 (a : Int),.int .i64 (b : Int),.slice A sub.length c]:=by rw [hW1]; exact Blk.new _ _ _
  have q1 : decide ((rn : Int) < 0) = false:=decide_eq_false (by omega)
  have q2 : decide ((g.length : Int) <= (rn : Int)) = false:=decide_eq_false (by omega)
  have q3 : (rn : Int) < (g.length : Int):=by omega
  have q4 : (0 : Int) <= (rn : Int):=by omega
  go_enter Tryz.func158,Tryz.ntmps158
  go_upto_region 1 with fail
  rw [<- hW1]
  replace hW1:=Hd hW1
  obtain ⟨TB,hTB⟩ : ∃ TB,TB = w.heap.size:=⟨_,rfl⟩
  rw [<- hTB] at kT ⊢
  replace hTB:=Hd hTB
  have x0:=kT.cell 0
  have x1:=kT.cell 1
  have x2:=kT.cell 2
  have x3:=kT.cell 3
  simp at x0 x1 x2 x3
  have y0:=(hb1.cell (p:=⟨b0,off0 + rn * 2,none⟩) hb0).trans g0
  have y1:=(hb1.cell (p:=⟨b0,off0 + rn * 2 + 1,none⟩) hb0).trans g1
  go_upto_region 3 with fail
  have X0:=fun (u : Ups W1)=>u.cellAt x0 kT.lt
  have X3:=fun (u : Ups W1)=>u.cellAt x3 kT.lt
  have Y1:=fun (u : Ups W1)=>u.cellAt y1 (cell_lt y1)
  clear x0 x1 x2 x3 y0 y1
  refine wp_region_ups (P:=Tryz.prog) rfl (by kernel_rfl) ?_
  repeat (go_big_quiet_step (fail))
  refine wpQuiet_nil ?_
  rintro _ ⟨u0,rfl⟩
  have hb2:=Hd (hb1.trans (u0.up.mono hb1.size))
  clear X0 X3 Y1
  generalize u0.wld = W2 at *
  go_wp2_with fail
  go_loopw [13,14,62] (fun av sv iv wr=>∃ (k p : Nat) (sub' : List PTree),k <= its.length /\ iv = .int .i64 k /\ av = .int .i64 p /\ Hid (Below w.heap.size w wr) /\ Hid (SubV (fun _=>False) w sub' sv) /\ Hid (isSub (isTreeF g tk n) tk b (its.drop k) p sub' = true))
   (fun _ _ iv _=>its.length - (intOf iv).toNat)
  case atStart=>exact ⟨0,a,sub,by omega,rfl,rfl,hb2,hsub',hs⟩
  case round=>
   obtain ⟨k,p,sub',hk,rfl,rfl,hbr,hsb,hi⟩:=hrel
   rename World=>wr
   clear hb2 hsub' hs
   have n0 : (0 : Int) <= (k : Int):=by omega
   obtain ⟨A3,c3,rfl,hn3,⟨hcm3,-⟩,-⟩:=id hsb.out
   unfold maxLen at hcm3
   by_cases hlt : k < its.length
   ·have n1 : (k : Int) < (its.length : Int):=by omega
    obtain ⟨b1,off1,rfl,hb1',-,hit1⟩:=hit1.out (by omega)
    obtain ⟨d0,d1⟩:=hit1 k hlt
    have hdr:=hi.out
    rw [drop_getD its PItem.zero k hlt] at hdr
    have hcl1:=hcl.out (its.getD k PItem.zero) (by rw [getD_at _ _ _ hlt]; exact List.getElem_mem hlt)
    obtain ⟨hpb,hcase⟩:=isSub_inv hdr
    clear hit1 hdr hi
    generalize its.getD k PItem.zero = item at *
    obtain ⟨cls,sym⟩:=item
    simp only at d0 d1 hcase hcl1
    replace hcase:=Hd hcase
    have e0:=(hbr.out.cell (p:=⟨b1,off1 + k * 2,none⟩) hb1').trans d0
    have e1:=(hbr.out.cell (p:=⟨b1,off1 + k * 2 + 1,none⟩) hb1').trans d1
    obtain ⟨w3,hw3⟩ : ∃ w3,w3 = wr.alloc (.cells #[.int .u16 (cls : Int),.int .i64 (sym : Int)] 76):=⟨_,rfl⟩
    have hb3 : Below wr.heap.size wr w3:=by rw [hw3]; exact (Below.refl _ _).alloc (lQ _) _
    have k3 : Blk w3 wr.heap.size 76 #[.int .u16 (cls : Int),.int .i64 (sym : Int)]:=by rw [hw3]; exact Blk.new _ _ _
    go_upto_region 7 with fail
    rw [<- hw3]
    clear hw3 e0 e1
    have hbx:=Hd (hbr.out.trans (hb3.mono hbr.out.size))
    clear hb3 hbr
    generalize wr.heap.size = KB at *
    have z0:=k3.cell 0
    have z1:=k3.cell 1
    simp at z0 z1
    have Z0:=fun (u : Ups w3)=>u.cellAt z0 k3.lt
    have Z1:=fun (u : Ups w3)=>u.cellAt z1 k3.lt
    have p0 : ¬ (b : Int) <= (p : Int):=by omega
    have p0' : decide ((b : Int) <= (p : Int)) = false:=decide_eq_false p0
    by_cases hc : cls = 0
    ·subst hc
     obtain ⟨x,sub2,rfl,hx1,hx2,hx3,hx4⟩ : ∃ x sub2,sub' = x :: sub2 /\ (p : Int) < x.to /\ x.to <= (b : Int) - ((its.drop (k + 1)).length : Int) /\ isTreeF g tk n x sym p x.to.toNat = true /\ isSub (isTreeF g tk n) tk b (its.drop (k + 1)) x.to.toNat sub2 = true:=by
      rcases hcase.out with h | h
      ·exact absurd rfl h.1
      ·exact h.2
     clear hcase
     obtain ⟨bl,off,rfl,hbl,hx5⟩ : ∃ bl off,A3 = some ⟨bl,off,none⟩ /\ bl < w.heap.size /\ TrsAt (fun _=>False) w (x :: sub2) bl off:=by
      obtain ⟨A',c',e,-,-,h3⟩:=id hsb.out
      simp only [Value.slice.injEq] at e
      obtain ⟨rfl,-,rfl⟩:=e
      obtain ⟨bl,off,e,h4,-,h6⟩:=h3 (by simp)
      exact ⟨bl,off,e,h4,h6⟩
     have htail:=Hd (hsb.out.tail)
     obtain ⟨⟨v0,v1,v2,v3,c0',c1',c2',c3',hxt⟩,-⟩:=hx5
     obtain ⟨xr,xs,xd,xsub,xsv,ex,ev,Ax,cx,rfl,-⟩:=hxt.sub
     subst ex
     simp only [Value.agg.injEq,Array.mk.injEq,List.cons.injEq,and_true] at ev
     obtain ⟨rfl,rfl,rfl,rfl⟩:=ev
     simp only [PTree.to] at hx1 hx2 hx3 hx4
     obtain ⟨xn,rfl⟩ : ∃ xn : Nat,xd = (xn : Int):=⟨xd.toNat,by omega⟩
     simp only [Int.toNat_natCast] at hx3 hx4
     rw [List.length_drop] at hx2
     have hxb : xn <= tk.length:=by omega
     have hcall:=Hd (fun (u : Ups w3)=>ih.out _ _ u.wld sym p xn hxb hx3 (RulesP.below hg'.out ((hbx.out.trans (u.up.mono hbx.out.size)))) (NatsO.keep htk'.out (CKp.of_below (hbx.out.trans (u.up.mono hbx.out.size)) _) fun b h=>.inl h) (TrAt.keep (CKp.of_below (hbx.out.trans (u.up.mono hbx.out.size)) _) (fun b h=>.inl h) _ _ hxt))
     have f0:=(hbx.out.cell (p:=⟨bl,off,none⟩) hbl).trans c0'
     have f1:=(hbx.out.cell (p:=⟨bl,off + 1,none⟩) hbl).trans c1'
     have f2:=(hbx.out.cell (p:=⟨bl,off + 2,none⟩) hbl).trans c2'
     have f3:=(hbx.out.cell (p:=⟨bl,off + 3,none⟩) hbl).trans c3'
     have hbl3 : bl < w3.heap.size:=Nat.lt_of_lt_of_le hbl hbx.out.size
     have F0:=fun (u : Ups w3)=>u.cellAt f0 hbl3
     have F1:=fun (u : Ups w3)=>u.cellAt f1 hbl3
     have F2:=fun (u : Ups w3)=>u.cellAt f2 hbl3
     have F3:=fun (u : Ups w3)=>u.cellAt f3 hbl3
     have i1 : IntKind.i64.wrap ((its.length : Int) - (k : Int)) = (its.length : Int) - (k : Int):=wrap_small (by omega) (by omega)
     have i2 : IntKind.i64.wrap ((its.length : Int) - (k : Int) - 1) = (its.length : Int) - (k : Int) - 1:=wrap_small (by omega) (by omega)
     have i3 : IntKind.i64.wrap ((b : Int) - ((its.length : Int) - (k : Int) - 1)) = (b : Int) - ((its.length : Int) - (k : Int) - 1):=wrap_small (by omega) (by omega)
     have j1 : decide ((xn : Int) <= (p : Int)) = false:=decide_eq_false (by omega)
     have j2 : decide ((b : Int) - ((its.length : Int) - (k : Int) - 1) < (xn : Int)) = false:=decide_eq_false (by omega)
     have j3 : (((sub2.length + 1 : Nat) : Int) == 0) = false:=by rw [beq_eq_false_iff_ne]; omega
     have j4 : ((sub2.length : Int) + 1 == 0) = false:=by rw [beq_eq_false_iff_ne]; omega
     have j5 : ¬ (sub2.length : Int) + 1 = 0:=by omega
     have j6 : (0 : Int) < (sub2.length : Int) + 1:=by omega
     go_upto_region 16 with fail
     refine wp_region_ups (P:=Tryz.prog) rfl (by kernel_rfl) ?_
     repeat (go_big_quiet_step (first | (go_at_call 158; exact calls_ups (hcall.out _))))
     refine wpQuiet_nil ?_
     rintro _ ⟨u1,rfl⟩
     have hb4:=Hd (hbx.out.trans (u1.up.mono hbx.out.size))
     have f2':=(u1.up.cell (p:=⟨bl,off + 2,none⟩) hbl3).trans f2
     clear F0 F1 F2 F3 Z0 Z1 f0 f1 f2 f3 hcall k3 z0 z1
     generalize u1.wld = w4 at *
     have G2:=fun (u : Ups w4)=>u.cellAt f2' (cell_lt f2')
     clear f2'
     go_upto_region 18 with fail
     by_cases hc1 : c3 = 1
     ·rw [if_pos hc1] at htail
      subst hc1
      refine wp_region_ups (P:=Tryz.prog) rfl (by kernel_rfl) ?_
      repeat (go_big_quiet_step (fail))
      refine wpQuiet_nil ?_
      rintro _ ⟨u2,rfl⟩
      have hb5:=Hd (hb4.out.trans (u2.up.mono hb4.out.size))
      clear G2
      generalize u2.wld = w5 at *
      go_wp2_with fail
      go_roundw
      case rel=>exact ⟨k + 1,xn,sub2,by omega,by go_num,rfl,hb5,htail,Hd hx4⟩
      case measure=>simp [intOf]; omega
     ·rw [if_neg hc1] at htail
      refine wp_region_ups (P:=Tryz.prog) rfl (by kernel_rfl) ?_
      repeat (go_big_quiet_step (fail))
      refine wpQuiet_nil ?_
      rintro _ ⟨u2,rfl⟩
      have hb5:=Hd (hb4.out.trans (u2.up.mono hb4.out.size))
      clear G2
      generalize u2.wld = w5 at *
      go_wp2_with fail
      go_roundw
      case rel=>exact ⟨k + 1,xn,sub2,by omega,by go_num,rfl,hb5,htail,Hd hx4⟩
      case measure=>simp [intOf]; omega
    ·obtain ⟨-,hx1,hx2⟩ : cls ≠ 0 /\ tk.getD p 0 &&& cls ≠ 0 /\ isSub (isTreeF g tk n) tk b (its.drop (k + 1)) (p + 1) sub' = true:=by
      rcases hcase.out with h | h
      ·exact h
      ·exact absurd h.1 hc
     have hq : ((cls : Int) != 0) = true:=by rw [bne_iff_ne]; omega
     obtain ⟨bt,offt,rfl,hbt',-,hit'⟩:=hit.out (by omega)
     have t0:=(hbx.out.cell (p:=⟨bt,offt + p,none⟩) hbt').trans (hit' p (by omega))
     have hbt3 : bt < w3.heap.size:=Nat.lt_of_lt_of_le hbt' hbx.out.size
     have hand:=and_u16_nat (tk.getD p 0) cls (htc p) hcl1
     have qe : (((tk.getD p 0 &&& cls : Nat) : Int) == 0) = false:=by rw [beq_eq_false_iff_ne]; omega
     generalize tk.getD p 0 = tkp at *
     generalize tkp &&& cls = tkz at *
     have T0:=fun (u : Ups w3)=>u.cellAt t0 hbt3
     have p1 : (p : Int) < (tk.length : Int):=by omega
     have p2 : (0 : Int) <= (p : Int):=by omega
     replace hc:=Hd hc
     clear hcase hit'
     go_upto_region 10 with fail
     refine wp_region_ups (P:=Tryz.prog) rfl (by kernel_rfl) ?_
     repeat (go_big_quiet_step (fail))
     refine wpQuiet_nil ?_
     rintro _ ⟨u1,rfl⟩
     have hb4:=Hd (hbx.out.trans (u1.up.mono hbx.out.size))
     clear T0 t0 Z0 Z1
     generalize u1.wld = w4 at *
     go_wp2_with fail
     go_roundw
     case rel=>exact ⟨k + 1,p + 1,sub',by omega,by go_num,by go_num,hb4,hsb,Hd hx2⟩
     case measure=>simp [intOf]; omega
   ·obtain rfl : k = its.length:=by omega
    have he:=hi.out
    rw [List.drop_length] at he
    obtain ⟨rfl,rfl⟩:=isSub_end he
    go_wp2_with fail
    go_ret
    exact ⟨rfl,hbr.out⟩
end
section
open Go Go.RowKit Go.Maps
theorem gright_true {rk : Nat -> Nat} {D : Nat} (gv tv v : Value) (g : List PRule) (tk : List Nat) (n : Nat) (t : PTree) (w : World) (hg : RulesP (fun _=>True) w gv g) (ok : GramOK g rk D) (ht : NatsO .u16 (fun _=>False) w tv tk) (htl : tk.length <= 40) (htc : ∀ i,tk.getD i 0 < 65536)
  (htr : TrAt (fun _=>False) w t v) (h : isTreeF g tk n t 0 0 tk.length = true) : Calls Tryz.prog 87 #[gv,tv,v] w fun e w'=>e = .returned (.bool true) /\ Below w.heap.size w w':=by
 have hg':=Hd hg
 have ht':=Hd ht
 have htr':=Hd htr
 obtain ⟨A0,c0,rfl,hn0,hcm0,-⟩:=hg
 obtain ⟨At,tc,rfl,htn,htm,-⟩:=ht
 obtain ⟨r,a,b,sub,sv,-,rfl,A,c,rfl,-⟩:=htr.sub
 unfold maxLen at hcm0 htm
 clear htr
 obtain ⟨W1,hW1⟩ : ∃ W1,W1 = w.alloc (.cells #[.int .i64 r,.int .i64 a,.int .i64 b,.slice A sub.length c] 34):=⟨_,rfl⟩
 have hb1 : Below w.heap.size w W1:=by rw [hW1]; exact (Below.refl _ _).alloc (lQ _) _
 have kT : Hid (Blk W1 w.heap.size 34 #[.int .i64 r,.int .i64 a,.int .i64 b,.slice A sub.length c]):=Hd (by rw [hW1]; exact Blk.new _ _ _)
 have hck:=Hd (checked_any _ g At tk.length tc W1 (RulesP.below hg'.out hb1) ok htl)
 go_enter Tryz.func87,Tryz.ntmps87
 go_upto_region 1 with fail
 rw [<- hW1]
 clear hW1
 go_wp2_with fail
 refine hck.out.mono ?_
 rintro e w2 ⟨rfl,hb2⟩
 have hb3:=Hd (hb1.trans (hb2.mono hb1.size))
 have k2:=kT.out.below hb2 kT.out.lt
 have x0:=k2.cell 0
 have x1:=k2.cell 1
 have x2:=k2.cell 2
 have x3:=k2.cell 3
 simp at x0 x1 x2 x3
 clear hck hb2 hb1 kT
 have hcall:=Hd (is_tree _ _ ok.glen (fun r hr=>⟨(ok.rules r hr).1,fun i hi=>((ok.rules r hr).2.2 i hi).1⟩) htl htc n t _ w2 0 0 tk.length (lQ _) h (RulesP.below hg'.out hb3.out) (NatsO.keep ht'.out (CKp.of_below hb3.out _) fun b h=>.inl h) (TrAt.keep (CKp.of_below hb3.out _) (fun b h=>.inl h) _ _ htr'.out))
 go_wp2_with fail
 refine hcall.out.mono ?_
 rintro e w4 ⟨rfl,hb4⟩
 have hb5:=Hd (hb3.out.trans (hb4.mono hb3.out.size))
 clear hcall hb4 k2 x0 x1 x2 x3
 go_wp2_with fail
 go_ret
 exact ⟨rfl,hb5.out⟩
end
section
open Go Go.RowKit Go.Maps
structure SetF (F : Nat) (w w' : World) : Prop where
 os : w'.os = w.os
 tape : w'.tape = w.tape
 output : w'.output = w.output
 size : w.heap.size <= w'.heap.size
 block : ∀ k,k < w.heap.size -> k ≠ F -> w'.heap[k]? = w.heap[k]?
section
variable {F : Nat} {w w' w'' : World}
theorem SetF.refl (F : Nat) (w : World) : SetF F w w:=⟨rfl,rfl,rfl,lQ _,fun _ _ _=>rfl⟩
theorem SetF.trans (h : SetF F w w') (k : SetF F w' w'') : SetF F w w'':=⟨k.os.trans h.os,k.tape.trans h.tape,k.output.trans h.output,Nat.le_trans h.size k.size,fun i hi hne=>(k.block i (Nat.lt_of_lt_of_le hi h.size) hne).trans (h.block i hi hne)⟩
theorem SetF.of_below (h : Below w.heap.size w w') : SetF F w w':=⟨h.os,h.tape,h.output,h.size,fun k hk _=>h.block k hk⟩
theorem SetF.below (h : SetF F w w') {B : Nat} (hF : B <= F) (hB : B <= w.heap.size) : Below B w w':=⟨h.os,h.tape,h.output,h.size,fun k hk=>h.block k (by omega) (by omega)⟩
theorem SetF.set (h : SetF F w w') (k : Nat) (v : Value) : SetF F w (w'.setCell ⟨F,k,none⟩ v):=
 h.trans ⟨rfl,rfl,rfl,by simp [World.setCell],fun k' _ hne=>Below.heap_setCell w' ⟨F,k,none⟩ v k' hne⟩
theorem SetF.cell (h : SetF F w w') {b o : Nat} {v : Value} (hb : b ≠ F) (hc : w.cell? ⟨b,o,none⟩ = some v) : w'.cell? ⟨b,o,none⟩ = some v:=
 (World.cell?_of_block (h.block b (cell_lt hc) hb)).trans hc
theorem SetF.ckp (h : SetF F w w') : CKp (fun b=>b = F) w w':=⟨h.size,fun _ _ _ hb hc=>h.cell hb hc⟩
theorem SetF.rules (h : SetF F w w') {v : Value} {g : List PRule} (hr : RulesP (fun b=>b ≠ F) w v g) : RulesP (fun b=>b ≠ F) w' v g:=
 SlP.map hr h.size (fun _ _ h=>h) fun _ _ _ _ hp _ hr=>⟨h.cell hp hr.1,let ⟨iv,h1,h2⟩:=hr.2; ⟨iv,h.cell hp h1,h2.keep h.size (fun _ _ _ hp hc=>h.cell hp hc) fun _ _ h=>h⟩⟩
theorem IsTexts11.at_ {fd : List ByteArray} (h : IsTexts11 w F fd) {k : Nat} (hk : k < 11) : w.cell? ⟨F,k,none⟩ = some (.string (fd.getD k ⟨#[]⟩)):=by
 have c:=h.1.cell k
 rw [List.getElem?_toArray,List.getElem?_map,List.getElem?_eq_getElem (by rw [h.2]; exact hk)] at c
 rw [c,getD_at _ _ _ (by rw [h.2]; exact hk)]
 rfl
theorem IsTexts11.set_ {fd : List ByteArray} (h : IsTexts11 w F fd) (k : Nat) (x : ByteArray) : IsTexts11 (w.setCell ⟨F,k,none⟩ (.string x)) F (fd.set k x):=by
 refine ⟨?_,by rw [List.length_set]; exact h.2⟩
 have:=h.1.set_ k (.string x)
 rw [List.map_set]
 simpa using this
theorem IsTexts11.up {fd : List ByteArray} (h : IsTexts11 w F fd) (hb : Below w.heap.size w w') : IsTexts11 w' F fd:=⟨h.1.below hb h.1.lt,h.2⟩
end
def PartsP (P : Nat -> Prop) (w : World) (v : Value) (ps : List (List Nat)) : Prop:=SlP P w v ps.length fun b off i=>∃ iv,w.cell? ⟨b,off + i,none⟩ = some iv /\ BytesP P w iv (ps.getD i [])
def ToksP (P : Nat -> Prop) (w : World) (v : Value) (l : List PTok) : Prop:=SlP P w v l.length fun b off i=>IsTok w b (off + i * 4) (l.getD i PTok.zero)
section
variable {F : Nat} {w w' w'' : World}
theorem SetF.parts (h : SetF F w w') {v : Value} {ps : List (List Nat)} (hr : PartsP (fun b=>b ≠ F) w v ps) : PartsP (fun b=>b ≠ F) w' v ps:=
 SlP.map hr h.size (fun _ _ h=>h) fun _ _ _ _ hp _ hr=>let ⟨iv,h1,h2⟩:=hr; ⟨iv,h.cell hp h1,h2.keep h.size (fun _ _ _ hp hc=>h.cell hp hc) fun _ _ h=>h⟩
theorem SetF.toks (h : SetF F w w') {v : Value} {l : List PTok} (hr : ToksP (fun b=>b ≠ F) w v l) : ToksP (fun b=>b ≠ F) w' v l:=
 SlP.map hr h.size (fun _ _ h=>h) fun _ _ _ _ hp _ hr=>⟨h.cell hp hr.c0,h.cell hp hr.c1,h.cell hp hr.c2,h.cell hp hr.c3⟩
end
end
end Go.Proofs.YteclineblddpbaaGreatDoorR
