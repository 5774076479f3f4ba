import Derived.Test.YteclineblddpbaaGreatDoorRC01
import Derived.Test.YteclineblddpbaaGreatDoorRC11
import Derived.Test.YteclineblddpbaaGreatDoorRC18
import Derived.Test.YteclineblddpbaaGreatDoorRC33
import Derived.Shelf.Strings.Replace
set_option linter.all false
set_option maxRecDepth 100000
set_option maxHeartbeats 0
namespace Go.Proofs.YteclineblddpbaaGreatDoorR
section
open Go Go.RowKit Go.Maps
theorem gatherI_cls {rec : PTree -> List ByteArray -> List ByteArray} {s : List PTok} {i : PItem} {t : List PItem} {kd : Nat} {ks : List Nat} {a : Nat} {sub : List PTree} {fd : List ByteArray} (h : i.cls ≠ 0) : gatherI rec s (i :: t) (kd :: ks) a sub fd = gatherI rec s t ks (a + 1) sub (putTok fd i.cls kd (s.getD a PTok.zero).text):=by
 conv=>lhs; unfold gatherI
 rw [if_neg h]; rfl
theorem gatherI_sym {rec : PTree -> List ByteArray -> List ByteArray} {s : List PTok} {i : PItem} {t : List PItem} {kd : Nat} {ks : List Nat} {a : Nat} {x : PTree} {sub : List PTree} {fd : List ByteArray} (h : i.cls = 0) : gatherI rec s (i :: t) (kd :: ks) a (x :: sub) fd = gatherI rec s t ks x.to.toNat sub (rec x fd):=by
 conv=>lhs; unfold gatherI
 rw [if_pos h]; rfl
theorem set_size {fd : List ByteArray} {k m : Nat} {y : ByteArray} (h : ∀ j,(fd.getD j ⟨#[]⟩).size <= m) (hy : y.size <= m) (j : Nat) : ((fd.set k y).getD j ⟨#[]⟩).size <= m:=by
 rw [List.getD_eq_getElem?_getD,List.getElem?_set]
 split
 ·split
  ·exact hy
  ·exact Nat.zero_le _
 ·rw [<- List.getD_eq_getElem?_getD]; exact h j
theorem putText_size {fd : List ByteArray} {k m : Nat} {x : ByteArray} (h : ∀ j,(fd.getD j ⟨#[]⟩).size <= m) (hx : x.size <= 60) (j : Nat) : ((putText fd k x).getD j ⟨#[]⟩).size <= m + 61:=by
 unfold putText
 split
 ·exact Nat.le_trans (h j) (by omega)
 ·refine set_size (fun j=>Nat.le_trans (h j) (by omega)) ?_ j
  split
  ·omega
  ·rw [ByteArray.size_append,ByteArray.size_append,show (⟨#[32]⟩ : ByteArray).size = 1 from rfl]
   have:=h k
   omega
theorem gather_any {g : List PRule} {tk : List Nat} {ps : List (List Nat)} {s : List PTok} (rv pv sv : Value) (F : Nat) (hgl : g.length <= 200) (hok : ∀ r,r < g.length -> (ruleOf g r).length <= 8 /\ ∀ i ∈ ruleOf g r,i.cls < 65536) (hps : ps.length = g.length /\ ∀ r,r < g.length -> (ps.getD r []).length = (ruleOf g r).length /\ ∀ k ∈ ps.getD r [],k < 11)
  (htk : tk.length = s.length) (hsl : s.length <= 40) (hst : ∀ i,(s.getD i PTok.zero).text.size <= 60) (hlet : ∀ i,tk.getD i 0 &&& 2 ≠ 0 -> 0 < (s.getD i PTok.zero).text.size) :
  ∀ (n : Nat) (t : PTree) (v : Value) (w : World) (sy a b : Nat) (fd : List ByteArray),b <= tk.length -> isTreeF g tk n t sy a b = true -> RulesP (fun b=>b ≠ F) w rv g -> PartsP (fun b=>b ≠ F) w pv ps -> ToksP (fun b=>b ≠ F) w sv s -> TrAt (fun b=>b = F) w t v -> IsTexts11 w F fd -> (∀ j,(fd.getD j ⟨#[]⟩).size <= 100 * a) ->
  Calls Tryz.prog 88 #[.agg #[rv,pv],sv,v,.pointer (some ⟨F,0,none⟩)] w fun e w'=>e = .returned (.tuple #[]) /\ SetF F w w' /\ IsTexts11 w' F (gatherF g ps s n t fd) /\ (∀ j,((gatherF g ps s n t fd).getD j ⟨#[]⟩).size <= 100 * b):=by
 intro n
 induction n with
 | zero=>
  intro t v w sy a b fd _ h
  rw [isTreeF] at h
  cases h
 | succ n ih=>
  intro t v w sy a b fd hbt h hg hp hs ht hfd hsz
  obtain ⟨r,src,dst,sub⟩:=t
  obtain ⟨hr0,hr1,hl,rfl,rfl,hi⟩:=isTree_inv h
  obtain ⟨rn,rfl⟩ : ∃ rn : Nat,r = (rn : Int):=⟨r.toNat,by omega⟩
  obtain ⟨_,_,_,_,sv',et,rfl,hsub⟩:=ht.sub
  cases et
  have hR0 : gatherF g ps s (n + 1) (.node (rn : Int) (a : Int) (b : Int) sub) fd = gatherI (gatherF g ps s n) s (ruleOf g rn) (ps.getD rn []) a sub fd:=rfl
  simp only [Int.toNat_natCast] at hl hi
  have hrn : rn < g.length:=by omega
  have hg':=Hd hg
  have hp':=Hd hp
  have hs':=Hd hs
  obtain ⟨A0,c0,rfl,-,hcm0,hi0⟩:=hg
  obtain ⟨b0,off0,rfl,hb0,hbF0,hi0⟩:=hi0 (by omega)
  obtain ⟨-,iv,g1,hiv⟩:=hi0 rn hrn
  obtain ⟨hr8,hcl⟩:=hok rn hrn
  obtain ⟨hkl,hk11⟩:=hps.2 rn hrn
  obtain ⟨Ap,cp,rfl,-,hcmp,hip⟩:=hp
  obtain ⟨bp,offp,rfl,hbp,hbFp,hip⟩:=hip (by omega)
  obtain ⟨kv,gp1,hkv⟩:=hip rn (by omega)
  unfold ruleOf at hi hr8 hcl hkl hR0
  obtain ⟨At,tc,rfl,htn,htm,hit⟩:=hs
  replace hit:=Hd hit
  obtain ⟨A1,c1,rfl,hn1,hcm1,hit1⟩:=hiv
  obtain ⟨Ak,ck,rfl,hnk,hcmk,hitk⟩:=hkv
  generalize (g.getD rn PRule.zero).right = its at *
  generalize ps.getD rn [] = ks at *
  have hpl : (rn : Int) < (ps.length : Int):=by omega
  clear hpl
  generalize gatherF g ps s (n + 1) (.node (rn : Int) (a : Int) (b : Int) sub) fd = RR at *
  replace hit1:=Hd hit1
  replace hitk:=Hd hitk
  replace hcl:=Hd hcl
  replace hk11:=Hd hk11
  replace hi:=Hd hi
  replace ih:=Hd ih
  replace hR0:=Hd hR0
  replace hsz:=Hd hsz
  replace hkl:=Hd hkl
  replace hst:=Hd hst
  replace hlet:=Hd hlet
  clear h hl hi0 hip ht
  obtain ⟨A,c,rfl,hn,⟨hcm,-⟩,-⟩:=id hsub
  have hsub':=Hd hsub
  clear hsub
  unfold maxLen at hcm hcm0 htm hcm1 hcmp hcmk
  rw [hps.1] at hp' ih ⊢
  replace hps:=Hd hps
  obtain ⟨W1,hW1⟩ : ∃ W1,W1 = w.alloc (.cells #[.slice (some ⟨b0,off0,none⟩) g.length c0,.slice (some ⟨bp,offp,none⟩) g.length cp] 56):=⟨_,rfl⟩
  obtain ⟨W2,hW2⟩ : ∃ W2,W2 = W1.alloc (.cells #[.int .i64 (rn : Int),.int .i64 (a : Int),.int .i64 (b : Int),.slice A sub.length c] 34):=⟨_,rfl⟩
  have hb1 : Below w.heap.size w W1:=by rw [hW1]; exact (Below.refl _ _).alloc (lQ _) _
  have hb2 : Below w.heap.size w W2:=by rw [hW2]; exact hb1.alloc hb1.size _
  have kG : Blk W2 w.heap.size 56 #[.slice (some ⟨b0,off0,none⟩) g.length c0,.slice (some ⟨bp,offp,none⟩) g.length cp]:=by rw [hW2]; refine Blk.alloc ?_ _; rw [hW1]; exact Blk.new _ _ _
  have kT : Blk W2 W1.heap.size 34 #[.int .i64 (rn : Int),.int .i64 (a : Int),.int .i64 (b : Int),.slice A sub.length c]:=by rw [hW2]; exact Blk.new _ _ _
  have sz1 : W1.heap.size = w.heap.size + 1:=by rw [hW1]; simp
  have hFw : F < w.heap.size:=hfd.1.lt
  have q3 : (rn : Int) < (g.length : Int):=by omega
  have q4 : (0 : Int) <= (rn : Int):=by omega
  go_enter Tryz.func88,Tryz.ntmps88
  go_upto_region 1 with fail
  rw [<- hW1,<- hW2,<- sz1]
  replace hW1:=Hd hW1
  replace hW2:=Hd hW2
  obtain ⟨GB,hGB⟩ : ∃ GB,GB = w.heap.size:=⟨_,rfl⟩
  obtain ⟨TB,hTB⟩ : ∃ TB,TB = W1.heap.size:=⟨_,rfl⟩
  rw [<- hTB] at kT sz1 ⊢
  rw [<- hGB] at kG sz1 ⊢
  have hne : Hid (GB ≠ F /\ TB ≠ F):=Hd ⟨by omega,by omega⟩
  replace sz1:=Hd sz1
  replace hGB:=Hd hGB
  replace hTB:=Hd hTB
  have x1:=kT.cell 1
  have x3:=kT.cell 3
  simp at x1 x3
  have X1:=fun (u : Ups W2)=>u.cellAt x1 kT.lt
  have X3:=fun (u : Ups W2)=>u.cellAt x3 kT.lt
  refine wp_region_ups (P:=Tryz.prog) rfl (by kernel_rfl) ?_
  repeat (go_big_quiet_step (fail))
  refine wpQuiet_nil ?_
  rintro _ ⟨u0,rfl⟩
  have hb3:=Hd (hb2.trans (u0.up.mono hb2.size))
  have kG3:=Hd (kG.below u0.up kG.lt)
  have kT3:=Hd (kT.below u0.up kT.lt)
  clear X1 X3 x1 x3 kG kT hb1 hb2
  generalize u0.wld = W3 at *
  have y0:=kG3.out.cell 0
  have y1:=(hb3.out.cell (p:=⟨b0,off0 + rn * 2 + 1,none⟩) hb0).trans g1
  have y2:=kT3.out.cell 0
  simp at y0 y2
  have hS3 : Hid (SetF F w W3):=Hd (SetF.of_below hb3.out)
  have hfd3:=Hd (hfd.up hb3.out)
  go_wp2_with fail
  clear y0 y1 y2
  go_loopw [8,9,27] (fun av sv iv wr=>∃ (k p : Nat) (sub' : List PTree) (fd' : List ByteArray),k <= its.length /\ iv = .int .i64 k /\ av = .int .i64 p /\ Hid (SetF F w wr) /\ Hid (SubV (fun b=>b = F) w sub' sv) /\ Hid (isSub (isTreeF g tk n) tk b (its.drop k) p sub' = true) /\ Hid (IsTexts11 wr F fd') /\ Hid (∀ j,(fd'.getD j ⟨#[]⟩).size <= 100 * p) /\ Hid (RR = gatherI (gatherF g ps s n) s (its.drop k) (ks.drop k) p sub' fd') /\ Hid (Blk wr GB 56 #[.slice (some ⟨b0,off0,none⟩) g.length c0,.slice (some ⟨bp,offp,none⟩) g.length cp]) /\ Hid (Blk wr TB 34 #[.int .i64 (rn : Int),.int .i64 (a : Int),.int .i64 (b : Int),.slice A sub.length c]))
   (fun _ _ iv _=>its.length - (intOf iv).toNat)
  case atStart=>exact ⟨0,a,sub,fd,by omega,rfl,rfl,hS3,hsub',hi,hfd3,hsz,hR0,kG3,kT3⟩
  case round=>
   obtain ⟨k,p,sub',fd',hk,rfl,rfl,hbr,hsb,hi,hfdr,hszr,hRR,kGr,kTr⟩:=hrel
   rename World=>wr
   clear hS3 hsub' hfd3 hR0 kG3 kT3 hb3 hsz hfd
   have n0 : (0 : Int) <= (k : Int):=by omega
   obtain ⟨A3,c3,rfl,hn3,⟨hcm3,-⟩,-⟩:=id hsb.out
   unfold maxLen at hcm3
   by_cases hlt : k < its.length
   ·have n1 : (k : Int) < (its.length : Int):=by omega
    have hltk : k < ks.length:=by rw [hkl.out]; exact hlt
    obtain ⟨b1,off1,rfl,hb1',hbF1,hit1⟩:=hit1.out (by omega)
    obtain ⟨bk,offk,rfl,hbk,hbFk,hitk⟩:=hitk.out (by omega)
    obtain ⟨d0,d1⟩:=hit1 k hlt
    have dk:=hitk k hltk
    have hdr:=hi.out
    have hRx:=hRR.out
    rw [drop_getD its PItem.zero k hlt] at hdr hRx
    rw [drop_getD ks 0 k hltk] at hRx
    have hcl1:=hcl.out (its.getD k PItem.zero) (by rw [getD_at _ _ _ hlt]; exact List.getElem_mem hlt)
    have hkd:=hk11.out (ks.getD k 0) (by rw [getD_at _ _ _ hltk]; exact List.getElem_mem hltk)
    obtain ⟨hpb,hcase⟩:=isSub_inv hdr
    have nk1 : (k : Int) < (ks.length : Int):=by omega
    clear hit1 hitk hdr hi hRR
    generalize its.getD k PItem.zero = item at *
    generalize ks.getD k 0 = kd at *
    obtain ⟨cls,sym⟩:=item
    simp only at d0 d1 hcase hcl1
    replace hcase:=Hd hcase
    have e0:=hbr.out.cell hbF1 d0
    have e1:=hbr.out.cell hbF1 d1
    obtain ⟨w3,hw3⟩ : ∃ w3,w3 = wr.alloc (.cells #[.int .u16 (cls : Int),.int .i64 (sym : Int)] 76):=⟨_,rfl⟩
    have hb3 : Below wr.heap.size wr w3:=by rw [hw3]; exact (Below.refl _ _).alloc (lQ _) _
    have k3 : Blk w3 wr.heap.size 76 #[.int .u16 (cls : Int),.int .i64 (sym : Int)]:=by rw [hw3]; exact Blk.new _ _ _
    go_upto_region 5 with fail
    rw [<- hw3]
    clear hw3 e0 e1
    have hbx:=Hd (hbr.out.trans (SetF.of_below hb3))
    have hfx:=Hd (hfdr.out.up hb3)
    have kGx:=Hd (kGr.out.below hb3 kGr.out.lt)
    have kTx:=Hd (kTr.out.below hb3 kTr.out.lt)
    have hKF : Hid (wr.heap.size ≠ F):=Hd (by have:=hfdr.out.1.lt; omega)
    clear hb3 hbr hfdr kGr kTr
    generalize wr.heap.size = KB at *
    have z0:=k3.cell 0
    have z1:=k3.cell 1
    simp at z0 z1
    by_cases hc : cls = 0
    ·subst hc
     obtain ⟨x,sub2,rfl,hx1,hx2,hx3,hx4⟩ : ∃ x sub2,sub' = x :: sub2 /\ (p : Int) < x.to /\ x.to <= (b : Int) - ((its.drop (k + 1)).length : Int) /\ isTreeF g tk n x sym p x.to.toNat = true /\ isSub (isTreeF g tk n) tk b (its.drop (k + 1)) x.to.toNat sub2 = true:=by
      rcases hcase.out with h | h
      ·exact absurd rfl h.1
      ·exact h.2
     clear hcase
     rw [gatherI_sym rfl] at hRx
     obtain ⟨bl,off,rfl,hbl,hblF,hx5⟩ : ∃ bl off,A3 = some ⟨bl,off,none⟩ /\ bl < w.heap.size /\ bl ≠ F /\ TrsAt (fun b=>b = F) w (x :: sub2) bl off:=by
      obtain ⟨A',c',e,-,-,h3⟩:=id hsb.out
      simp only [Value.slice.injEq] at e
      obtain ⟨rfl,-,rfl⟩:=e
      obtain ⟨bl,off,e,h4,h5,h6⟩:=h3 (by simp)
      exact ⟨bl,off,e,h4,h5,h6⟩
     have htail:=Hd (hsb.out.tail)
     obtain ⟨⟨v0,v1,v2,v3,c0',c1',c2',c3',hxt⟩,-⟩:=hx5
     obtain ⟨xr,xs,xd,xsub,xsv,ex,ev,Ax,cx,rfl,-⟩:=hxt.sub
     subst ex
     simp only [Value.agg.injEq,Array.mk.injEq,List.cons.injEq,and_true] at ev
     obtain ⟨rfl,rfl,rfl,rfl⟩:=ev
     simp only [PTree.to] at hx1 hx2 hx3 hx4 hRx
     obtain ⟨xn,rfl⟩ : ∃ xn : Nat,xd = (xn : Int):=⟨xd.toNat,by omega⟩
     simp only [Int.toNat_natCast] at hx3 hx4 hRx
     rw [List.length_drop] at hx2
     have hxb : xn <= tk.length:=by omega
     replace hRx:=Hd hRx
     have f0:=hbx.out.cell hblF c0'
     have f1:=hbx.out.cell hblF c1'
     have f2:=hbx.out.cell hblF c2'
     have f3:=hbx.out.cell hblF c3'
     have F0:=fun (u : Ups w3)=>u.cellAt f0 (cell_lt f0)
     have F1:=fun (u : Ups w3)=>u.cellAt f1 (cell_lt f1)
     have F2:=fun (u : Ups w3)=>u.cellAt f2 (cell_lt f2)
     have F3:=fun (u : Ups w3)=>u.cellAt f3 (cell_lt f3)
     have G0:=fun (u : Ups w3)=>(kGx.out.below u.up kGx.out.lt).cell 0
     have G1:=fun (u : Ups w3)=>(kGx.out.below u.up kGx.out.lt).cell 1
     simp at G0 G1
     have j6 : (0 : Int) < (sub2.length : Int) + 1:=by omega
     go_upto_region 6 with fail
     refine wp_region_upst 6 (P:=Tryz.prog) rfl (by kernel_rfl) ?_
     simp only [tS,tZ,dS,dZ]
     repeat (go_big_quiet_step (fail))
     refine wpQuiet_nil ?_
     rintro w' ⟨u1,rfl⟩
     have hb4:=Hd (hbx.out.trans (SetF.of_below u1.up))
     have hf4:=Hd (hfx.out.up u1.up)
     have kG4:=Hd (kGx.out.below u1.up kGx.out.lt)
     have kT4:=Hd (kTx.out.below u1.up kTx.out.lt)
     clear F0 F1 F2 F3 G0 G1 f0 f1 f2 f3 z0 z1 k3
     generalize u1.wld = w4 at *
     have hcall:=Hd (ih.out _ _ w4 sym p xn fd' hxb hx3 (hb4.out.rules hg'.out) (hb4.out.parts hp'.out) (hb4.out.toks hs'.out) (TrAt.keep hb4.out.ckp (fun b h=>.inl h) _ _ hxt) hf4.out hszr.out)
     go_wp2_with fail
     refine hcall.out.mono ?_
     rintro e w5 ⟨rfl,hsf,hft,hsz5⟩
     clear hcall
     have hb5:=Hd (hb4.out.trans hsf)
     have kG5 : Hid (Blk w5 GB 56 #[.slice (some ⟨b0,off0,none⟩) g.length c0,.slice (some ⟨bp,offp,none⟩) g.length cp]):=Hd ((hsf.block GB kG4.out.lt hne.out.1).trans kG4.out)
     have kT5 : Hid (Blk w5 TB 34 #[.int .i64 (rn : Int),.int .i64 (a : Int),.int .i64 (b : Int),.slice A sub.length c]):=Hd ((hsf.block TB kT4.out.lt hne.out.2).trans kT4.out)
     have f2:=hb5.out.cell hblF c2'
     have G2:=fun (u : Ups w5)=>u.cellAt f2 (cell_lt f2)
     replace hft:=Hd hft
     replace hsz5:=Hd hsz5
     clear f2 hsf
     go_upto_region 7 with fail
     by_cases hc1 : c3 = 1
     ·rw [if_pos hc1] at htail
      subst hc1
      refine wp_region_ups (P:=Tryz.prog) rfl (by kernel_rfl) ?_
      repeat (go_big_quiet_step (fail))
      refine wpQuiet_nil ?_
      rintro _ ⟨u2,rfl⟩
      have hb6:=Hd (hb5.out.trans (SetF.of_below u2.up))
      have hf6:=Hd (IsTexts11.up hft.out u2.up)
      have kG6:=Hd (kG5.out.below u2.up kG5.out.lt)
      have kT6:=Hd (kT5.out.below u2.up kT5.out.lt)
      clear G2
      generalize u2.wld = w6 at *
      go_wp2_with fail
      go_roundw
      case rel=>exact ⟨k + 1,xn,sub2,_,by omega,by go_num,rfl,hb6,htail,Hd hx4,hf6,hsz5,hRx,kG6,kT6⟩
      case measure=>simp [intOf]; omega
     ·rw [if_neg hc1] at htail
      refine wp_region_ups (P:=Tryz.prog) rfl (by kernel_rfl) ?_
      repeat (go_big_quiet_step (fail))
      refine wpQuiet_nil ?_
      rintro _ ⟨u2,rfl⟩
      have hb6:=Hd (hb5.out.trans (SetF.of_below u2.up))
      have hf6:=Hd (IsTexts11.up hft.out u2.up)
      have kG6:=Hd (kG5.out.below u2.up kG5.out.lt)
      have kT6:=Hd (kT5.out.below u2.up kT5.out.lt)
      clear G2
      generalize u2.wld = w6 at *
      go_wp2_with fail
      go_roundw
      case rel=>exact ⟨k + 1,xn,sub2,_,by omega,by go_num,rfl,hb6,htail,Hd hx4,hf6,hsz5,hRx,kG6,kT6⟩
      case measure=>simp [intOf]; omega
    ·obtain ⟨-,hx1,hx2⟩ : cls ≠ 0 /\ tk.getD p 0 &&& cls ≠ 0 /\ isSub (isTreeF g tk n) tk b (its.drop (k + 1)) (p + 1) sub' = true:=by
      rcases hcase.out with h | h
      ·exact h
      ·exact absurd h.1 hc
     have hq : ((cls : Int) == 0) = false:=by rw [beq_eq_false_iff_ne]; omega
     rw [gatherI_cls hc] at hRx
     obtain ⟨bt,offt,rfl,hbt',hbtF,hit'⟩:=hit.out (by omega)
     have t0:=hbx.out.cell hbtF (hit' p (by omega)).c0
     have hx60:=hst.out p
     have hxl : cls = 2 -> 0 < (s.getD p PTok.zero).text.size:=fun e=>hlet.out p (by rw [e] at hx1; exact hx1)
     simp only at hRx
     generalize (s.getD p PTok.zero).text = x at *
     replace hRx:=Hd hRx
     have tp:=hbx.out.cell hbFp gp1
     have tk1:=hbx.out.cell hbFk dk
     have T0:=fun (u : Ups w3)=>u.cellAt t0 (cell_lt t0)
     have TP:=fun (u : Ups w3)=>u.cellAt tp (cell_lt tp)
     have TK:=fun (u : Ups w3)=>u.cellAt tk1 (cell_lt tk1)
     have G1:=fun (u : Ups w3)=>(kGx.out.below u.up kGx.out.lt).cell 1
     have T1:=fun (u : Ups w3)=>(kTx.out.below u.up kTx.out.lt).cell 0
     simp at G1 T1
     have p1 : (p : Int) < (s.length : Int):=by omega
     have p2 : (0 : Int) <= (p : Int):=by omega
     have p3 : IntKind.i64.wrap ((p : Int) + 1) = ((p + 1 : Nat) : Int):=wrap_small (by omega) (by omega)
     replace hc:=Hd hc
     clear hcase hit'
     go_upto_region 8 with fail
     refine wp_region_ups (P:=Tryz.prog) rfl (by kernel_rfl) ?_
     repeat (go_big_quiet_step (fail))
     refine wpQuiet_nil ?_
     rintro _ ⟨u1,rfl⟩
     have hb4:=Hd (hbx.out.trans (SetF.of_below u1.up))
     have hf4:=Hd (hfx.out.up u1.up)
     have kG4:=Hd (kGx.out.below u1.up kGx.out.lt)
     have kT4:=Hd (kTx.out.below u1.up kTx.out.lt)
     have k4:=k3.below u1.up k3.lt
     clear T0 TP TK G1 T1 t0 tp tk1 z0 z1
     generalize u1.wld = w4 at *
     have z0:=k4.cell 0
     simp at z0
     by_cases h2 : cls = 2
     ·have hxp:=hxl h2
      subst h2
      have h2q : (((2 : Nat) : Int) == 2) = true:=rfl
      have hs1 : Hid (∀ j,((fd'.set 2 (x.extract (x.size - 1) x.size)).getD j ⟨#[]⟩).size <= 100 * p + 1):=Hd (set_size (fun j=>Nat.le_trans (hszr.out j) (by omega)) (by rw [ByteArray.size_extract]; omega))
      have hx1s : (x.extract 0 (x.size - 1)).size <= 60:=by rw [ByteArray.size_extract]; omega
      have hput : putTok fd' 2 kd x = putText (fd'.set 2 (x.extract (x.size - 1) x.size)) kd (x.extract 0 (x.size - 1)):=by unfold putTok; rw [if_pos rfl]
      have l1 : IntKind.i64.wrap ((x.size : Int) - 1) = (x.size : Int) - 1:=wrap_small (by omega) (by omega)
      have l2 : ((x.size : Int) - 1).toNat = x.size - 1:=by omega
      have l3 : (0 : Int) <= (x.size : Int) - 1:=by omega
      have l4 : (x.size : Int) - 1 <= (x.size : Int):=by omega
      go_upto_region 12 with fail
      refine wp_region_upst 6 (P:=Tryz.prog) rfl (by kernel_rfl) ?_
      simp only [tS,tZ,dS,dZ]
      repeat (go_big_quiet_step (fail))
      refine wpQuiet_nil ?_
      rintro w' ⟨u3,rfl⟩
      have hb5:=Hd (hb4.out.trans (SetF.of_below u3.up))
      have hf5:=Hd (hf4.out.up u3.up)
      have kG5:=Hd (kG4.out.below u3.up kG4.out.lt)
      have kT5:=Hd (kT4.out.below u3.up kT4.out.lt)
      clear z0
      generalize u3.wld = w5 at *
      have hf6:=Hd (hf5.out.set_ 2 (x.extract (x.size - 1) x.size))
      have hb6:=Hd (hb5.out.set 2 (.string (x.extract (x.size - 1) x.size)))
      have kG6:=Hd (kG5.out.far (p:=⟨F,2,none⟩) hne.out.1 (.string (x.extract (x.size - 1) x.size)))
      have kT6:=Hd (kT5.out.far (p:=⟨F,2,none⟩) hne.out.2 (.string (x.extract (x.size - 1) x.size)))
      have zc:=hf5.out.at_ (k:=2) (by omega)
      have zf:=hf5.out.1.frozen 2
      have zl:=hf5.out.1.lt
      go_upto_region 13 with fail
      clear zc zf zl
      generalize w5.setCell ⟨F,2,none⟩ (.string (x.extract (x.size - 1) x.size)) = w6 at *
      go_upto_region 14 with fail
      replace hRx:=hRx.out
      generalize x.extract 0 (x.size - 1) = x1 at *
      generalize fd'.set 2 (x.extract (x.size - 1) x.size) = fd1 at *
      clear l1 l2 l3 l4
      rw [hput] at hRx
      replace hRx:=Hd hRx
      have y6:=hf6.out.at_ hkd
      have hys:=hs1.out kd
      obtain ⟨y,hyd⟩ : ∃ y,fd1.getD kd ⟨#[]⟩ = y:=⟨_,rfl⟩
      rw [hyd] at y6 hys
      have k0 : (0 : Int) <= (kd : Int):=by omega
      have k1 : (kd : Int) < 11:=by omega
      by_cases hy : y.size = 0
      ·have yq : y.toList.isEmpty = true:=by rw [empty_tl]; exact decide_eq_true hy
       by_cases hk0 : kd = 0
       ·have kq : ((kd : Int) != 0) = false:=by rw [hk0]; rfl
        have hpt : putText fd1 kd x1 = fd1:=by unfold putText; rw [if_pos hk0]
        have hs7 : Hid (∀ j,(fd1.getD j ⟨#[]⟩).size <= 100 * (p + 1)):=Hd (by rw [<- hpt]; exact fun j=>Nat.le_trans (putText_size hs1.out hx1s j) (by omega))
        have hR7:=hRx.out
        rw [hpt] at hR7
        replace hR7:=Hd hR7
        replace hk0:=Hd hk0
        replace hpt:=Hd hpt
        go_wp2_with fail
        go_roundw
        case rel=>exact ⟨k + 1,p + 1,sub',fd1,by omega,by go_num,rfl,hb6,hsb,Hd hx2,hf6,hs7,hR7,kG6,kT6⟩
        case measure=>simp [intOf]; omega
       ·have kq : ((kd : Int) != 0) = true:=by rw [bne_iff_ne]; omega
        have hpt : putText fd1 kd x1 = fd1.set kd x1:=by unfold putText; rw [if_neg hk0,hyd,if_pos hy]
        have hs7 : Hid (∀ j,((fd1.set kd x1).getD j ⟨#[]⟩).size <= 100 * (p + 1)):=Hd (by rw [<- hpt]; exact fun j=>Nat.le_trans (putText_size hs1.out hx1s j) (by omega))
        have hR7:=hRx.out
        rw [hpt] at hR7
        replace hR7:=Hd hR7
        have hf7:=Hd (hf6.out.set_ kd x1)
        have hb7:=Hd (hb6.out.set kd (.string x1))
        have kG7:=Hd (kG6.out.far (p:=⟨F,kd,none⟩) hne.out.1 (.string x1))
        have kT7:=Hd (kT6.out.far (p:=⟨F,kd,none⟩) hne.out.2 (.string x1))
        have zf:=hf6.out.1.frozen kd
        have zl:=hf6.out.1.lt
        have hk1 : 0 < kd:=by omega
        replace hk0:=Hd hk0
        replace hpt:=Hd hpt
        go_wp2_with fail
        go_roundw
        case rel=>exact ⟨k + 1,p + 1,sub',_,by omega,by go_num,rfl,hb7,hsb,Hd hx2,hf7,hs7,hR7,kG7,kT7⟩
        case measure=>simp [intOf]; omega
      ·have yq : y.toList.isEmpty = false:=by rw [empty_tl]; exact decide_eq_false hy
       have m1 : ¬ (9223372036854775807 : Int) < ((y.size + 1 : Nat) : Int):=by omega
       have m2 : ¬ (9223372036854775807 : Int) < ((y.size + 1 + x1.size : Nat) : Int):=by omega
       have m1' : ¬ (9223372036854775807 : Int) < (y.size : Int) + 1:=by omega
       have m2' : ¬ (9223372036854775807 : Int) < (y.size : Int) + 1 + (x1.size : Int):=by omega
       have m3 : (y ++ (⟨#[32]⟩ : ByteArray)).size = y.size + 1:=by rw [ByteArray.size_append]; rfl
       by_cases hk0 : kd = 0
       ·have kq : ((kd : Int) != 0) = false:=by rw [hk0]; rfl
        have hpt : putText fd1 kd x1 = fd1:=by unfold putText; rw [if_pos hk0]
        have hs7 : Hid (∀ j,(fd1.getD j ⟨#[]⟩).size <= 100 * (p + 1)):=Hd (by rw [<- hpt]; exact fun j=>Nat.le_trans (putText_size hs1.out hx1s j) (by omega))
        have hR7:=hRx.out
        rw [hpt] at hR7
        replace hR7:=Hd hR7
        replace hk0:=Hd hk0
        replace hpt:=Hd hpt
        go_wp2_with fail
        go_roundw
        case rel=>exact ⟨k + 1,p + 1,sub',fd1,by omega,by go_num,rfl,hb6,hsb,Hd hx2,hf6,hs7,hR7,kG6,kT6⟩
        case measure=>simp [intOf]; omega
       ·have kq : ((kd : Int) != 0) = true:=by rw [bne_iff_ne]; omega
        have hpt : putText fd1 kd x1 = fd1.set kd (y ++ ⟨#[32]⟩ ++ x1):=by unfold putText; rw [if_neg hk0,hyd,if_neg hy]
        have hs7 : Hid (∀ j,((fd1.set kd (y ++ ⟨#[32]⟩ ++ x1)).getD j ⟨#[]⟩).size <= 100 * (p + 1)):=Hd (by rw [<- hpt]; exact fun j=>Nat.le_trans (putText_size hs1.out hx1s j) (by omega))
        have hR7:=hRx.out
        rw [hpt] at hR7
        replace hR7:=Hd hR7
        have hf7:=Hd (hf6.out.set_ kd (y ++ ⟨#[32]⟩ ++ x1))
        have hb7:=Hd (hb6.out.set kd (.string (y ++ ⟨#[32]⟩ ++ x1)))
        have kG7:=Hd (kG6.out.far (p:=⟨F,kd,none⟩) hne.out.1 (.string (y ++ ⟨#[32]⟩ ++ x1)))
        have kT7:=Hd (kT6.out.far (p:=⟨F,kd,none⟩) hne.out.2 (.string (y ++ ⟨#[32]⟩ ++ x1)))
        have zf:=hf6.out.1.frozen kd
        have zl:=hf6.out.1.lt
        have hk1 : 0 < kd:=by omega
        replace hk0:=Hd hk0
        replace hpt:=Hd hpt
        go_wp2_with fail
        go_roundw
        case rel=>exact ⟨k + 1,p + 1,sub',_,by omega,by go_num,rfl,hb7,hsb,Hd hx2,hf7,hs7,hR7,kG7,kT7⟩
        case measure=>simp [intOf]; omega
     ·have h2q : ((cls : Int) == 2) = false:=by rw [beq_eq_false_iff_ne]; omega
      have hput : putTok fd' cls kd x = putText fd' kd x:=by unfold putTok; rw [if_neg h2]
      have hs1 : Hid (∀ j,(fd'.getD j ⟨#[]⟩).size <= 100 * p + 1):=Hd (fun j=>Nat.le_trans (hszr.out j) (by omega))
      replace h2:=Hd h2
      go_upto_region 14 with fail
      replace hRx:=hRx.out
      clear hxl z0
      have hx1s:=hx60
      obtain ⟨fd1,hfd1⟩ : ∃ fd1,fd1 = fd':=⟨_,rfl⟩
      rw [<- hfd1] at hput hs1 hf4 hRx
      replace hfd1:=Hd hfd1
      generalize x = x1 at *
      have hb6:=hb4
      have hf6:=hf4
      have kG6:=kG4
      have kT6:=kT4
      clear hb4 hf4 kG4 kT4
      rw [hput] at hRx
      replace hRx:=Hd hRx
      have y6:=hf6.out.at_ hkd
      have hys:=hs1.out kd
      obtain ⟨y,hyd⟩ : ∃ y,fd1.getD kd ⟨#[]⟩ = y:=⟨_,rfl⟩
      rw [hyd] at y6 hys
      have k0 : (0 : Int) <= (kd : Int):=by omega
      have k1 : (kd : Int) < 11:=by omega
      by_cases hy : y.size = 0
      ·have yq : y.toList.isEmpty = true:=by rw [empty_tl]; exact decide_eq_true hy
       by_cases hk0 : kd = 0
       ·have kq : ((kd : Int) != 0) = false:=by rw [hk0]; rfl
        have hpt : putText fd1 kd x1 = fd1:=by unfold putText; rw [if_pos hk0]
        have hs7 : Hid (∀ j,(fd1.getD j ⟨#[]⟩).size <= 100 * (p + 1)):=Hd (by rw [<- hpt]; exact fun j=>Nat.le_trans (putText_size hs1.out hx1s j) (by omega))
        have hR7:=hRx.out
        rw [hpt] at hR7
        replace hR7:=Hd hR7
        replace hk0:=Hd hk0
        replace hpt:=Hd hpt
        go_wp2_with fail
        go_roundw
        case rel=>exact ⟨k + 1,p + 1,sub',fd1,by omega,by go_num,rfl,hb6,hsb,Hd hx2,hf6,hs7,hR7,kG6,kT6⟩
        case measure=>simp [intOf]; omega
       ·have kq : ((kd : Int) != 0) = true:=by rw [bne_iff_ne]; omega
        have hpt : putText fd1 kd x1 = fd1.set kd x1:=by unfold putText; rw [if_neg hk0,hyd,if_pos hy]
        have hs7 : Hid (∀ j,((fd1.set kd x1).getD j ⟨#[]⟩).size <= 100 * (p + 1)):=Hd (by rw [<- hpt]; exact fun j=>Nat.le_trans (putText_size hs1.out hx1s j) (by omega))
        have hR7:=hRx.out
        rw [hpt] at hR7
        replace hR7:=Hd hR7
        have hf7:=Hd (hf6.out.set_ kd x1)
        have hb7:=Hd (hb6.out.set kd (.string x1))
        have kG7:=Hd (kG6.out.far (p:=⟨F,kd,none⟩) hne.out.1 (.string x1))
        have kT7:=Hd (kT6.out.far (p:=⟨F,kd,none⟩) hne.out.2 (.string x1))
        have zf:=hf6.out.1.frozen kd
        have zl:=hf6.out.1.lt
        have hk1 : 0 < kd:=by omega
        replace hk0:=Hd hk0
        replace hpt:=Hd hpt
        go_wp2_with fail
        go_roundw
        case rel=>exact ⟨k + 1,p + 1,sub',_,by omega,by go_num,rfl,hb7,hsb,Hd hx2,hf7,hs7,hR7,kG7,kT7⟩
        case measure=>simp [intOf]; omega
      ·have yq : y.toList.isEmpty = false:=by rw [empty_tl]; exact decide_eq_false hy
       have m1 : ¬ (9223372036854775807 : Int) < ((y.size + 1 : Nat) : Int):=by omega
       have m2 : ¬ (9223372036854775807 : Int) < ((y.size + 1 + x1.size : Nat) : Int):=by omega
       have m1' : ¬ (9223372036854775807 : Int) < (y.size : Int) + 1:=by omega
       have m2' : ¬ (9223372036854775807 : Int) < (y.size : Int) + 1 + (x1.size : Int):=by omega
       have m3 : (y ++ (⟨#[32]⟩ : ByteArray)).size = y.size + 1:=by rw [ByteArray.size_append]; rfl
       by_cases hk0 : kd = 0
       ·have kq : ((kd : Int) != 0) = false:=by rw [hk0]; rfl
        have hpt : putText fd1 kd x1 = fd1:=by unfold putText; rw [if_pos hk0]
        have hs7 : Hid (∀ j,(fd1.getD j ⟨#[]⟩).size <= 100 * (p + 1)):=Hd (by rw [<- hpt]; exact fun j=>Nat.le_trans (putText_size hs1.out hx1s j) (by omega))
        have hR7:=hRx.out
        rw [hpt] at hR7
        replace hR7:=Hd hR7
        replace hk0:=Hd hk0
        replace hpt:=Hd hpt
        go_wp2_with fail
        go_roundw
        case rel=>exact ⟨k + 1,p + 1,sub',fd1,by omega,by go_num,rfl,hb6,hsb,Hd hx2,hf6,hs7,hR7,kG6,kT6⟩
        case measure=>simp [intOf]; omega
       ·have kq : ((kd : Int) != 0) = true:=by rw [bne_iff_ne]; omega
        have hpt : putText fd1 kd x1 = fd1.set kd (y ++ ⟨#[32]⟩ ++ x1):=by unfold putText; rw [if_neg hk0,hyd,if_neg hy]
        have hs7 : Hid (∀ j,((fd1.set kd (y ++ ⟨#[32]⟩ ++ x1)).getD j ⟨#[]⟩).size <= 100 * (p + 1)):=Hd (by rw [<- hpt]; exact fun j=>Nat.le_trans (putText_size hs1.out hx1s j) (by omega))
        have hR7:=hRx.out
        rw [hpt] at hR7
        replace hR7:=Hd hR7
        have hf7:=Hd (hf6.out.set_ kd (y ++ ⟨#[32]⟩ ++ x1))
        have hb7:=Hd (hb6.out.set kd (.string (y ++ ⟨#[32]⟩ ++ x1)))
        have kG7:=Hd (kG6.out.far (p:=⟨F,kd,none⟩) hne.out.1 (.string (y ++ ⟨#[32]⟩ ++ x1)))
        have kT7:=Hd (kT6.out.far (p:=⟨F,kd,none⟩) hne.out.2 (.string (y ++ ⟨#[32]⟩ ++ x1)))
        have zf:=hf6.out.1.frozen kd
        have zl:=hf6.out.1.lt
        have hk1 : 0 < kd:=by omega
        replace hk0:=Hd hk0
        replace hpt:=Hd hpt
        go_wp2_with fail
        go_roundw
        case rel=>exact ⟨k + 1,p + 1,sub',_,by omega,by go_num,rfl,hb7,hsb,Hd hx2,hf7,hs7,hR7,kG7,kT7⟩
        case measure=>simp [intOf]; omega
   ·obtain rfl : k = its.length:=by omega
    have he:=hi.out
    have hRf:=hRR.out
    rw [List.drop_length] at he hRf
    obtain ⟨rfl,rfl⟩:=isSub_end he
    have hRf2 : Hid (RR = fd'):=Hd (by rw [hRf]; unfold gatherI; rfl)
    go_wp2_with fail
    go_end0
    refine ⟨rfl,hbr.out,?_,?_⟩
    ·rw [hRf2.out]; exact hfdr.out
    ·rw [hRf2.out]; exact hszr.out
end
section
open Go.Shelf Go.RowKit
def Sh.lays155_ren : Go.Shelf.Ren:=⟨fun | 155=>89 | 154=>159 | 138=>191 | 165=>68 | 143=>71 | 166=>69 | 197=>192 | 169=>70 | 195=>201 | 218=>202 | 240=>123 | 241=>124 | 219=>125 | 260=>203 | 276=>180 | 277=>181 | 217=>182 | 225=>183 | 224=>184 | 267=>185 | 266=>199 | 314=>200 | n=>n,fun | 9=>9 | 3=>3 | 4=>4 | 72=>129 | 0=>0 | 76=>133 | 105=>264 | 21=>21 | 5=>5 | 70=>127 | 20=>20 | 37=>77 | 75=>132 | 127=>194 | 164=>256 | 46=>149 | 119=>280 | 139=>283 | 138=>282 | 146=>210 | 51=>209 | 80=>135 | n=>n,fun | 1=>0 | 3=>1 | 4=>2 | n=>n⟩
theorem Sh.lays155 : Go.Proofs.Lays.n155 Tryz.prog Sh.lays155_ren:={
 mixed:=by kernel_rfl
 f138:=Tryz.func191.trans (congrArg some (by kernel_rfl))
 f143:=Tryz.func71.trans (congrArg some (by kernel_rfl))
 f154:=Tryz.func159.trans (congrArg some (by kernel_rfl))
 f155:=Tryz.func89.trans (congrArg some (by kernel_rfl))
 f165:=Tryz.func68.trans (congrArg some (by kernel_rfl))
 f166:=Tryz.func69.trans (congrArg some (by kernel_rfl))
 f169:=Tryz.func70.trans (congrArg some (by kernel_rfl))
 f195:=Tryz.func201.trans (congrArg some (by kernel_rfl))
 f197:=Tryz.func192.trans (congrArg some (by kernel_rfl))
 f217:=Tryz.func182.trans (congrArg some (by kernel_rfl))
 f218:=Tryz.func202.trans (congrArg some (by kernel_rfl))
 f219:=Tryz.func125.trans (congrArg some (by kernel_rfl))
 f224:=Tryz.func184.trans (congrArg some (by kernel_rfl))
 f225:=Tryz.func183.trans (congrArg some (by kernel_rfl))
 f240:=Tryz.func123.trans (congrArg some (by kernel_rfl))
 f241:=Tryz.func124.trans (congrArg some (by kernel_rfl))
 f260:=Tryz.func203.trans (congrArg some (by kernel_rfl))
 f266:=Tryz.func199.trans (congrArg some (by kernel_rfl))
 f267:=Tryz.func185.trans (congrArg some (by kernel_rfl))
 f276:=Tryz.func180.trans (congrArg some (by kernel_rfl))
 f277:=Tryz.func181.trans (congrArg some (by kernel_rfl))
 f314:=Tryz.func200.trans (congrArg some (by kernel_rfl))
 t0:=Tryz.underlying0
 a0:=Tryz.isAgg0
 z0:=Tryz.sizeOf0
 v0:=Tryz.zeroValue0
 t3:=Tryz.underlying3
 a3:=Tryz.isAgg3
 z3:=Tryz.sizeOf3
 v3:=Tryz.zeroValue3
 t4:=Tryz.underlying4
 a4:=Tryz.isAgg4
 z4:=Tryz.sizeOf4
 v4:=Tryz.zeroValue4
 t5:=Tryz.underlying5
 a5:=Tryz.isAgg5
 z5:=Tryz.sizeOf5
 v5:=Tryz.zeroValue5
 t9:=Tryz.underlying9
 a9:=Tryz.isAgg9
 z9:=Tryz.sizeOf9
 v9:=Tryz.zeroValue9
 t20:=Tryz.underlying20
 a20:=Tryz.isAgg20
 z20:=Tryz.sizeOf20
 v20:=Tryz.zeroValue20
 t21:=Tryz.underlying21
 a21:=Tryz.isAgg21
 z21:=Tryz.sizeOf21
 v21:=Tryz.zeroValue21
 t37:=Tryz.underlying77
 a37:=Tryz.isAgg77
 z37:=Tryz.sizeOf77
 v37:=Tryz.zeroValue77
 t46:=Tryz.underlying149
 a46:=Tryz.isAgg149
 z46:=Tryz.sizeOf149
 v46:=Tryz.zeroValue149
 t51:=Tryz.underlying209
 a51:=Tryz.isAgg209
 z51:=Tryz.sizeOf209
 v51:=Tryz.zeroValue209
 t70:=Tryz.underlying127
 a70:=Tryz.isAgg127
 z70:=Tryz.sizeOf127
 v70:=Tryz.zeroValue127
 t72:=Tryz.underlying129
 a72:=Tryz.isAgg129
 z72:=Tryz.sizeOf129
 v72:=Tryz.zeroValue129
 t75:=Tryz.underlying132
 a75:=Tryz.isAgg132
 z75:=Tryz.sizeOf132
 v75:=Tryz.zeroValue132
 t76:=Tryz.underlying133
 a76:=Tryz.isAgg133
 z76:=Tryz.sizeOf133
 v76:=Tryz.zeroValue133
 t105:=Tryz.underlying264
 a105:=Tryz.isAgg264
 z105:=Tryz.sizeOf264
 v105:=Tryz.zeroValue264
 t119:=Tryz.underlying280
 a119:=Tryz.isAgg280
 z119:=Tryz.sizeOf280
 t127:=Tryz.underlying194
 a127:=Tryz.isAgg194
 z127:=Tryz.sizeOf194
 v127:=Tryz.zeroValue194
 t138:=Tryz.underlying282
 a138:=Tryz.isAgg282
 z138:=Tryz.sizeOf282
 v138:=Tryz.zeroValue282
 t139:=Tryz.underlying283
 a139:=Tryz.isAgg283
 z139:=Tryz.sizeOf283
 v139:=Tryz.zeroValue283
 t146:=Tryz.underlying210
 a146:=Tryz.isAgg210
 z146:=Tryz.sizeOf210
 v146:=Tryz.zeroValue210
 t164:=Tryz.underlying256
 a164:=Tryz.isAgg256
 z164:=Tryz.sizeOf256
 v164:=Tryz.zeroValue256
 g1:=by kernel_rfl
 g3:=by kernel_rfl
 g4:=by kernel_rfl }
theorem Sh.Builder_Extra_155 : Builder.Extra Tryz.prog Sh.lays155_ren:={
 sizeBuilder:=by kernel_rfl
 liesBuilder:=by kernel_rfl
 t5:=Tryz.underlying5
 a5:=Tryz.isAgg5
 z5:=Tryz.sizeOf5
 v5:=Tryz.zeroValue5
 infoByte:=by kernel_rfl
 cellsByte:=by kernel_rfl
 sizeByte:=by kernel_rfl
 neB5:=by decide }
open Go.RowKit in
def delB (s : ByteArray) : ByteArray:=⟨(Lib.replaceAll s.data.toList [32] []).toArray⟩
theorem replaceAll_any (s : ByteArray) (w : World) (hs : s.size <= 1000000) (hm : MaxL w) :
  Calls Tryz.prog 89 #[.string s,.string ⟨#[32]⟩,.string ⟨#[]⟩] w fun e w'=>e = .returned (.string (delB s)) /\ Below w.heap.size w w':=by
 obtain ⟨m,hm⟩:=hm
 exact Any.strings_ReplaceAll Sh.lays155 Sh.Builder_Extra_155 s ⟨#[32]⟩ ⟨#[]⟩ m w (by omega) hm (by decide) (by
  rw [show (⟨#[]⟩ : ByteArray).size = 0 from rfl]
  omega)
end
section
open Go Go.RowKit Go.Maps
def partIn (_ : Nat -> Prop) (_ : World) (_ : PPart) : Prop:=True
theorem partIn_inner : Inner partIn:=⟨fun h _ _=>h⟩
abbrev OwnParts:=OwnL 44 2 partCells partIn
theorem info44 : (Tryz.prog.info? 44).map (fun i=>(i.zero,i.size,i.bytes)) = some (some (.agg #[.int .u8 0,.string ⟨#[]⟩]),2,24):=by kernel_rfl
def ptsTo (fd : List ByteArray) : Nat -> List PPart
 | 0=>[]
 | k + 1=>ptsTo fd k ++ (if (fd.getD k ⟨#[]⟩).size = 0 then [] else [⟨(k : Int),fd.getD k ⟨#[]⟩⟩])
theorem ptsTo_len (fd : List ByteArray) : ∀ k,(ptsTo fd k).length <= k
 | 0=>lQ _
 | k + 1=>by
  have ih:=ptsTo_len fd k
  rw [ptsTo,List.length_append]
  split <;> simp <;> omega
theorem fd_get {fd : List ByteArray} (hl : fd.length = 11) {k : Nat} (hk : k < 11) : (fd.map Value.string).toArray[k]? = some (.string (fd.getD k ⟨#[]⟩)):=by
 rw [List.getElem?_toArray,List.getElem?_map,List.getElem?_eq_getElem (by omega),getD_at _ _ _ (by omega)]
 rfl
theorem index_texts : ∀ (fd : List ByteArray),fd.length = 11 -> ∀ (k : Nat),k < 11 -> ∀ W : World,Sem.run Tryz.prog (Instr.index 109 (.agg (fd.map Value.string).toArray) (.int .i64 (k : Int))) W = .ok (.string (fd.getD k ⟨#[]⟩)) W
 | [_,_,_,_,_,_,_,_,_,_,_],_,k,hk,W=>by
  rcases k with _ | _ | _ | _ | _ | _ | _ | _ | _ | _ | _ | k
  case succ.succ.succ.succ.succ.succ.succ.succ.succ.succ.succ=>omega
  all_goals kernel_rfl
theorem one2' {a b : Value} (ha : a.oneCell' = true) (hb : b.oneCell' = true) : ∀ u ∈ [a,b],u.oneCell' = true:=by
 intro u hu
 rcases List.mem_cons.1 hu with rfl | hu
 ·exact ha
 ·rw [mS.1 hu]; exact hb
theorem parts90 (fd : List ByteArray) (hl : fd.length = 11) (w : World) :
  Calls Tryz.prog 90 #[.agg (fd.map Value.string).toArray] w fun e w'=>∃ v,e = .returned v /\ OwnParts w.heap.size w' v (ptsTo fd 11) /\ Below w.heap.size w w':=by
 obtain ⟨W1,hW1⟩ : ∃ W1,W1 = w.alloc (.cells (fd.map Value.string).toArray 109):=⟨_,rfl⟩
 have hb1 : Hid (Below w.heap.size w W1):=Hd (by rw [hW1]; exact (Below.refl _ _).alloc (lQ _) _)
 have hf1 : IsTexts11 W1 w.heap.size fd:=⟨by rw [hW1]; exact Blk.new _ _ _,hl⟩
 obtain ⟨i0,hi0,hz0,hz1,hz2⟩:=info_parts info44
 go_enter Tryz.func90,Tryz.ntmps90
 go_upto_region 2 with fail
 rw [<- hW1]
 replace hW1:=Hd hW1
 have x:=hf1.1
 have hif : (Tryz.prog.info? 109).map (·.size) = some ((fd.map Value.string).toArray).size:=by rw [info109]; simp [hl]
 have hix:=Hd (index_texts fd hl)
 apply wp_region_lit
 refine wpList_load_row rfl 109 (.tmp 1) rfl w.heap.size rfl 109 (fd.map Value.string).toArray (0,0) _ x Tryz.underlying109 rfl hif ?_
 simp only [Act.put,sX,sZ,sS]
 clear x hf1
 generalize (fd.map Value.string).toArray = cs at *
 go_wp2_with fail
 go_loopw [3,7] (fun ov iv wr=>∃ (k : Nat) (o : List PPart),k <= 11 /\ iv = .int .i64 k /\ Below w.heap.size w wr /\ OwnParts w.heap.size wr ov o /\ Hid (o = ptsTo fd k))
  (fun _ iv _=>11 - (intOf iv).toNat)
 case atStart=>exact ⟨0,[],by omega,rfl,hb1.out,OwnL.nil_,Hd rfl⟩
 case round=>
  obtain ⟨k,o,hk,rfl,hbw,hown,ho⟩:=hrel
  rename World=>wr
  have n0 : (0 : Int) <= (k : Int):=by omega
  obtain ⟨A3,c3,rfl⟩:=hown.form_
  have hol : o.length <= 11:=by rw [ho.out]; exact Nat.le_trans (ptsTo_len fd k) hk
  have hown':=Hd hown
  clear hown
  by_cases hlt : k < 11
  ·have n1 : (k : Int) < 11:=by omega
   have hxx:=hix.out k hlt
   have hst : Hid (ptsTo fd (k + 1) = o ++ (if (fd.getD k ⟨#[]⟩).size = 0 then [] else [⟨(k : Int),fd.getD k ⟨#[]⟩⟩])):=Hd (by rw [ho.out]; rfl)
   generalize fd.getD k ⟨#[]⟩ = x at *
   have k8 : IntKind.u8.wrap (k : Int) = (k : Int):=by simp [IntKind.wrap,IntKind.bits,IntKind.signed]; omega
   go_upto_region 5 with fail
   by_cases hx : x.size = 0
   ·have yq : x.toList.isEmpty = true:=by rw [empty_tl]; exact decide_eq_true hx
    rw [if_pos hx,List.append_nil] at hst
    clear hx
    go_wp2_with fail
    go_roundw
    case rel=>exact ⟨k + 1,o,by omega,by go_num,hbw,hown'.out,Hd hst.out.symm⟩
    case measure=>simp [intOf]; omega
   ·have yq : x.toList.isEmpty = false:=by rw [empty_tl]; exact decide_eq_false hx
    rw [if_neg hx] at hst
    clear hx
    have hwB : Below wr.heap.size wr (wr.alloc (.cells #[.int .u8 (k : Int),.string x] 44)):=(Below.refl _ _).alloc (lQ _) _
    have hoA:=Hd (hown'.out.keep partIn_inner (Keeps.of_below hwB _))
    have hs0:=hbw.size
    have sd1 : o.length + 1 <= maxLen:=by unfold maxLen; omega
    have sd4 : (o.length + 1) * 24 <= 140737488355328:=by omega
    go_wp2_with (at_builtin; refine wpList_append_lies _ rfl (.tmp 13) (.tmp 18) 40 rfl w.heap.size 44 i0 (.agg #[.int .u8 0,.string ⟨#[]⟩]) 2 24 Tryz.underlying40 hi0 hz0 hz1 hz2 rfl (by decide) (.slice A3 o.length c3) o.length (o.flatMap partCells) rfl (by exact hoA.out.1) ⟨wr.heap.size,0,none⟩ 1 1 [.int .u8 (k : Int),.string x] rfl rfl (by exact World.news_of_block (cs:=#[.int .u8 (k : Int),.string x]) (heap_alloc_new _ _)) (one2' rfl rfl) Nat.one_pos sd1 sd4 (by simp; omega) (wr.heap.size + 1) (by simp) ?_; intro g9 cap9 w9 hown9 hgr9 hat9 hlt9)
    have hR:=slot_append partIn_inner (a:=(⟨(k : Int),x⟩ : PPart)) hbw hown'.out hwB (lQ _) hbw.size trivial hown9 rfl hgr9 (hat9.imp_right (fun e=>by simp [e]))
    clear hown9 hgr9 hat9 hlt9
    go_roundw
    case rel=>exact ⟨k + 1,_,by omega,by go_num,hR.1,by simpa using hR.2,Hd hst.out.symm⟩
    case measure=>simp [intOf]; omega
  ·obtain rfl : k = 11:=by omega
   have hfin : Hid (OwnParts w.heap.size wr (.slice A3 o.length c3) (ptsTo fd 11)):=Hd (by rw [<- ho.out]; exact hown'.out)
   go_wp2_with fail
   go_ret
   exact ⟨_,rfl,hfin.out,hbw⟩
end
end Go.Proofs.YteclineblddpbaaGreatDoorR
