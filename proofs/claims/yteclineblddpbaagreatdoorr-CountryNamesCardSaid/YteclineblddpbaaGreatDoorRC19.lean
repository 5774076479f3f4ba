import Derived.Test.YteclineblddpbaaGreatDoorRC01
import Derived.Test.YteclineblddpbaaGreatDoorRC05
import Derived.Test.YteclineblddpbaaGreatDoorRC14
import Derived.Deep.DeepCutAuto
set_option linter.all false
set_option maxRecDepth 100000
set_option maxHeartbeats 0
namespace Go.Proofs.YteclineblddpbaaGreatDoorR
section
open Go.RowKit Go.Maps
def RestC (d : ChartD) (rk : Nat -> Nat) (D : Nat) : Prop:=∀ (its : List PItem) (n a b : Nat) (O : Nat -> Prop) (W : World),Chain d.E its n -> (∃ r,r < d.g.length /\ its <:+ ruleOf d.g r) -> (∀ i ∈ its,i.cls = 0 -> rk i.sym < D) ->
 a <= b -> b <= d.tk.length -> ChartInv d O W -> (∀ b,O b -> b < W.heap.size) ->
 Calls Tryz.prog 177 #[.pointer (some ⟨d.C,0,none⟩),.int .i64 n,.int .i64 a,.int .i64 b] W fun e W'=>∃ v,e = .returned v /\ LimO O W' v (restN d.sy d.tk its a b) /\ ChartInv d O W' /\ KeepM (MM d) W W'
def SymC (d : ChartD) (rk : Nat -> Nat) (D : Nat) : Prop:=∀ (s a b : Nat) (O : Nat -> Prop) (W : World),s < 64 -> rk s < D ->
 a <= b -> b <= d.tk.length -> ChartInv d O W -> (∀ b,O b -> b < W.heap.size) ->
 Calls Tryz.prog 194 #[.pointer (some ⟨d.C,0,none⟩),.int .i64 s,.int .i64 a,.int .i64 b] W fun e W'=>∃ v,e = .returned v /\ LimO O W' v (d.sy s a b) /\ ChartInv d O W' /\ KeepM (MM d) W W'
theorem zero222 (w : World) : (zeroValue 222).run Tryz.prog w = .ok (.slice none 0 0) w:=by kernel_rfl
theorem fit_nat {n : Nat} (h : n <= 1000000) : Fit64 (n : Int):=by unfold Fit64; omega
theorem keyAt (n a b : Nat) (hn : n <= 1000000) (ha : a <= 1000000) (hb : b <= 1000000) : ∃ kl,keyOf Tryz.prog 268 (encSpan ⟨n,a,b⟩) = some kl:=keyOf_span _ (fit_nat hn) (fit_nat ha) (fit_nat hb)
theorem MapS.ask {w : World} {m n : Nat} {M : List (PSpan × Value)} (h : MapS w m n M) (s a b : Nat) (hn : s <= 1000000) (ha : a <= 1000000) (hb : b <= 1000000) :
  (Instr.lookup 245 (.map (some m)) (.agg #[.int .i64 s,.int .i64 a,.int .i64 b]) true).run Tryz.prog w = .ok (.tuple #[orV (fun v : Value=>v) (.slice none 0 0) (getA (⟨s,a,b⟩ : PSpan) M),.bool (getA (⟨s,a,b⟩ : PSpan) M).isSome]) w:=by
 obtain ⟨kl,hk⟩:=keyAt s a b hn ha hb
 exact h.look_ok keyed268 Tryz.underlying245 (zero222 w) (⟨s,a,b⟩ : PSpan) hk
theorem MapS.write {w : World} {m : Nat} {M : List (PSpan × Value)} (h : MapS w m (dom M).length M) (s a b : Nat) (v : Value) (hn : s <= 1000000) (ha : a <= 1000000) (hb : b <= 1000000) (hlt : (dom M).length <= 10000000) :
  ∃ w',(Instr.mapUpdate 245 (.map (some m)) (.agg #[.int .i64 s,.int .i64 a,.int .i64 b]) v).run Tryz.prog w = .ok () w' /\ MapS w' m (dom (((⟨s,a,b⟩ : PSpan),v) :: M)).length (((⟨s,a,b⟩ : PSpan),v) :: M) /\ w.grownBy w' (some m):=by
 obtain ⟨kl,hk⟩:=keyAt s a b hn ha hb
 have hlt' : (dom M).length < maxLen:=by unfold maxLen; omega
 rw [dom]
 split
 ·rename_i h'
  exact h.put_again keyed268 Tryz.underlying245 hlt' encSpan_inj (⟨s,a,b⟩ : PSpan) v hk h'
 ·exact h.put keyed268 Tryz.underlying245 hlt' encSpan_inj (⟨s,a,b⟩ : PSpan) v hk
theorem symTo_len (g : List PRule) (s : Nat) : ∀ n,(symTo g s n).length <= n
 | 0=>lQ _
 | n + 1=>by
  have:=symTo_len g s n
  rw [symTo]
  split
  ·rw [List.length_append]; simp; omega
  ·omega
theorem sumN_append : ∀ (a b : List Nat),sumN (a ++ b) = sumN a + sumN b
 | [],b=>by simp [sumN]
 | x :: a,b=>by rw [List.cons_append,sumN,sumN,sumN_append a b]; omega
theorem sumN_take (l : List Nat) (k : Nat) : sumN (l.take k) <= sumN l:=by
 have h:=sumN_append (l.take k) (l.drop k)
 rw [List.take_append_drop] at h
 omega
theorem sumN_take_succ (l : List Nat) (k : Nat) (h : k < l.length) : sumN (l.take (k + 1)) = sumN (l.take k) + l.getD k 0:=by
 rw [List.take_succ_eq_append_getElem h,sumN_append,getD_at l 0 k h]
 simp [sumN]
theorem symbol_step {d : ChartD} {rk : Nat -> Nat} (ok : ChartOK d rk) {D : Nat} (hrest : RestC d rk D) : SymC d rk (D + 1):=by
 intro s a b O W hs hrk hab hb hinv hO
 obtain ⟨hat,MS,MR,hm⟩:=hinv
 have htl:=ok.tlen
 obtain ⟨W1,hW1⟩ : ∃ W1,W1 = W.alloc (.cells #[.int .i64 (s : Int),.int .i64 (a : Int),.int .i64 (b : Int)] 268):=⟨_,rfl⟩
 have hB1 : Hid (Below W.heap.size W W1):=Hd (by rw [hW1]; exact (Below.refl _ _).alloc (lQ _) _)
 have kK : Hid (Blk W1 W.heap.size 268 #[.int .i64 (s : Int),.int .i64 (a : Int),.int .i64 (b : Int)]):=Hd (by rw [hW1]; exact Blk.new _ _ _)
 have hinv' : Hid (ChartInv d O W):=Hd ⟨hat,MS,MR,hm⟩
 have csym:=fun (u : Ups W1)=>((hB1.out.trans (u.up.mono hB1.out.size)).cell (p:=⟨d.C,67,none⟩) (cell_lt hat.csym)).trans hat.csym
 have hask:=fun (u : Ups W1)=>MapS.ask (hm.hS.same ((hB1.out.trans (u.up.mono hB1.out.size)).block _ hm.hS.lt)) s a b (by omega) (by omega) (by omega)
 have kU:=fun (u : Ups W1)=>kK.out.below u.up kK.out.lt
 have y0:=fun (u : Ups W1)=>(kU u).cell 0
 have y1:=fun (u : Ups W1)=>(kU u).cell 1
 have y2:=fun (u : Ups W1)=>(kU u).cell 2
 simp at y0 y1 y2
 go_enter Tryz.func194,Tryz.ntmps194
 go_upto_region 2 with fail
 rw [<- hW1]
 clear hW1
 refine wp_region_ups rfl (by kernel_rfl) ?_
 repeat (go_big_quiet_step (fail))
 refine wpQuiet_nil ?_
 rintro w' ⟨u,rfl⟩
 have hB2:=Hd (hB1.out.trans (u.up.mono hB1.out.size))
 have kK2:=Hd (kU u)
 have hm2:=Hd (hm.keep (CKp.of_below hB2.out O) (fun b h=>.inl h) (hB2.out.block _ hm.hS.lt) (hB2.out.block _ hm.hR.lt))
 have hat2:=Hd (hat.keep (CKp.of_below hB2.out O) (fun b h=>.inl h))
 clear csym hask kU y0 y1 y2 hB1 kK hinv' hm hat
 generalize u.wld = W2 at *
 clear u
 have hO2 : Hid (∀ b,O b -> b < W2.heap.size):=Hd fun b h=>Nat.lt_of_lt_of_le (hO b h) hB2.out.size
 have hinv2 : Hid (ChartInv d O W2):=Hd ⟨hat2.out,MS,MR,hm2.out⟩
 rcases hq : getA (⟨(s : Nat),(a : Nat),(b : Nat)⟩ : PSpan) MS with _ | v
 ·have hq:=Hd hq
  obtain ⟨rv,hrc,hrn⟩:=hat2.out.crul s hs
  have hrn:=Hd hrn
  have hmem:=Hd (fun r=>symTo_mem (g:=d.g) (s:=s) (r:=r) (n:=d.g.length))
  have hLen : Hid ((symRules d.g s).length <= 200):=Hd (Nat.le_trans (symTo_len _ _ _) ok.glen)
  obtain ⟨L,hL⟩ : ∃ L,L = symRules d.g s:=⟨_,rfl⟩
  have hstep : Hid (d.sy s a b = sumN (L.map fun r=>restN d.sy d.tk (ruleOf d.g r) a b)):=Hd (by rw [hL]; exact ok.step s a b)
  have hLm : Hid (∀ r ∈ L,r < d.g.length /\ (d.g.getD r PRule.zero).left = s):=Hd (by rw [hL]; exact fun r h=>symTo_mem h)
  rw [<- hL] at hrn hLen
  clear hL hmem
  obtain ⟨A,c,rfl,hn,hcm,hA⟩:=hrn.out
  have hA:=Hd hA
  unfold maxLen at hcm
  clear hrn
  have hLl : Hid (∀ k,k < L.length -> L.getD k 0 < d.g.length /\ (d.g.getD (L.getD k 0) PRule.zero).left = s):=Hd fun k hk=>hLm.out _ (by rw [getD_at L 0 k hk]; exact List.getElem_mem hk)
  clear hLm
  obtain ⟨F,hF⟩ : ∃ F : List Nat,F = L.map fun r=>restN d.sy d.tk (ruleOf d.g r) a b:=⟨_,rfl⟩
  rw [<- hF] at hstep
  have hFl : Hid (F.length = L.length):=Hd (by rw [hF,List.length_map])
  have hFg : Hid (∀ k,k < L.length -> F.getD k 0 = restN d.sy d.tk (ruleOf d.g (L.getD k 0)) a b):=Hd fun k hk=>by
   rw [hF,getD_at _ 0 k (by rw [List.length_map]; exact hk),List.getElem_map,getD_at L 0 k hk]
  clear hF
  have hsm:=Hd (ok.small s a b hs hab hb)
  rw [hstep.out] at hsm
  have hll : Hid (L.length <= 200):=Hd hLen.out
  go_wp2
  go_loopw [10,36] (fun cv iv wr=>∃ k : Nat,k <= L.length /\ iv = .int .i64 k /\ Hid (LimO O wr cv (sumN (F.take k))) /\ Hid (ChartInv d O wr) /\ Hid (KeepM (MM d) W2 wr)) (fun _ iv _=>L.length - (intOf iv).toNat)
  case atStart=>exact ⟨0,by omega,rfl,Hd (.inl ⟨rfl,_,_,rfl,by unfold maxLen; omega⟩),hinv2,Hd (KeepM.refl _ _)⟩
  case round=>
   obtain ⟨k,hk,rfl,hcv,hiv,hkm⟩:=hrel
   rename World=>wr
   have n0 : (0 : Int) <= (k : Int):=by omega
   by_cases hlt : k < L.length
   ·have n1 : (k : Int) < (L.length : Int):=by omega
    have hlL:=hLl.out k hlt
    have hFk:=Hd (hFg.out k hlt)
    have hts:=Hd (sumN_take_succ F k (by rw [hFl.out]; exact hlt))
    have htl2:=Hd (sumN_take F (k + 1))
    have hck:=Hd (CKp.of_keepM hkm.out hinv2.out.noCells O)
    obtain ⟨bl,off,rfl,hbl,hpl,hil⟩:=hA.out (by omega)
    have x0:=hck.out.cell _ _ _ hpl (hil k hlt)
    obtain ⟨bv,hbc,hbn⟩:=hiv.out.1.cbeg
    obtain ⟨A2,c2,rfl,hn2,hcm2,hA2⟩:=hbn
    generalize L.getD k 0 = r at *
    have hrg:=hlL.1
    have hrgb : r < d.bg.length:=by rw [ok.blen]; exact hrg
    obtain ⟨b2,off2,rfl,hb2,hp2,hi2⟩:=hA2 (by omega)
    obtain ⟨nb,hnb⟩ : ∃ nb,nb = d.bg.getD r 0:=⟨_,rfl⟩
    have x1 : wr.cell? ⟨b2,off2 + r,none⟩ = some (.int .i64 (nb : Int)):=by rw [hnb]; exact hi2 r hrgb
    have n2 : (0 : Int) <= (r : Int):=by omega
    have n3 : (r : Int) < (d.bg.length : Int):=by omega
    have hOr : Hid (∀ b,O b -> b < wr.heap.size):=Hd fun b h=>Nat.lt_of_lt_of_le (hO2.out b h) hkm.out.1
    have hcall:=Hd (hrest (ruleOf d.g r) nb a b O wr (by rw [hnb]; exact ok.chain r hrg) ⟨r,hrg,List.suffix_rfl⟩ (fun i hi hc=>by
     have:=ok.ranked r hrg i hi hc
     rw [hlL.2] at this
     omega) hab hb hiv.out hOr.out)
    have hlL':=Hd hlL
    clear hil hi2 hA2 hlL
    clear hnb
    go_wp2_with fail
    refine hcall.out.mono ?_
    rintro e w3 ⟨v3,rfl,hv3,hiv3,hkm3⟩
    clear hcall
    have hv3:=Hd hv3
    have hiv3:=Hd hiv3
    have hcv3:=Hd (hcv.out.keep (CKp.of_keepM hkm3 hiv.out.noCells O) (fun b h=>.inl h))
    have hkm3:=Hd (hkm.out.trans hkm3)
    rw [<- hFk.out] at hv3
    have hadd:=Hd (natAdd_any _ _ _ _ w3 hcv3.out.lim hv3.out.lim (by have:=hts.out; have:=htl2.out; have:=hsm.out; omega))
    rw [<- hts.out] at hadd
    have hO3 : Hid (∀ b,O b -> b < w3.heap.size):=Hd fun b h=>Nat.lt_of_lt_of_le (hO2.out b h) hkm3.out.1
    clear hcv hiv hkm hcv3 hv3 x0 x1
    go_wp2_with fail
    refine hadd.out.mono ?_
    rintro e w4 ⟨v4,rfl,hv4,hb4,hn4⟩
    clear hadd
    have hv4:=Hd (LimO.of_new hv4 hO3.out hn4)
    have hiv4:=Hd (hiv3.out.below hb4)
    have hkm4:=Hd (hkm3.out.trans (KeepM.of_below hb4))
    clear hb4 hn4
    go_wp2
    go_roundw
    case rel=>exact ⟨k + 1,by omega,by go_num,hv4,hiv4,hkm4⟩
    case measure=>simp [intOf]; omega
   ·obtain rfl : k = L.length:=by omega
    rw [show F.take L.length = F from by rw [<- hFl.out]; exact List.take_length,<- hstep.out] at hcv
    have hck:=Hd (CKp.of_keepM hkm.out hinv2.out.noCells O)
    obtain ⟨hatr,MS',MR',hmr⟩:=hiv.out
    have kK3 : Hid (Blk wr W.heap.size 268 _):=Hd ((hkm.out.2 _ kK2.out.lt (fun h=>hinv2.out.noCells _ h 0 _ (kK2.out.cell 0))).trans kK2.out)
    have csym:=fun (u : Ups wr)=>(u.up.cell (p:=⟨d.C,67,none⟩) (cell_lt hatr.csym)).trans hatr.csym
    have y0:=fun (u : Ups wr)=>(kK3.out.below u.up kK3.out.lt).cell 0
    have y1:=fun (u : Ups wr)=>(kK3.out.below u.up kK3.out.lt).cell 1
    have y2:=fun (u : Ups wr)=>(kK3.out.below u.up kK3.out.lt).cell 2
    simp at y0 y1 y2
    go_upto_region 10 with fail
    refine wp_region_upst 6 rfl (by kernel_rfl) ?_
    simp only [tS,tZ,dS,dZ]
    repeat (go_big_quiet_step (fail))
    refine wpQuiet_nil ?_
    rintro w' ⟨u,rfl⟩
    clear csym y0 y1 y2
    have hu:=u.up
    generalize u.wld = w5 at *
    clear u
    have hm5:=hmr.keep (CKp.of_below hu O) (fun b h=>.inl h) (hu.block _ hmr.hS.lt) (hu.block _ hmr.hR.lt)
    have hat5:=hatr.keep (CKp.of_below hu O) (fun b h=>.inl h)
    have hcv5:=Hd (hcv.out.keep (CKp.of_below hu O) (fun b h=>.inl h))
    have hkm5:=Hd (hkm.out.trans (KeepM.of_below hu))
    obtain ⟨w6,hrun,hmap,hgr⟩:=MapS.write hm5.hS s a b u10 (by omega) (by omega) (by omega) (by have:=hm5.kS.len; omega)
    have hkm6 : Hid (KeepM (MM d) w5 w6):=Hd (KeepM.of_grown hgr (.inl rfl))
    have hck6:=CKp.of_keepM hkm6.out (fun b hb=>by
     rcases hb with rfl | rfl
     ·exact hm5.hS.noCell
     ·exact hm5.hR.noCell) O
    have hcv6:=Hd (hcv5.out.keep hck6 (fun b h=>.inl h))
    have hinv6 : Hid (ChartInv d O w6):=Hd ⟨hat5.keep hck6 (fun b h=>.inl h),_,MR',{
     hS:=hmap
     hR:=hm5.hR.kept hgr (fun e=>ok.ne (by injection e with e; exact e.symm))
     kS:=hm5.kS.cons hs hab (by omega) u10
     kR:=hm5.kR
     vS:=fun s' a' b' v' hv'=>by
      rw [getA] at hv'
      split at hv'
      ·rename_i he
       simp only [PSpan.mk.injEq] at he
       obtain ⟨e1,e2,e3⟩:=he
       cases hv'
       obtain rfl : s = s':=by omega
       obtain rfl : a = a':=by omega
       obtain rfl : b = b':=by omega
       exact hcv6.out
      ·exact (hm5.vS s' a' b' v' hv').keep hck6 (fun b h=>.inl h)
     vR:=fun n' a' b' v' hv' its hc=>(hm5.vR n' a' b' v' hv' its hc).keep hck6 (fun b h=>.inl h) }⟩
    clear hmap hgr hck6
    go_wp2
    go_ret
    exact ⟨_,rfl,hcv6.out,hinv6.out,(KeepM.of_below hB2.out).trans (hkm5.out.trans hkm6.out)⟩
 ·have hv:=Hd (hm2.out.vS s a b v hq)
  go_wp2
  go_ret
  exact ⟨_,rfl,hv.out,hinv2.out,KeepM.of_below hB2.out⟩
end
section
open Go.RowKit Go.Maps
theorem wrap_small {x : Int} (h : -1000000 <= x) (h2 : x <= 1000000) : IntKind.i64.wrap x = x:=by simp [IntKind.wrap,IntKind.bits,IntKind.signed]; omega
theorem lim_cases {O : Nat -> Prop} {w : World} {v : Value} {n : Nat} (h : LimO O w v n) : (n = 0 /\ ∃ A c,v = .slice A 0 c) \/ (n ≠ 0 /\ ∃ b off c,v = .slice (some ⟨b,off,none⟩) 1 c):=by
 rcases h with ⟨h0,A,c,e,_⟩ | ⟨h0,_,b,off,c,e,_⟩
 ·exact .inl ⟨h0,A,c,e⟩
 ·exact .inr ⟨h0,b,off,c,e⟩
theorem getD_map_range (f : Nat -> Nat) (n k : Nat) (h : k < n) : ((List.range n).map f).getD k 0 = f k:=by
 rw [getD_at _ 0 k (by simpa using h),List.getElem_map,List.getElem_range]
theorem restN_none {sy : Nat -> Nat -> Nat -> Nat} {tk : List Nat} {i : PItem} {t : List PItem} {a b : Nat} (h : b - a < t.length + 1) : restN sy tk (i :: t) a b = 0:=by rw [restN,if_pos h]
theorem restN_cls {sy : Nat -> Nat -> Nat -> Nat} {tk : List Nat} {i : PItem} {t : List PItem} {a b : Nat} (h : ¬ b - a < t.length + 1) (hc : i.cls ≠ 0) (ha : ¬ tk.getD a 0 &&& i.cls = 0) : restN sy tk (i :: t) a b = restN sy tk t (a + 1) b:=by rw [restN,if_neg h,if_pos hc,if_neg ha]
theorem restN_cls0 {sy : Nat -> Nat -> Nat -> Nat} {tk : List Nat} {i : PItem} {t : List PItem} {a b : Nat} (h : ¬ b - a < t.length + 1) (hc : i.cls ≠ 0) (ha : tk.getD a 0 &&& i.cls = 0) : restN sy tk (i :: t) a b = 0:=by rw [restN,if_neg h,if_pos hc,if_pos ha]
theorem restN_one {sy : Nat -> Nat -> Nat -> Nat} {tk : List Nat} {i : PItem} {a b : Nat} (h : ¬ b - a < 1) (hc : i.cls = 0) : restN sy tk [i] a b = sy i.sym a b:=by rw [restN,if_neg (by simpa using h),if_neg (by simpa using hc),if_pos rfl]
theorem restN_sum {sy : Nat -> Nat -> Nat -> Nat} {tk : List Nat} {i : PItem} {t : List PItem} {a b : Nat} (h : ¬ b - a < t.length + 1) (hc : i.cls = 0) (ht : t ≠ []) :
  restN sy tk (i :: t) a b = sumN ((List.range (b - a - t.length)).map fun k=>restN sy tk t (a + 1 + k) b * sy i.sym a (a + 1 + k)):=by rw [restN,if_neg h,if_neg (by simpa using hc),if_neg ht]
theorem rest_nil {d : ChartD} {rk : Nat -> Nat} (ok : ChartOK d rk) (n a b : Nat) (O : Nat -> Prop) (W : World) (hch : Chain d.E [] n) (hsuf : True) (hrk : True) (hab : a <= b) (hb : b <= d.tk.length) (hinv : ChartInv d O W) (hO : ∀ b,O b -> b < W.heap.size) :
  Calls Tryz.prog 177 #[.pointer (some ⟨d.C,0,none⟩),.int .i64 n,.int .i64 a,.int .i64 b] W fun e W'=>∃ v,e = .returned v /\ LimO O W' v (restN d.sy d.tk [] a b) /\ ChartInv d O W' /\ KeepM (MM d) W W':=by
 have htl:=ok.tlen
 have hel:=ok.elen
 have hnl:=hch.lt
 have hit:=hch.items
 obtain ⟨ev,hec,hen⟩:=hinv.1.cend
 obtain ⟨A,c,rfl,hn,hcm,hA⟩:=hen
 unfold maxLen at hcm
 obtain ⟨bl,off,rfl,hbl,hpl,hil⟩:=hA (by omega)
 have he : EndAt W bl (off + n * 4) (d.E.getD n PEnd.zero):=hil n hnl
 clear hA hil
 generalize d.E.getD n PEnd.zero = e at *
 obtain ⟨⟨cls,sym⟩,nx,it⟩:=e
 obtain ⟨c0,c1,c2,c3⟩:=he
 simp only [List.length_nil] at hit c0 c1 c2 c3
 replace c3 : W.cell? ⟨bl,off + n * 4 + 3,none⟩ = some (.int .i64 0):=by rw [c3,hit]; rfl
 have hlt0 : ¬ (b : Int) - (a : Int) < 0:=by omega
 obtain ⟨W1,hW1⟩ : ∃ W1,W1 = W.alloc (.cells #[.int .u16 (cls : Int),.int .i64 (sym : Int),.int .i64 (nx : Int),.int .i64 (0)] 243):=⟨_,rfl⟩
 have hB1 : Hid (Below W.heap.size W W1):=Hd (by rw [hW1]; exact (Below.refl _ _).alloc (lQ _) _)
 have kK : Hid (Blk W1 W.heap.size 243 #[.int .u16 (cls : Int),.int .i64 (sym : Int),.int .i64 (nx : Int),.int .i64 (0)]):=Hd (by rw [hW1]; exact Blk.new _ _ _)
 have n0 : (0 : Int) <= (n : Int):=by omega
 have n1 : (n : Int) < (d.E.length : Int):=by omega
 have hinv1:=Hd (hinv.below (w':=W1) hB1.out)
 have hO1 : Hid (∀ b,O b -> b < W1.heap.size):=Hd fun b h=>Nat.lt_of_lt_of_le (hO b h) hB1.out.size
 have hsub : IntKind.i64.wrap ((b : Int) - (a : Int)) = (b : Int) - (a : Int):=wrap_small (by omega) (by omega)
 replace hch:=Hd hch
 replace hsuf:=Hd hsuf
 replace hrk:=Hd hrk
 replace hO:=Hd hO
 replace hinv:=Hd hinv
 have hhd:=Hd hel
 try clear hit
 go_enter Tryz.func177,Tryz.ntmps177
 go_upto_region 2 with fail
 rw [<- hW1]
 clear hW1 c0 c1 c2 c3 n0 n1 hec hbl
 have z0:=kK.out.cell 0
 have z1:=kK.out.cell 1
 have z2:=kK.out.cell 2
 have z3:=kK.out.cell 3
 simp at z0 z1 z2 z3
 generalize W.heap.size = K at z0 z1 z2 z3 kK ⊢
 rcases Nat.lt_or_ge a b with h | h
 ·have q1 : (a : Int) < (b : Int):=by omega
  go_wp2
  go_ret
  exact ⟨_,rfl,.inl ⟨by rw [restN,if_pos h],_,_,rfl,by unfold maxLen; omega⟩,hinv1.out,KeepM.of_below hB1.out⟩
 ·have q1 : ¬ (a : Int) < (b : Int):=by omega
  have hc:=Hd (natOf_any 1 W1 (by omega))
  go_wp2_with fail
  refine hc.out.mono ?_
  rintro e w3 ⟨v3,rfl,hv3,hb3,hn3⟩
  clear hc
  have hv3:=Hd (LimO.of_new hv3 hO1.out hn3)
  replace hb3:=Hd hb3
  go_wp2
  go_ret
  exact ⟨_,rfl,by rw [restN,if_neg (by omega)]; exact hv3.out,hinv1.out.below hb3.out,(KeepM.of_below hB1.out).trans (KeepM.of_below hb3.out)⟩
theorem rest_cons {d : ChartD} {rk : Nat -> Nat} (ok : ChartOK d rk) {D : Nat} (hsym : SymC d rk D) (i : PItem) (t : List PItem)
  (ih : ∀ (n a b : Nat) (O : Nat -> Prop) (W : World),Chain d.E t n -> a <= b -> b <= d.tk.length -> ChartInv d O W -> (∀ b,O b -> b < W.heap.size) ->
   Calls Tryz.prog 177 #[.pointer (some ⟨d.C,0,none⟩),.int .i64 n,.int .i64 a,.int .i64 b] W fun e W'=>∃ v,e = .returned v /\ LimO O W' v (restN d.sy d.tk t a b) /\ ChartInv d O W' /\ KeepM (MM d) W W')
  (n a b : Nat) (O : Nat -> Prop) (W : World) (hch : Chain d.E (i :: t) n) (hsuf : ∃ r,r < d.g.length /\ (i :: t) <:+ ruleOf d.g r) (hrk : i.cls = 0 -> rk i.sym < D) (hab : a <= b) (hb : b <= d.tk.length) (hinv : ChartInv d O W) (hO : ∀ b,O b -> b < W.heap.size) :
  Calls Tryz.prog 177 #[.pointer (some ⟨d.C,0,none⟩),.int .i64 n,.int .i64 a,.int .i64 b] W fun e W'=>∃ v,e = .returned v /\ LimO O W' v (restN d.sy d.tk (i :: t) a b) /\ ChartInv d O W' /\ KeepM (MM d) W W':=by
 have htl:=ok.tlen
 have hel:=ok.elen
 have hnl:=hch.lt
 have hit:=hch.items
 obtain ⟨ev,hec,hen⟩:=hinv.1.cend
 obtain ⟨A,c,rfl,hn,hcm,hA⟩:=hen
 unfold maxLen at hcm
 obtain ⟨bl,off,rfl,hbl,hpl,hil⟩:=hA (by omega)
 have he : EndAt W bl (off + n * 4) (d.E.getD n PEnd.zero):=hil n hnl
 clear hA hil
 have hei:=hch.2.1
 have hnx:=hch.2.2.2
 have hst : i.cls < 65536 /\ i.sym < 64:=by
  obtain ⟨r,hr,hs⟩:=hsuf
  exact ok.ecls r hr i (hs.subset (List.mem_cons_self ..))
 have htk:=Hd (ok.tcls a)
 generalize d.E.getD n PEnd.zero = e at *
 obtain ⟨⟨cls,sym⟩,nx,it⟩:=e
 obtain ⟨c0,c1,c2,c3⟩:=he
 simp only [List.length_cons] at hit c0 c1 c2 c3 hei hnx
 subst hei
 simp only at hst hrk
 subst hit
 generalize hI : t.length + 1 = I at *
 have hInat:=Hd hI
 obtain ⟨W1,hW1⟩ : ∃ W1,W1 = W.alloc (.cells #[.int .u16 (cls : Int),.int .i64 (sym : Int),.int .i64 (nx : Int),.int .i64 ((I : Int))] 243):=⟨_,rfl⟩
 have hB1 : Hid (Below W.heap.size W W1):=Hd (by rw [hW1]; exact (Below.refl _ _).alloc (lQ _) _)
 have kK : Hid (Blk W1 W.heap.size 243 #[.int .u16 (cls : Int),.int .i64 (sym : Int),.int .i64 (nx : Int),.int .i64 ((I : Int))]):=Hd (by rw [hW1]; exact Blk.new _ _ _)
 have n0 : (0 : Int) <= (n : Int):=by omega
 have n1 : (n : Int) < (d.E.length : Int):=by omega
 have hinv1:=Hd (hinv.below (w':=W1) hB1.out)
 have hO1 : Hid (∀ b,O b -> b < W1.heap.size):=Hd fun b h=>Nat.lt_of_lt_of_le (hO b h) hB1.out.size
 have hsub : IntKind.i64.wrap ((b : Int) - (a : Int)) = (b : Int) - (a : Int):=wrap_small (by omega) (by omega)
 replace hch:=Hd hch
 replace hsuf:=Hd hsuf
 replace hrk:=Hd hrk
 replace hO:=Hd hO
 replace hinv:=Hd hinv
 have hhd:=Hd hel
 try clear hit
 go_enter Tryz.func177,Tryz.ntmps177
 go_upto_region 2 with fail
 rw [<- hW1]
 clear hW1 c0 c1 c2 c3 n0 n1 hec hbl
 have z0:=kK.out.cell 0
 have z1:=kK.out.cell 1
 have z2:=kK.out.cell 2
 have z3:=kK.out.cell 3
 simp at z0 z1 z2 z3
 generalize W.heap.size = K at z0 z1 z2 z3 kK ⊢
 by_cases h0 : b - a < I
 ·have q0 : (b : Int) - (a : Int) < (I : Int):=by omega
  go_wp2
  go_ret
  exact ⟨_,rfl,.inl ⟨restN_none (by rw [hInat.out]; exact h0),_,_,rfl,by unfold maxLen; omega⟩,hinv1.out,KeepM.of_below hB1.out⟩
 ·have q0 : ¬ (b : Int) - (a : Int) < (I : Int):=by omega
  have q1 : ((I : Int) == 0) = false:=by have:=hInat.out; simp; omega
  by_cases hc : cls = 0
  ·have q2 : ((cls : Int) != 0) = false:=by rw [hc]; rfl
   replace hc:=Hd hc
   by_cases h1 : I = 1
   ·have q3 : ((I : Int) == 1) = true:=by rw [h1]; rfl
    replace h1:=Hd h1
    have hcall:=Hd (hsym sym a b O W1 hst.2 (hrk.out hc.out) hab hb hinv1.out hO1.out)
    go_wp2_with fail
    refine hcall.out.mono ?_
    rintro e w3 ⟨v3,rfl,hv3,hiv3,hkm3⟩
    clear hcall
    replace hv3:=Hd hv3
    replace hiv3:=Hd hiv3
    replace hkm3:=Hd hkm3
    go_wp2
    go_ret
    refine ⟨_,rfl,?_,hiv3.out,(KeepM.of_below hB1.out).trans hkm3.out⟩
    obtain rfl : t = []:=List.length_eq_zero_iff.1 (by have:=h1.out; have:=hInat.out; omega)
    rw [restN_one (by have:=h1.out; omega) hc.out]
    exact hv3.out
   ·have q3 : ((I : Int) == 1) = false:=by simp; omega
    have htne : t ≠ []:=fun e=>h1 (by rw [<- hInat.out,e]; rfl)
    replace h1:=Hd h1
    obtain ⟨at1,MS,MR,hm1⟩:=hinv1.out
    have hnK : n < 2000:=by omega
    obtain ⟨W2,hW2⟩ : ∃ W2,W2 = W1.alloc (.cells #[.int .i64 (n : Int),.int .i64 (a : Int),.int .i64 (b : Int)] 268):=⟨_,rfl⟩
    have hB2 : Hid (Below W1.heap.size W1 W2):=Hd (by rw [hW2]; exact (Below.refl _ _).alloc (lQ _) _)
    have kL : Hid (Blk W2 W1.heap.size 268 #[.int .i64 (n : Int),.int .i64 (a : Int),.int .i64 (b : Int)]):=Hd (by rw [hW2]; exact Blk.new _ _ _)
    have cres:=fun (u : Ups W2)=>((hB2.out.trans (u.up.mono hB2.out.size)).cell (p:=⟨d.C,68,none⟩) (cell_lt at1.cres)).trans at1.cres
    have hask:=fun (u : Ups W2)=>MapS.ask (hm1.hR.same ((hB2.out.trans (u.up.mono hB2.out.size)).block _ hm1.hR.lt)) n a b (by omega) (by omega) (by omega)
    have y0:=fun (u : Ups W2)=>(kL.out.below u.up kL.out.lt).cell 0
    have y1:=fun (u : Ups W2)=>(kL.out.below u.up kL.out.lt).cell 1
    have y2:=fun (u : Ups W2)=>(kL.out.below u.up kL.out.lt).cell 2
    simp at y0 y1 y2
    go_upto_region 15 with fail
    rw [<- hW2]
    clear hW2
    refine wp_region_ups rfl (by kernel_rfl) ?_
    repeat (go_big_quiet_step (fail))
    refine wpQuiet_nil ?_
    rintro w' ⟨u,rfl⟩
    have hB3:=Hd (hB2.out.trans (u.up.mono hB2.out.size))
    have kK3:=Hd (kK.out.below hB3.out kK.out.lt)
    have kL3:=Hd (kL.out.below u.up kL.out.lt)
    have hinv3:=Hd (hinv1.out.below hB3.out)
    have hm3:=Hd (hm1.keep (CKp.of_below hB3.out O) (fun b h=>.inl h) (hB3.out.block _ hm1.hS.lt) (hB3.out.block _ hm1.hR.lt))
    clear cres hask y0 y1 y2 hB2 kL kK hinv1 hm1 at1 z0 z1 z2 z3
    generalize u.wld = W3 at *
    clear u
    have hO3 : Hid (∀ b,O b -> b < W3.heap.size):=Hd fun b h=>Nat.lt_of_lt_of_le (hO1.out b h) hB3.out.size
    rcases hq : getA (⟨(n : Nat),(a : Nat),(b : Nat)⟩ : PSpan) MR with _ | v
    ·have hsum:=Hd (restN_sum (sy:=d.sy) (tk:=d.tk) (i:=⟨cls,sym⟩) (t:=t) (a:=a) (b:=b) (by rw [hInat.out]; exact h0) hc.out htne)
     have hsm : Hid (restN d.sy d.tk (⟨cls,sym⟩ :: t) a b < 4294967296):=Hd (by obtain ⟨r,hr,hs⟩:=hsuf.out; exact ok.smallR r hr _ hs a b hab hb)
     rw [hsum.out] at hsm
     obtain ⟨N,hN⟩ : ∃ N,N = b - a - t.length:=⟨_,rfl⟩
     rw [<- hN] at hsum hsm
     have hNI : Hid (N + I = b - a + 1):=Hd (by have:=hInat.out; omega)
     obtain ⟨F,hF⟩ : ∃ F : List Nat,F = (List.range N).map fun k=>restN d.sy d.tk t (a + 1 + k) b * d.sy sym a (a + 1 + k):=⟨_,rfl⟩
     simp only at hsum hsm
     rw [<- hF] at hsum hsm
     have hFl : Hid (F.length = N):=Hd (by rw [hF]; simp)
     have hFg : Hid (∀ k,k < N -> F.getD k 0 = restN d.sy d.tk t (a + 1 + k) b * d.sy sym a (a + 1 + k)):=Hd fun k hk=>by rw [hF]; exact getD_map_range _ N k hk
     clear hF hN hq
     have hw0 : IntKind.i64.wrap ((a : Int) + 1) = (a : Int) + 1:=wrap_small (by omega) (by omega)
     go_upto_region 18 with fail
     go_wp2_with fail
     go_loopw [11,13] (fun cv mv wr=>∃ k : Nat,k <= N /\ mv = .int .i64 ((a : Int) + 1 + (k : Int)) /\ Hid (LimO O wr cv (sumN (F.take k))) /\ Hid (ChartInv d O wr) /\ Hid (KeepM (MM d) W3 wr)) (fun _ mv _=>b + 2 - (intOf mv).toNat)
     case atStart=>exact ⟨0,by omega,by simp,Hd (.inl ⟨rfl,_,_,rfl,by unfold maxLen; omega⟩),hinv3,Hd (KeepM.refl _ _)⟩
     case round=>
      obtain ⟨k,hk,rfl,hcv,hiv,hkm⟩:=hrel
      rename World=>wr
      have kKr : Hid (Blk wr K 243 _):=Hd ((hkm.out.2 _ kK3.out.lt (fun h=>hinv3.out.noCells _ h 0 _ (kK3.out.cell 0))).trans kK3.out)
      have z0:=kKr.out.cell 0
      have z1:=kKr.out.cell 1
      have z2:=kKr.out.cell 2
      have z3:=kKr.out.cell 3
      simp at z0 z1 z2 z3
      have hNi:=hNI.out
      have hw1 : IntKind.i64.wrap ((b : Int) - (I : Int)) = (b : Int) - (I : Int):=wrap_small (by omega) (by omega)
      have hw2 : IntKind.i64.wrap ((b : Int) - (I : Int) + 1) = (b : Int) - (I : Int) + 1:=wrap_small (by omega) (by omega)
      have hOr : Hid (∀ b,O b -> b < wr.heap.size):=Hd fun b h=>Nat.lt_of_lt_of_le (hO3.out b h) hkm.out.1
      by_cases hlt : k < N
      ·have n1 : (a : Int) + 1 + (k : Int) <= (b : Int) - (I : Int) + 1:=by omega
       have hFk:=Hd (hFg.out k hlt)
       have hts:=Hd (sumN_take_succ F k (by rw [hFl.out]; exact hlt))
       have htl2:=Hd (sumN_take F (k + 1))
       obtain ⟨m,hmm⟩ : ∃ m : Nat,m = a + 1 + k:=⟨_,rfl⟩
       have hmi : (a : Int) + 1 + (k : Int) = (m : Int):=by omega
       rw [<- hmm] at hFk
       have hcall:=Hd (ih nx m b O wr hnx (by omega) hb hiv.out hOr.out)
       have hw3 : IntKind.i64.wrap ((m : Int) + 1) = (m : Int) + 1:=wrap_small (by omega) (by omega)
       have hmm':=Hd hmm
       clear hmm
       rw [hmi] at n1 ⊢
       replace hmi:=Hd hmi
       have hbm:=Hd hNi
       clear hNi
       go_wp2_with fail
       refine hcall.out.mono ?_
       rintro e w4 ⟨v4,rfl,hv4,hiv4,hkm4⟩
       clear hcall
       have hcv4:=Hd (hcv.out.keep (CKp.of_keepM hkm4 hiv.out.noCells O) (fun b h=>.inl h))
       replace hiv4:=Hd hiv4
       replace hkm4:=Hd (hkm.out.trans hkm4)
       have kK4 : Hid (Blk w4 K 243 _):=Hd ((hkm4.out.2 _ kK3.out.lt (fun h=>hinv3.out.noCells _ h 0 _ (kK3.out.cell 0))).trans kK3.out)
       clear z0 z1 z2 z3 kKr
       have z0:=kK4.out.cell 0
       have z1:=kK4.out.cell 1
       have z2:=kK4.out.cell 2
       have z3:=kK4.out.cell 3
       simp at z0 z1 z2 z3
       have hO4 : Hid (∀ b,O b -> b < w4.heap.size):=Hd fun b h=>Nat.lt_of_lt_of_le (hO3.out b h) hkm4.out.1
       generalize restN d.sy d.tk t m b = y at *
       rcases lim_cases hv4 with ⟨hy,A4,c4,rfl⟩ | ⟨hy,b4,off4,c4,rfl⟩
       ·replace hy:=Hd hy
        clear hcv hiv hkm
        go_wp2
        go_roundw
        case rel=>exact ⟨k + 1,by omega,by have:=hmi.out; simp; omega,by rw [hts.out,hFk.out,hy.out,Nat.zero_mul,Nat.add_zero]; exact hcv4,hiv4,hkm4⟩
        case measure=>have:=hmi.out; have:=hmm'.out; have:=hbm.out; simp [intOf]; omega
       ·replace hy:=Hd hy
        replace hv4:=Hd hv4
        have hcall:=Hd (hsym sym a m O w4 hst.2 (hrk.out hc.out) (by have:=hmm'.out; omega) (by have:=hmm'.out; have:=hbm.out; omega) hiv4.out hO4.out)
        clear hcv hiv hkm
        go_wp2_with fail
        refine hcall.out.mono ?_
        rintro e w5 ⟨v5,rfl,hv5,hiv5,hkm5⟩
        clear hcall
        have hck5:=Hd (CKp.of_keepM hkm5 hiv4.out.noCells O)
        have hcv5:=Hd (hcv4.out.keep hck5.out (fun b h=>.inl h))
        have hv45:=Hd (hv4.out.keep hck5.out (fun b h=>.inl h))
        replace hiv5:=Hd hiv5
        replace hkm5:=Hd (hkm4.out.trans hkm5)
        replace hv5:=Hd hv5
        have hO5 : Hid (∀ b,O b -> b < w5.heap.size):=Hd fun b h=>Nat.lt_of_lt_of_le (hO3.out b h) hkm5.out.1
        have hmul:=Hd (natMul_any _ _ _ _ w5 hv5.out.lim hv45.out.lim (by have:=hts.out; have:=htl2.out; have:=hsm.out; have:=hFk.out; rw [Nat.mul_comm]; omega))
        clear hcv4 hv4 hiv4 hkm4 hck5
        go_wp2_with fail
        refine hmul.out.mono ?_
        rintro e w6 ⟨v6,rfl,hv6,hb6,hn6⟩
        clear hmul
        rw [Nat.mul_comm,<- hFk.out] at hv6
        have hcv6:=Hd (hcv5.out.keep (CKp.of_below hb6 O) (fun b h=>.inl h))
        have hadd:=Hd (natAdd_any _ _ _ _ w6 hcv6.out.lim hv6 (by have:=hts.out; have:=htl2.out; have:=hsm.out; omega))
        rw [<- hts.out] at hadd
        have hiv6:=Hd (hiv5.out.below hb6)
        have hkm6:=Hd (hkm5.out.trans (KeepM.of_below hb6))
        have hO6 : Hid (∀ b,O b -> b < w6.heap.size):=Hd fun b h=>Nat.lt_of_lt_of_le (hO3.out b h) hkm6.out.1
        clear hv6 hb6 hn6 hcv5 hv45 hiv5 hkm5 hv5 hcv6
        go_wp2_with fail
        refine hadd.out.mono ?_
        rintro e w7 ⟨v7,rfl,hv7,hb7,hn7⟩
        clear hadd
        replace hv7:=Hd (LimO.of_new hv7 hO6.out hn7)
        have hiv7:=Hd (hiv6.out.below hb7)
        have hkm7:=Hd (hkm6.out.trans (KeepM.of_below hb7))
        clear hb7 hn7 hiv6 hkm6
        go_wp2
        go_roundw
        case rel=>exact ⟨k + 1,by omega,by have:=hmi.out; simp; omega,hv7,hiv7,hkm7⟩
        case measure=>have:=hmi.out; have:=hmm'.out; have:=hbm.out; simp [intOf]; omega
      ·obtain rfl : k = N:=by omega
       have n1 : ¬ (a : Int) + 1 + (k : Int) <= (b : Int) - (I : Int) + 1:=by omega
       rw [show F.take k = F from by rw [<- hFl.out]; exact List.take_length,<- hsum.out] at hcv
       obtain ⟨hatr,MS',MR',hmr⟩:=hiv.out
       have kLr : Hid (Blk wr W1.heap.size 268 _):=Hd ((hkm.out.2 _ kL3.out.lt (fun h=>hinv3.out.noCells _ h 0 _ (kL3.out.cell 0))).trans kL3.out)
       have cres:=fun (u : Ups wr)=>(u.up.cell (p:=⟨d.C,68,none⟩) (cell_lt hatr.cres)).trans hatr.cres
       have y0:=fun (u : Ups wr)=>(kLr.out.below u.up kLr.out.lt).cell 0
       have y1:=fun (u : Ups wr)=>(kLr.out.below u.up kLr.out.lt).cell 1
       have y2:=fun (u : Ups wr)=>(kLr.out.below u.up kLr.out.lt).cell 2
       simp at y0 y1 y2
       replace hNi:=Hd hNi
       go_upto_region 25 with fail
       refine wp_region_upst 6 rfl (by kernel_rfl) ?_
       simp only [tS,tZ,dS,dZ]
       repeat (go_big_quiet_step (fail))
       refine wpQuiet_nil ?_
       rintro w' ⟨u,rfl⟩
       clear cres y0 y1 y2 z0 z1 z2 z3
       have hu:=u.up
       generalize u.wld = w5 at *
       clear u
       have hm5:=hmr.keep (CKp.of_below hu O) (fun b h=>.inl h) (hu.block _ hmr.hS.lt) (hu.block _ hmr.hR.lt)
       have hat5:=hatr.keep (CKp.of_below hu O) (fun b h=>.inl h)
       have hcv5:=Hd (hcv.out.keep (CKp.of_below hu O) (fun b h=>.inl h))
       have hkm5:=Hd (hkm.out.trans (KeepM.of_below hu))
       obtain ⟨w6,hrun,hmap,hgr⟩:=MapS.write hm5.hR n a b u11 (by omega) (by omega) (by omega) (by have:=hm5.kR.len; omega)
       have hkm6 : Hid (KeepM (MM d) w5 w6):=Hd (KeepM.of_grown hgr (.inr rfl))
       have hck6:=CKp.of_keepM hkm6.out (fun b hb=>by
        rcases hb with rfl | rfl
        ·exact hm5.hS.noCell
        ·exact hm5.hR.noCell) O
       have hcv6:=Hd (hcv5.out.keep hck6 (fun b h=>.inl h))
       have hinv6 : Hid (ChartInv d O w6):=Hd ⟨hat5.keep hck6 (fun b h=>.inl h),MS',_,{
        hS:=hm5.hS.kept hgr (fun e=>ok.ne (by injection e with e))
        hR:=hmap
        kS:=hm5.kS
        kR:=hm5.kR.cons hnK hab (by omega) u11
        vS:=fun s' a' b' v' hv'=>(hm5.vS s' a' b' v' hv').keep hck6 (fun b h=>.inl h)
        vR:=fun n' a' b' v' hv' its hc'=>by
         rw [getA] at hv'
         split at hv'
         ·rename_i he
          simp only [PSpan.mk.injEq] at he
          obtain ⟨e1,e2,e3⟩:=he
          cases hv'
          obtain rfl : n = n':=by omega
          obtain rfl : a = a':=by omega
          obtain rfl : b = b':=by omega
          rw [hc'.uniq hch.out]
          exact hcv6.out
         ·exact (hm5.vR n' a' b' v' hv' its hc').keep hck6 (fun b h=>.inl h) }⟩
       clear hmap hgr hck6
       go_wp2
       go_ret
       exact ⟨_,rfl,hcv6.out,hinv6.out,(KeepM.of_below hB1.out).trans ((KeepM.of_below hB3.out).trans (hkm5.out.trans hkm6.out))⟩
    ·have hv:=Hd (hm3.out.vR n a b v hq _ hch.out)
     go_wp2
     go_ret
     exact ⟨_,rfl,hv.out,hinv3.out,(KeepM.of_below hB1.out).trans (KeepM.of_below hB3.out)⟩
  ·have q2 : ((cls : Int) != 0) = true:=by simp; omega
   replace hc:=Hd hc
   obtain ⟨tv,htc,htn⟩:=hinv1.out.1.ctok
   obtain ⟨A2,c2,rfl,hn2,hcm2,hA2⟩:=htn
   have hIp : Hid (a < d.tk.length):=Hd (by have:=hInat.out; omega)
   obtain ⟨bt,offt,rfl,hbt,hpt,hit⟩:=hA2 (by have:=hIp.out; omega)
   have ht0 : W1.cell? ⟨bt,offt + a,none⟩ = some (.int .u16 ((d.tk.getD a 0 : Nat) : Int)):=hit a hIp.out
   clear hit hA2
   have hr0:=Hd (fun h=>restN_cls (sy:=d.sy) (tk:=d.tk) (i:=⟨cls,sym⟩) (t:=t) (a:=a) (b:=b) (by rw [hInat.out]; exact h0) hc.out h)
   have hr1:=Hd (fun h=>restN_cls0 (sy:=d.sy) (tk:=d.tk) (i:=⟨cls,sym⟩) (t:=t) (a:=a) (b:=b) (by rw [hInat.out]; exact h0) hc.out h)
   have hand:=and_u16_nat (d.tk.getD a 0) cls htk.out hst.1
   simp only at hr0 hr1
   generalize d.tk.getD a 0 = x at *
   have qa0 : (0 : Int) <= (a : Int):=by omega
   have qa1 : (a : Int) < (d.tk.length : Int):=by have:=hIp.out; omega
   have t0:=fun (u : Ups W1)=>(u.up.cell (p:=⟨bt,offt + a,none⟩) hbt).trans ht0
   have t1:=fun (u : Ups W1)=>(u.up.cell (p:=⟨d.C,0,none⟩) (cell_lt htc)).trans htc
   have t2:=fun (u : Ups W1)=>(u.up.cell (p:=⟨K,0,none⟩) kK.out.lt).trans z0
   go_upto_region 9 with fail
   by_cases hx : x &&& cls = 0
   ·have q4 : (((x &&& cls : Nat) : Int) == 0) = true:=by rw [hx]; rfl
    replace hx:=Hd hx
    refine wp_region_ups rfl (by kernel_rfl) ?_
    repeat (go_big_quiet_step (fail))
    refine wpQuiet_nil ?_
    rintro w' ⟨u,rfl⟩
    have hu:=Hd u.up
    clear t0 t1 t2
    generalize u.wld = w3 at *
    go_wp2
    go_ret
    exact ⟨_,rfl,.inl ⟨hr1.out hx.out,_,_,rfl,by unfold maxLen; omega⟩,hinv1.out.below hu.out,(KeepM.of_below hB1.out).trans (KeepM.of_below hu.out)⟩
   ·have q4 : (((x &&& cls : Nat) : Int) == 0) = false:=by simpa using hx
    replace hx:=Hd hx
    refine wp_region_ups rfl (by kernel_rfl) ?_
    repeat (go_big_quiet_step (fail))
    refine wpQuiet_nil ?_
    rintro w' ⟨u,rfl⟩
    have hu:=Hd u.up
    have z2':=(u.up.cell (p:=⟨K,2,none⟩) kK.out.lt).trans z2
    clear t0 t1 t2
    generalize u.wld = w3 at *
    have hinv3:=Hd (hinv1.out.below hu.out)
    have hw1 : IntKind.i64.wrap ((a : Int) + 1) = ((a + 1 : Nat) : Int):=wrap_small (by omega) (by omega)
    have hO3 : Hid (∀ b,O b -> b < w3.heap.size):=Hd fun b h=>Nat.lt_of_lt_of_le (hO1.out b h) hu.out.size
    have hcall:=Hd (ih nx (a + 1) b O w3 hnx (by have:=hInat.out; omega) hb hinv3.out hO3.out)
    go_wp2_with fail
    refine hcall.out.mono ?_
    rintro e w4 ⟨v4,rfl,hv4,hiv4,hkm4⟩
    clear hcall
    replace hv4:=Hd hv4
    replace hiv4:=Hd hiv4
    replace hkm4:=Hd hkm4
    go_wp2
    go_ret
    exact ⟨_,rfl,by rw [hr0.out hx.out]; exact hv4.out,hiv4.out,(KeepM.of_below hB1.out).trans ((KeepM.of_below hu.out).trans hkm4.out)⟩
theorem rest_step {d : ChartD} {rk : Nat -> Nat} (ok : ChartOK d rk) {D : Nat} (hsym : SymC d rk D) : RestC d rk D:=by
 intro its
 induction its with
 | nil=>intro n a b O W hch _ _ hab hb hinv hO; exact rest_nil ok n a b O W hch trivial trivial hab hb hinv hO
 | cons i t ih=>
  intro n a b O W hch hsuf hrk hab hb hinv hO
  refine rest_cons ok hsym i t (fun n a b O W hch hab hb hinv hO=>ih n a b O W hch ?_ (fun j hj=>hrk j (List.mem_cons_of_mem _ hj)) hab hb hinv hO) n a b O W hch hsuf (hrk i (List.mem_cons_self ..)) hab hb hinv hO
  obtain ⟨r,hr,hs⟩:=hsuf
  exact ⟨r,hr,(List.suffix_cons i t).trans hs⟩
theorem symbol_any {d : ChartD} {rk : Nat -> Nat} (ok : ChartOK d rk) : ∀ D,SymC d rk D
 | 0=>fun s a b O W _ h=>absurd h (by omega)
 | D + 1=>symbol_step ok (rest_step ok (symbol_any ok D))
theorem rest_any {d : ChartD} {rk : Nat -> Nat} (ok : ChartOK d rk) (D : Nat) : RestC d rk D:=rest_step ok (symbol_any ok D)
end
end Go.Proofs.YteclineblddpbaaGreatDoorR
