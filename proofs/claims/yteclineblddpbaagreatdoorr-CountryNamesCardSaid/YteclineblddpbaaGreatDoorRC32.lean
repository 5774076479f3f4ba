import Derived.Test.YteclineblddpbaaGreatDoorRC01
import Derived.Test.YteclineblddpbaaGreatDoorRC31
import Derived.Deep.MidRow
set_option linter.all false
set_option maxRecDepth 100000
set_option maxHeartbeats 0
namespace Go.Proofs.YteclineblddpbaaGreatDoorR
section
open Go Go.RowKit Go.Maps
theorem trees_prefix {α : Type} {pre xs : List α} {n : Nat} (h : pre <+: xs) (hl : pre.length = n) : pre = xs.take n:=by
 obtain ⟨t,rfl⟩:=h
 rw [<- hl,List.take_left]
def IT (B0 B1 : Nat) (w0 : World) (MB TB most : Nat) (pre : List PTree) (O : Nat -> Prop) (W : World) : Prop:=
 Below B0 w0 W /\ Blk W MB 3 #[.int .i64 (most : Int)] /\ ∃ v ms,Blk W TB 30 #[v] /\ OwnTrees B1 W v ms /\ ms.map (·.t) = pre /\ O = boxO TB v
theorem IT.calm {B0 B1 : Nat} {w0 : World} {MB TB most : Nat} {pre : List PTree} {M : Nat -> Prop} (h0 : B0 <= w0.heap.size) (h01 : B0 <= B1) (hM : ∀ b,M b -> B0 <= b /\ b < B1 /\ b ≠ MB /\ b ≠ TB) : Calm M B1 (IT B0 B1 w0 MB TB most pre):=
 ⟨fun O A B ⟨h1,h2,v,ms,h4,h5,h6,h7⟩ _ hk=>⟨hk.below h1 h0 (fun k hk h=>by have:=hM k h; omega) h01,hk.blk (fun h=>(hM _ h).2.2.1 rfl) h2,v,ms,hk.blk (fun h=>(hM _ h).2.2.2 rfl) h4,h5.keepB hk (fun k hk h=>by have:=hM k h; omega),h6,h7⟩⟩
def PBox (d : ChartD) (PB : Nat) (r a b : Int) (sv : Value) (O : Nat -> Prop) (w : World) : Prop:=¬ O PB /\ ¬ MM d PB /\ Blk w PB 34 #[.int .i64 r,.int .i64 a,.int .i64 b,sv]
theorem one4' {r a b : Int} {A : Option Addr} {n c : Nat} : ∀ u ∈ [Value.int .i64 r,.int .i64 a,.int .i64 b,.slice A n c],u.oneCell' = true:=one4 rfl rfl rfl rfl
theorem KeepM.invMap {d : ChartD} {O O' M : Nat -> Prop} {w w' : World} (h : ChartInv d O w) (hk : KeepM M w w') (hO : ∀ b,O' b -> O b \/ w.heap.size <= b) (hMO : ∀ b,M b -> O b) (hM : ∀ b,MM d b -> ¬ M b) : ChartInv d O' w':=by
 obtain ⟨h1,MS,MR,hm⟩:=h
 have hc : CKp O w w':=(CKp.of_keepM_self hk).wide hMO
 exact ⟨h1.keep hc hO,MS,MR,hm.keep hc hO (hk.same _ hm.hS.lt (hM _ (.inl rfl))) (hk.same _ hm.hR.lt (hM _ (.inr rfl)))⟩
theorem InvT.moved {d : ChartD} {s a b p1 p2 p3 p4 : Nat} {O O' : Nat -> Prop} {w w' : World} (h : InvT d s a b p1 p2 p3 p4 O w) (hk : KeepM O w w') (hO : ∀ b,O' b -> O b \/ w.heap.size <= b) (hM : ∀ b,MM d b -> ¬ O b) : InvT d s a b p1 p2 p3 p4 O' w':=
 have hc : CKp O w w':=CKp.of_keepM_self hk
 ⟨KeepM.invMap h.1 hk hO (fun _ h=>h) hM,h.2.1.keep hc hO,h.2.2.1.keep hc hO,h.2.2.2.1.keep hc hO,h.2.2.2.2.keep hc hO⟩
structure FinT (d : ChartD) (w0 W5 W6 : World) (MB TB p1 p2 p3 p4 b most : Nat) (pre : List PTree) (cv v : Value) (w : World) : Prop where
 sub : ∀ b,boxO TB v b -> boxO TB cv b \/ W6.heap.size <= b
 lt : ∀ b,boxO TB v b -> b < w.heap.size
 keep : KeepM (boxO TB cv) W6 w
 inv : InvT d 0 0 b p1 p2 p3 p4 (boxO TB v) w
 books : ∀ k' o,W5.heap.size <= k' -> W6.heap[k']? = some o -> bookO o = true -> w.heap[k']? = some o
 it : IT w0.heap.size W5.heap.size w0 MB TB most pre (boxO TB v) w
theorem FinT.go {d : ChartD} {w0 W5 W6 : World} {MB TB p1 p2 p3 p4 b most : Nat} {pre : List PTree} {cv v : Value} {w : World} {a : Act} (h : FinT d w0 W5 W6 MB TB p1 p2 p3 p4 b most pre cv v w) (hl : pre.length < most) :
  postM W5.heap.size (InvT d 0 0 b p1 p2 p3 p4) (fun pre O W=>IT w0.heap.size W5.heap.size w0 MB TB most pre O W /\ pre.length < most) (fun c pre O W=>c = .exit 0 /\ IT w0.heap.size W5.heap.size w0 MB TB most pre O W /\ pre.length = most) pre (boxO TB cv) W6 .normal a w:=
 ⟨_,h.sub,h.lt,h.keep.keepC,h.inv,h.books,h.it,hl⟩
theorem FinT.stop {d : ChartD} {w0 W5 W6 : World} {MB TB p1 p2 p3 p4 b most : Nat} {pre : List PTree} {cv v : Value} {w : World} {a : Act} (h : FinT d w0 W5 W6 MB TB p1 p2 p3 p4 b most pre cv v w) (hl : pre.length = most) :
  postM W5.heap.size (InvT d 0 0 b p1 p2 p3 p4) (fun pre O W=>IT w0.heap.size W5.heap.size w0 MB TB most pre O W /\ pre.length < most) (fun c pre O W=>c = .exit 0 /\ IT w0.heap.size W5.heap.size w0 MB TB most pre O W /\ pre.length = most) pre (boxO TB cv) W6 (.exit 0) a w:=
 ⟨_,h.sub,h.lt,h.keep.keepC,h.inv,h.books,rfl,h.it,hl⟩
def TreesR (xs : List PTree) (w : World) (e : Ending) (w' : World) : Prop:=∃ v ms,e = .returned (.tuple #[v,.int .i64 0]) /\ OwnTrees w.heap.size w' v ms /\ ms.map (·.t) = xs /\ Below w.heap.size w w'
attribute [local go_sem] Oper.semAt_some
theorem trees_any {rk : Nat -> Nat} {D : Nat} (gv tv : Value) (g : List PRule) (tk : List Nat) (most : Nat) (w : World) (hg : RulesP (fun _=>True) w gv g) (ok : GramOK g rk D) (ht : NatsO .u16 (fun _=>False) w tv tk) (htl : tk.length <= 40) (htc : ∀ i,tk.getD i 0 < 65536) (hm0 : 0 < most) (hm1 : most <= 200) :
  Calls Tryz.prog 60 #[gv,tv,.int .i64 (most : Int)] w (TreesR ((treesN g tk (symN g tk D) D 0 0 tk.length).take most) w):=by
 have ht':=Hd ht
 obtain ⟨At,tc,rfl,htn,htm,-⟩:=ht
 unfold maxLen at htm
 obtain ⟨xs,hxs⟩ : ∃ xs,xs = treesN g tk (symN g tk D) D 0 0 tk.length:=⟨_,rfl⟩
 rw [<- hxs]
 have hsmall : Hid (∀ t ∈ xs,depthT t <= D /\ wideT t <= 1000):=Hd fun t h=>by
  rw [hxs] at h
  have:=treesN_small (m:=8) (fun r=>by
   by_cases hr : r < g.length
   ·exact (ok.rules r hr).1
   ·unfold ruleOf; rw [List.getD_eq_getElem?_getD,List.getElem?_eq_none (by omega)]; exact Nat.zero_le _) D 0 0 tk.length t h
  omega
 replace hxs:=Hd hxs
 have hgl:=Hd ok.glen
 obtain ⟨W1,hW1⟩ : ∃ W1,W1 = w.alloc (.cells #[.int .i64 (most : Int)] 3):=⟨_,rfl⟩
 have hb1 : Below w.heap.size w W1:=by rw [hW1]; exact (Below.refl _ _).alloc (lQ _) _
 have kM1 : Hid (Blk W1 w.heap.size 3 #[.int .i64 (most : Int)]):=Hd (by rw [hW1]; exact Blk.new _ _ _)
 have hchk:=Hd (checked_any gv g At tk.length tc W1 (hg.below hb1) ok htl)
 replace hb1:=Hd hb1
 replace hg:=Hd hg
 have q0 : decide ((most : Int) < 0) = false:=by rw [decide_eq_false_iff_not]; omega
 have q1 : decide ((200 : Int) < (most : Int)) = false:=by rw [decide_eq_false_iff_not]; omega
 have q2 : ((most : Int) == 0) = false:=by rw [beq_eq_false_iff_ne]; omega
 refine callsIn_wide.1 (callsIn_of_wp_marks (n:=0) Tryz.func60 rfl trivial (wpIn_wide.2 ?_))
 simp only [Tryz.ntmps60,List.size_toArray,List.length_cons,List.length_nil,Nat.reduceAdd,Nat.reduceSub,Array.replicate_succ,Array.replicate_zero,List.push_toArray,List.append_toArray,List.nil_append,List.cons_append]
 go_upto_region 1 with fail
 rw [<- hW1]
 clear hW1
 obtain ⟨MB,hMB⟩ : ∃ MB,MB = w.heap.size:=⟨_,rfl⟩
 rw [<- hMB] at kM1 ⊢
 replace hMB:=Hd hMB
 go_wp2_with fail
 refine hchk.out.mono ?_
 rintro e W2 ⟨rfl,hb2⟩
 have hb2':=Hd (hb1.out.trans (hb2.mono hb1.out.size))
 have kM2:=Hd (kM1.out.below hb2 kM1.out.lt)
 clear hchk hb2 hb1 kM1
 obtain ⟨W3,hW3⟩ : ∃ W3,W3 = W2.alloc (.cells #[.slice none 0 0] 30):=⟨_,rfl⟩
 have hb3 : Hid (Below w.heap.size w W3):=Hd (by rw [hW3]; exact hb2'.out.alloc hb2'.out.size _)
 have kM3 : Hid (Blk W3 MB 3 #[.int .i64 (most : Int)]):=Hd (by rw [hW3]; exact kM2.out.alloc _)
 have kT3 : Hid (Blk W3 W2.heap.size 30 #[.slice none 0 0]):=Hd (by rw [hW3]; exact Blk.new _ _ _)
 have hMT : Hid (MB < W2.heap.size /\ w.heap.size <= MB):=Hd ⟨kM2.out.lt,by have:=hMB.out; omega⟩
 have x0:=kM2.out.cell 0
 have x1:=kM3.out.cell 0
 simp at x0 x1
 go_upto_region 7 with fail
 rw [<- hW3]
 clear hW3 x0 kM2
 have hb2s:=Hd hb2'.out.size
 obtain ⟨TB,hTB⟩ : ∃ TB,TB = W2.heap.size:=⟨_,rfl⟩
 rw [<- hTB] at kT3 hMT ⊢
 have hTw : Hid (w.heap.size <= TB):=Hd (by have:=hb2s.out; omega)
 replace hTB:=Hd hTB
 have hnew:=Hd (newChart_any gv At tk.length tc g W3 (hg.out.below ⟨hb3.out.os,hb3.out.tape,hb3.out.output,hb3.out.size,hb3.out.block⟩) hgl.out ok.rules)
 have ht3 : Hid (NatsO .u16 (boxO TB (.slice none 0 0)) W3 (.slice At tk.length tc) tk):=Hd (ht'.out.keep (CKp.of_below hb3.out _) (fun b h=>by
  rcases h with rfl | h
  ·exact .inr hTw.out
  ·cases h))
 clear hb2' hb2s ht'
 go_wp2_with fail
 refine hnew.out.mono ?_
 rintro e W4 ⟨B,C,S,R,N,Bg,E,M,bg,rv,ev,rfl,hnc,hE⟩
 clear hnew x1
 have hO3 : Hid (∀ b,boxO TB (.slice none 0 0) b -> b < W3.heap.size):=Hd fun b h=>by
  rcases h with rfl | h
  ·exact kT3.out.lt
  ·cases h
 obtain ⟨d,hd⟩ : ∃ d,d = chartOf g tk D C S R E bg:=⟨_,rfl⟩
 have hcok : Hid (ChartOK d rk):=Hd (by rw [hd]; exact newC_ok hnc ok hE htl htc)
 have hci4 : Hid (ChartInv d (boxO TB (.slice none 0 0)) W4):=Hd (by rw [hd]; exact newC_inv hnc ht3.out hO3.out hgl.out D)
 have htr : Hid (TreesC d rk D (treesN g tk (symN g tk D) D)):=Hd (by have:=trees_all hcok.out D; rw [hd] at this ⊢; exact this)
 have hdC : Hid (C = d.C):=Hd (by rw [hd]; rfl)
 have hdt : Hid (d.tk = tk):=Hd (by rw [hd]; rfl)
 have hMM : Hid (∀ b,MM d b -> W3.heap.size <= b):=Hd fun b h=>by
  have:=hnc.ge
  rw [hd] at h
  rcases h with rfl | rfl
  ·exact this.2.1
  ·exact this.2.2.1
 replace hd:=Hd hd
 have hb4:=Hd (hb3.out.trans (hnc.below.mono hb3.out.size))
 have hb34:=Hd hnc.below.size
 have kM4:=Hd (kM3.out.below hnc.below kM3.out.lt)
 have kT4:=Hd (kT3.out.below hnc.below kT3.out.lt)
 clear hnc hE ht3 hb3 kM3
 rw [hdC.out]
 have hmk:=Hd (treesMake d.C 0 0 tk.length W4)
 go_wp2_with fail
 refine hmk.out.mono ?_
 rintro e W5 ⟨p1,p2,p3,p4,rfl,hps,kp1,kp2,kp3,kp4,hb5⟩
 clear hmk
 have hci5:=Hd (hci4.out.below hb5)
 have hb5':=Hd (hb4.out.trans (hb5.mono hb4.out.size))
 have kM5:=Hd (kM4.out.below hb5 kM4.out.lt)
 have kT5:=Hd (kT4.out.below hb5 kT4.out.lt)
 have hs5:=hb5.size
 have hpO : ∀ p,W4.heap.size <= p -> ¬ boxO TB (.slice none 0 0) p:=fun p h1 h2=>by
  have h3:=hO3.out p h2
  have:=hb34.out
  omega
 have hinv : Hid (InvT d 0 0 tk.length p1 p2 p3 p4 (boxO TB (.slice none 0 0)) W5):=Hd ⟨hci5.out,⟨hpO _ hps.1,kp1.cell 0⟩,⟨hpO _ hps.2.1,kp2.cell 0⟩,⟨hpO _ hps.2.2.1,kp3.cell 0⟩,⟨hpO _ hps.2.2.2,kp4.cell 0⟩⟩
 have hO5 : Hid (∀ b,boxO TB (.slice none 0 0) b -> b < W5.heap.size):=Hd fun b h=>by
  have:=hO3.out b h
  have:=hb34.out
  omega
 have hMMx : Hid (∀ b,MM d b -> w.heap.size <= b /\ b < W5.heap.size /\ b ≠ MB /\ b ≠ TB):=Hd fun b h=>by
  have h1:=hMM.out b h
  have h2:=hci5.out.MM_lt h
  have:=hMT.out
  have:=kT3.out.lt
  exact ⟨by omega,h2,by omega,by omega⟩
 have hw5:=Hd hb5'.out.size
 have hT5l:=Hd kT5.out.lt
 have hM5l:=Hd kM5.out.lt
 have hDpos : 0 < 64:=by decide
 have hrk0:=ok.rkD 0
 clear hci4 hb4 kM4 kT4 hpO kp1 kp2 kp3 kp4 hb5 hs5 hps hO3 kT3
 obtain ⟨i34,hi34,hz0,hz1,hz2⟩:=info_parts info34
 have hseq:=htr.out 0 0 tk.length p1 p2 p3 p4 hDpos hrk0 (Nat.zero_le _) (by rw [hdt.out]; exact lQ _)
 rw [<- hxs.out] at hseq
 replace hseq:=Hd hseq
 go_wp2_with fail
 refine (wpIn_wide (n:=0)).1 (range_M (gf:=176) (lb:=ptr4 p1 p2 p3 p4) rfl (enters_of Tryz.func176 (by kernel_rfl) rfl) hseq.out trivial
  (fun _ _ _ _=>trivial) (fun b h=>hci5.out.MM_lt h) (InvT.still ..) VTree.still (fun O x vs W h=>by obtain ⟨v,h,_⟩:=h; rw [h]; rfl)
  (fun pre O W=>IT w.heap.size W5.heap.size w MB TB most pre O W /\ pre.length < most) (fun c pre O W=>c = .exit 0 /\ IT w.heap.size W5.heap.size w MB TB most pre O W /\ pre.length = most)
  (fun pre=>⟨fun O A B h hb hk=>⟨(IT.calm (lQ _) hw5.out hMMx.out).keep O A B h.1 hb hk,h.2⟩⟩) (fun c pre=>⟨fun O A B h hb hk=>⟨h.1,(IT.calm (lQ _) hw5.out hMMx.out).keep O A B h.2.1 hb hk,h.2.2⟩⟩)
  (boxO TB (.slice none 0 0)) hO5.out hinv.out ⟨⟨hb5'.out,kM5.out,_,[],kT5.out,OwnL.nil_,rfl,rfl⟩,hm0⟩
  (fun x vs O a' W=>∃ (PB : Nat) (r a b : Int) (tv : Value) (u : Nat -> Value),vs = #[tagg r a b tv] /\ a' = ⟨#[gv,.slice At tk.length tc,.int .i64 (most : Int),u 3,u 4,.pointer (some ⟨MB,0,none⟩),u 6,u 7,u 8,.pointer (some ⟨TB,0,none⟩),.pointer (some ⟨PB,0,none⟩),u 11,u 12,u 13,u 14,u 15,u 16,u 17,u 18,u 19,u 20,u 21,u 22,u 23,u 24,u 25,u 26,u 27,u 28,u 29,u 30,u 31,u 32,u 33,u 34,u 35,u 36,u 37,u 38,u 39,u 40,u 41,u 42,u 43,u 44],[]⟩ /\ PBox d PB r a b tv O W)
  (fun _ _ _=>⟨fun O A B h _ hk=>by
   obtain ⟨PB,r,a,b,tv,u,h1,h2,h3,h4,h5⟩:=h
   exact ⟨PB,r,a,b,tv,u,h1,h2,h3,h4,hk.blk h4 h5⟩⟩) ?assign ?body ?done ?stop)
 case assign=>
  rintro l' pre x vs O4 W4 K hi hv hvx hO4 hK
  obtain ⟨vv,rfl,hvt⟩:=hvx
  have hvt0:=hvt
  obtain ⟨r,a,b,sub,tv,rfl,rfl,hsub⟩:=hvt.sub
  obtain ⟨As,cs,rfl,hsub2⟩:=hsub
  have hB5 : Below W4.heap.size W4 (W4.alloc (.cells #[.int .i64 r,.int .i64 a,.int .i64 b,.slice As sub.length cs] 34)):=(Below.refl _ _).alloc (lQ _) _
  have kP:=Blk.new W4 34 #[.int .i64 r,.int .i64 a,.int .i64 b,.slice As sub.length cs]
  gi_wp2_with (fail)
  have hci5:=hv.1.below hB5
  have hkc5:=CKp.of_below hB5 O4
  refine hK _ O4 _ (fun b h=>.inl h) (fun b h=>Nat.lt_of_lt_of_le (hO4 b h) hB5.size) (KeepC.alloc _ _) ((InvT.still ..).keep O4 W4 _ hv hO4 ((KeepM.of_below hB5).keepB 0)) ⟨_,rfl,TrAt.keep hkc5 (fun b h=>.inl h) _ _ hvt0⟩
   ⟨(IT.calm (M:=fun b=>False) (lQ _) hw5.out (fun b h=>h.elim)).keep O4 W4 _ hi.1 hO4 ((KeepM.of_below hB5).keepB _),hi.2⟩ (fun k' o _ h _=>(Below.heap_alloc W4 _ k' (heap_lt h)).trans h) ?_
  exact ⟨W4.heap.size,r,a,b,.slice As sub.length cs,(fun n=>([undef,undef,undef,_,_,undef,_,_,_,undef,undef,_,_,_,_,_,_,_,_,_,_,_,_,_,_,_,_,_,_,_,_,_,_,_,_,_,_,_,_,_,_,_,_,_,_] : List Value).getD n undef),rfl,rfl,fun h=>by have:=hO4 _ h; omega,fun h=>by have:=hv.1.MM_lt h; omega,kP⟩
 case body=>
  rintro l' pre x vs O4 a' W6 ⟨PB,r,a,b,tv,u,rfl,rfl,hPO,hPM,kP⟩ hl' ⟨rr,hr⟩ hpre ⟨⟨hi1,hi2,v,ms,hi4,hi5,hi6,rfl⟩,hpl⟩ hv hvx hO4
  obtain ⟨vx,ex,hxt⟩:=hvx
  cases ex
  have hlw:=heap_lt hr
  have hxm:=hsmall.out x (hpre.subset (List.mem_append_right _ (mS.2 rfl)))
  obtain ⟨sub,Ax,cx,rfl⟩ : ∃ (sub : List PTree) (Ax : Option Addr) (cx : Nat),tv = .slice Ax sub.length cx:=by
   obtain ⟨_,_,_,sub,sv,_,e,A',c',rfl,_⟩:=hxt.sub
   simp only [Value.agg.injEq,Array.mk.injEq,List.cons.injEq,and_true] at e
   exact ⟨sub,A',c',e.2.2.2⟩
  have hvO:=Hd hi5
  obtain ⟨Av,cv,rfl⟩:=hi5.form_
  have hlen : Hid (ms.length = pre.length):=Hd (by rw [<- hi6,List.length_map])
  have hml : ms.length <= 200:=by have:=hlen.out; omega
  have hCC : Hid (∀ w2,Below W6.heap.size W6 w2 -> (w2.cell? ⟨TB,0,none⟩ = some (.slice Av ms.length cv) /\ w2.cell? ⟨PB,0,none⟩ = some (.int .i64 r)) /\ (w2.cell? ⟨PB,1,none⟩ = some (.int .i64 a) /\ w2.cell? ⟨PB,2,none⟩ = some (.int .i64 b)) /\ w2.cell? ⟨PB,3,none⟩ = some (.slice Ax sub.length cx)):=Hd fun w2 hb=>
   ⟨⟨(hi4.below hb hi4.lt).cell 0,(kP.below hb kP.lt).cell 0⟩,⟨(kP.below hb kP.lt).cell 1,(kP.below hb kP.lt).cell 2⟩,(kP.below hb kP.lt).cell 3⟩
  have hown : Hid (∀ b,(Value.slice Av ms.length cv).ownBlock = some b -> W5.heap.size <= b /\ b < W6.heap.size):=Hd fun b e=>hvO.out.1.lt b e
  have hPOn : Hid (PB ≠ TB /\ (Value.slice Av ms.length cv).ownBlock ≠ some PB):=Hd ⟨fun e=>hPO (.inl e),fun e=>hPO (.inr e)⟩
  have hTW : Hid (TB < W6.heap.size /\ PB < W6.heap.size /\ W5.heap.size <= W6.heap.size):=Hd ⟨hi4.lt,kP.lt,Nat.le_trans hl' (Nat.le_of_lt hlw)⟩
  have hT5:=hT5l.out
  replace hi1:=Hd hi1
  replace hi2:=Hd hi2
  replace hi4:=Hd hi4
  replace hi6:=Hd hi6
  replace kP:=Hd kP
  replace hv:=Hd hv
  replace hxt:=Hd hxt
  replace hO4:=Hd hO4
  replace hPO:=Hd hPO
  clear hi5 hr
  gi_wp2_with (fail)
  refine wpIn_region_flowD (C:=fun w2=>(w2.cell? ⟨TB,0,none⟩ = some (.slice Av ms.length cv) /\ w2.cell? ⟨PB,0,none⟩ = some (.int .i64 r)) /\ (w2.cell? ⟨PB,1,none⟩ = some (.int .i64 a) /\ w2.cell? ⟨PB,2,none⟩ = some (.int .i64 b)) /\ w2.cell? ⟨PB,3,none⟩ = some (.slice Ax sub.length cx)) [true,true,false,true,false,false] [2,4,5] 3 (by kernel_rfl) (by kernel_rfl) rfl (by kernel_rfl) (fun w2 hb=>hCC.out w2 hb) ?A1 ?q1 (by kernel_rfl) (fun ⟨_,_,h⟩=>h) ?t1
  case q1=>
   intro S' hS hSC hne
   have s0:=fun (u : UpsC S')=>(hSC u.wld u.mem).1.1
   have s1:=fun (u : UpsC S')=>(hSC u.wld u.mem).1.2
   have s2:=fun (u : UpsC S')=>(hSC u.wld u.mem).2.1.1
   have s3:=fun (u : UpsC S')=>(hSC u.wld u.mem).2.1.2
   have s4:=fun (u : UpsC S')=>(hSC u.wld u.mem).2.2
   simp only [pickB,if_true,if_false,Bool.false_eq_true]
   repeat (go_big_quiet_step (fail))
   refine wpQuiet_nil ?_
   rfl
  refine mkT_two (os:=[_]) rfl rfl (by decide) (by kernel_rfl) rfl rfl (by kernel_rfl) (by kernel_rfl) ?o1 ?o2
  case o1=>
   try simp only [Act.put,sX,sS,sZ]
   refine mkTL_cons rfl fun wa hba Q2 hQ2=>?_
   have hcopy:=Hd (copied_any D x _ wa hxm.1 hxm.2 (TrAt.keep (CKp.of_below hba _) (fun b h=>h.elim) x _ hxt.out))
   have hba':=Hd hba
   clear hba
   go_wp2_with fail
   refine hcopy.out.mono ?_
   rintro e wb ⟨m,rfl,hmx,hmi,hbb⟩
   clear hcopy
   obtain ⟨mt,m0,m1,m2,m3⟩:=m
   simp only at hmx
   subst hmx
   obtain ⟨r',a',b',s',sv',-,ev,A',c',rfl,-⟩:=hmi.sub
   simp only [MTree.agg,Value.agg.injEq,Array.mk.injEq,List.cons.injEq,and_true] at ev
   obtain ⟨rfl,rfl,rfl,rfl⟩:=ev
   obtain ⟨md,hmd⟩ : ∃ md : MTree,md = ⟨mt,.int .i64 r',.int .i64 a',.int .i64 b',.slice A' s'.length c'⟩:=⟨_,rfl⟩
   rw [<- hmd] at hmi
   have hmdv : Hid (md.t = mt /\ md.v0 = .int .i64 r' /\ md.v1 = .int .i64 a' /\ md.v2 = .int .i64 b' /\ md.v3 = .slice A' s'.length c'):=Hd (by rw [hmd]; exact ⟨rfl,rfl,rfl,rfl,rfl⟩)
   clear hmd
   have hbb':=Hd (hba'.out.trans (hbb.mono hba'.out.size))
   have hmi' : Hid (mtIn (fun b=>W6.heap.size <= b) wb md):=Hd (mtIn_inner.keep hmi (Keeps.of_below (Below.refl _ _) _) (fun b _ h=>Nat.le_trans hba'.out.size h))
   clear hbb hmi hba'
   unfold MTree.agg
   go_wp2_with fail
   refine hQ2 _ _ rfl (fun w2 h2=>hCC.out w2 (hbb'.out.trans (h2.mono hbb'.out.size))) ?_
   clear hQ2
   refine mkTL_cons rfl fun wc hbc Q2 hQ2=>?_
   obtain ⟨wd,hwd⟩ : ∃ wd,wd = wc.alloc (.cells #[.int .i64 0,.int .i64 0,.int .i64 0,.slice none 0 0] 34):=⟨_,rfl⟩
   have hbc':=Hd (hbb'.out.trans (hbc.mono hbb'.out.size))
   have hbd : Hid (Below W6.heap.size W6 wd):=Hd (by rw [hwd]; exact hbc'.out.alloc hbc'.out.size _)
   have kZ : Hid (Blk wd wc.heap.size 34 #[.int .i64 0,.int .i64 0,.int .i64 0,.slice none 0 0]):=Hd (by rw [hwd]; exact Blk.new _ _ _)
   have hmd' : Hid (mtIn (fun b=>W6.heap.size <= b) wd md):=Hd (mtIn_inner.keep (mtIn_inner.keep hmi'.out (Keeps.of_below hbc _) (fun _ _ h=>h)) (Keeps.of_below (by rw [hwd]; exact (Below.refl _ _).alloc (lQ _) _) _) (fun _ _ h=>h))
   clear hbc hbc' hmi' hbb'
   go_wp2_with fail
   rw [<- hwd]
   clear hwd
   generalize wc.heap.size = ZB at *
   refine hQ2 _ _ rfl (fun w2 h2=>hCC.out w2 (hbd.out.trans (h2.mono hbd.out.size))) ?_
   clear hQ2
   refine mkTL_cons rfl fun we hbe Q2 hQ2=>?_
   have hbe':=Hd (hbd.out.trans (hbe.mono hbd.out.size))
   have kZe:=Hd (kZ.out.below hbe kZ.out.lt)
   have hme:=Hd (mtIn_inner.keep hmd'.out (Keeps.of_below hbe _) (fun _ _ h=>h))
   have hoe:=Hd (row_below hvO.out.1 hbe'.out)
   have hWe : W5.heap.size <= we.heap.size:=by have:=hbe'.out.size; have:=hTW.out; omega
   clear hbe hbd hmd' kZ
   have sd1 : ms.length + 1 <= maxLen:=by unfold maxLen; omega
   have sd4 : (ms.length + 1) * 48 <= 140737488355328:=by omega
   (refine wpList_append_lies _ rfl (.tmp 33) (.tmp 37) 30 rfl W5.heap.size 34 i34 (.agg #[.int .i64 0,.int .i64 0,.int .i64 0,.slice none 0 0]) 4 48 Tryz.underlying30 hi34 hz0 hz1 hz2 rfl (by decide) (.slice Av ms.length cv) ms.length (ms.flatMap mtCells) rfl (by exact hoe.out) ⟨ZB,0,none⟩ 1 1 [.int .i64 0,.int .i64 0,.int .i64 0,.slice none 0 0] rfl rfl (by exact World.news_of_block (cs:=#[.int .i64 0,.int .i64 0,.int .i64 0,.slice none 0 0]) kZe.out) (by exact one4 rfl rfl rfl rfl) Nat.one_pos sd1 sd4 hWe we.heap.size rfl ?_; intro g9 cap9 w9 hown9 hgr9 hat9 hlt9)
   have hgr9':=Hd hgr9
   have hat9':=Hd hat9
   have hg9 : Hid (W5.heap.size <= g9):=Hd (hown9.lt g9 rfl).1
   have hTo : Hid (some TB ≠ (Value.slice Av ms.length cv).ownBlock):=Hd (fun e=>by have:=(hown.out TB e.symm).1; omega)
   have hC9 : Hid (∀ w2,Below w9.heap.size w9 w2 -> (w2.cell? ⟨TB,0,none⟩ = some (.slice Av ms.length cv) /\ w2.cell? ⟨PB,0,none⟩ = some (.int .i64 r)) /\ (w2.cell? ⟨PB,1,none⟩ = some (.int .i64 a) /\ w2.cell? ⟨PB,2,none⟩ = some (.int .i64 b)) /\ w2.cell? ⟨PB,3,none⟩ = some (.slice Ax sub.length cx)):=Hd fun w2 hb=>by
    have hq:=hCC.out we hbe'.out
    have hPo : some PB ≠ (Value.slice Av ms.length cv).ownBlock:=fun e=>hPOn.out.2 e.symm
    have t0:=hgr9'.out.cell hq.1.1 hTo.out
    have t1:=hgr9'.out.cell hq.1.2 hPo
    have t2:=hgr9'.out.cell hq.2.1.1 hPo
    have t3:=hgr9'.out.cell hq.2.1.2 hPo
    have t4:=hgr9'.out.cell hq.2.2 hPo
    exact ⟨⟨(hb.cell (p:=⟨TB,0,none⟩) (cell_lt t0)).trans t0,(hb.cell (p:=⟨PB,0,none⟩) (cell_lt t1)).trans t1⟩,⟨(hb.cell (p:=⟨PB,1,none⟩) (cell_lt t2)).trans t2,(hb.cell (p:=⟨PB,2,none⟩) (cell_lt t3)).trans t3⟩,(hb.cell (p:=⟨PB,3,none⟩) (cell_lt t4)).trans t4⟩
   have hS9 : Hid (TailS w9 W5.heap.size g9 ms.length cap9 TB (ms.flatMap mtCells) [.int .i64 0,.int .i64 0,.int .i64 0,.slice none 0 0] (.slice Av ms.length cv) w9):=Hd (TailS.start hown9 ((hi4.out.below hbe'.out hi4.out.lt).grown hgr9'.out hTo.out))
   have hxl : Hid ((ms.flatMap mtCells).length = ms.length * 4):=Hd hvO.out.1.1
   have hgT : Hid (TB ≠ g9):=Hd (by have:=hg9.out; omega)
   have hrow9:=Hd hown9
   have hbx9 : Hid (Blk w9 TB 30 #[.slice Av ms.length cv]):=Hd hS9.out.box
   clear hown9 hgr9 hat9
   apply wpList_nil
   refine hQ2 _ _ rfl (fun w2 h2=>hC9.out w2 h2) ?_
   clear hQ2 hC9
   intro w10 hb10
   have hS:=Hd (hS9.out.below hb10)
   clear hb10 hS9
   have n0 : (0 : Int) <= (ms.length : Int):=by omega
   have n1 : (ms.length : Int) < ((ms.length + 1 : Nat) : Int):=by omega
   simp only [List.length_cons,List.length_nil,List.size_toArray,Nat.reduceAdd]
   have hfin : Hid (∀ w12,TailS w9 W5.heap.size g9 ms.length cap9 TB (ms.flatMap mtCells) [.int .i64 r',.int .i64 a',.int .i64 b',.slice A' s'.length c'] (.slice (some ⟨g9,0,none⟩) (ms.length + 1) cap9) w12 -> FinT d w W5 W6 MB TB p1 p2 p3 p4 tk.length most (pre ++ [mt]) (.slice Av ms.length cv) (.slice (some ⟨g9,0,none⟩) (ms.length + 1) cap9) w12):=Hd fun w12 hT=>by
    rw [<- hmdv.out.2.1,<- hmdv.out.2.2.1,<- hmdv.out.2.2.2.1,<- hmdv.out.2.2.2.2] at hT
    obtain ⟨k1,k2,k3,k4,k5⟩:=trees_put hbe'.out hvO.out hi4.out hT5 hTW.out.2.2 hme.out (TailS.row (TailS.start (w:=w9) (bx:=.slice Av ms.length cv) hrow9.out hbx9.out)) hgr9'.out (hat9'.out.imp_right (fun e=>by rw [e]; exact lQ _)) hT
    have hTo2 : ∀ b,boxO TB (.slice Av ms.length cv) b -> b = TB \/ W5.heap.size <= b:=fun b h=>h.imp id fun h=>(hown.out b h).1
    refine ⟨k4,k5,k1,hv.out.moved k1 k4 (fun b h1 h2=>?_),k1.books (boxO_books hi4.out hvO.out.1) _,⟨k1.below hi1.out (lQ _) (fun b hb h=>?_),k1.blk hi2.out (fun h=>?_),_,ms ++ [md],k2,k3,?_,rfl⟩⟩
    ·have hx:=hMMx.out b h1
     rcases hTo2 b h2 with h2 | h2
     ·exact hx.2.2.2 h2
     ·omega
    ·have:=hTW.out
     have:=hw5.out
     have:=hTw.out
     rcases hTo2 b h with h | h <;> omega
    ·have:=hMT.out
     have:=hM5l.out
     rcases hTo2 MB h with h | h <;> omega
    ·rw [List.map_append,hi6.out,List.map_cons,List.map_nil,hmdv.out.1]
   clear hmdv hme hoe kZe hbe' hat9'
   refine anyIn_pick [6,8] (by kernel_rfl) (by decide) (pick_cons ?b6 (pick_cons ?b8 pick_nil))
   case b6=>
    refine opIn_list rfl (by kernel_rfl) rfl (fun ⟨_,_,h⟩=>h) fun Q2 hQ2=>?_
    go_wp2_with fail
    refine hQ2 _ _ rfl ?_
    clear hQ2
    refine anyIn_pick [7,8] (by kernel_rfl) (by decide) (pick_cons ?b67 (pick_cons ?b68 pick_nil))
    case b67=>
     refine opIn_list rfl (by kernel_rfl) rfl (fun ⟨_,_,h⟩=>h) fun Q2 hQ2=>?_
     have hS1:=Hd (hS.out.put4 hgT.out hxl.out (.int .i64 r') (.int .i64 a') (.int .i64 b') (.slice A' s'.length c'))
     refine wpList_store_mid rfl 34 (.tmp 39) (.tmp 35) rfl g9 (ms.length * 4) #[.int .i64 r',.int .i64 a',.int .i64 b',.slice A' s'.length c'] rfl rfl (hS.out.there hxl.out) (by kernel_rfl) (by kernel_rfl) ?_
     rw [show World.setCells w10 g9 (ms.length * 4) #[Value.int .i64 r',.int .i64 a',.int .i64 b',.slice A' s'.length c'].toList = set4 w10 g9 (ms.length * 4) (.int .i64 r') (.int .i64 a') (.int .i64 b') (.slice A' s'.length c') from rfl]
     generalize set4 w10 g9 (ms.length * 4) (.int .i64 r') (.int .i64 a') (.int .i64 b') (.slice A' s'.length c') = w11 at *
     clear hS
     apply wpList_nil
     simp only [Act.put]
     refine hQ2 _ _ rfl ?_
     clear hQ2
     refine anyIn_pick [8] (by kernel_rfl) (by decide) (pick_cons ?_ pick_nil)
     refine opIn_list rfl (by kernel_rfl) rfl (fun ⟨_,_,h⟩=>h) fun Q2 hQ2=>?_
     have hS2:=Hd (hS1.out.putBox hgT.out (.slice (some ⟨g9,0,none⟩) (ms.length + 1) cap9))
     have y0:=hS1.out.box.cell 0
     have y1:=hS1.out.box.frozen 0
     have y2:=hS1.out.box.lt
     simp at y0
     go_wp2_with fail
     clear y0 y1 y2
     generalize w11.setCell ⟨TB,0,none⟩ (.slice (some ⟨g9,0,none⟩) (ms.length + 1) cap9) = w12 at *
     clear hS1
     refine hQ2 _ _ rfl ?_
     clear hQ2
     refine anyIn_done (by kernel_rfl) ?_
     have hF:=Hd (hfin.out w12 hS2.out)
     have z0:=hS2.out.box.cell 0
     have z1:=hF.out.it.2.1.cell 0
     simp at z0 z1
     clear hfin hS2
     by_cases hlast : ms.length + 1 = most
     ·have hl1 : (((ms.length + 1 : Nat) : Int) == (most : Int)) = true:=by rw [beq_iff_eq]; omega
      replace hlast:=Hd hlast
      gi_wp2_with (fail)
      exact hF.out.stop (by rw [List.length_append,<- hlen.out]; exact hlast.out)
     ·have hl1 : (((ms.length + 1 : Nat) : Int) == (most : Int)) = false:=by rw [beq_eq_false_iff_ne]; omega
      have hlt : Hid (ms.length + 1 < most):=Hd (by have:=hlen.out; omega)
      replace hlast:=Hd hlast
      gi_wp2_with (fail)
      exact hF.out.go (by rw [List.length_append,<- hlen.out]; exact hlt.out)
    case b68=>
     refine opIn_list rfl (by kernel_rfl) rfl (fun ⟨_,_,h⟩=>h) fun Q2 hQ2=>?_
     have hS1:=Hd (hS.out.putBox hgT.out (.slice (some ⟨g9,0,none⟩) (ms.length + 1) cap9))
     have y0:=hS.out.box.cell 0
     have y1:=hS.out.box.frozen 0
     have y2:=hS.out.box.lt
     simp at y0
     go_wp2_with fail
     clear y0 y1 y2
     generalize w10.setCell ⟨TB,0,none⟩ (.slice (some ⟨g9,0,none⟩) (ms.length + 1) cap9) = w11 at *
     clear hS
     refine hQ2 _ _ rfl ?_
     clear hQ2
     refine anyIn_pick [7] (by kernel_rfl) (by decide) (pick_cons ?_ pick_nil)
     refine opIn_list rfl (by kernel_rfl) rfl (fun ⟨_,_,h⟩=>h) fun Q2 hQ2=>?_
     have hS2:=Hd (hS1.out.put4 hgT.out hxl.out (.int .i64 r') (.int .i64 a') (.int .i64 b') (.slice A' s'.length c'))
     refine wpList_store_mid rfl 34 (.tmp 39) (.tmp 35) rfl g9 (ms.length * 4) #[.int .i64 r',.int .i64 a',.int .i64 b',.slice A' s'.length c'] rfl rfl (hS1.out.there hxl.out) (by kernel_rfl) (by kernel_rfl) ?_
     rw [show World.setCells w11 g9 (ms.length * 4) #[Value.int .i64 r',.int .i64 a',.int .i64 b',.slice A' s'.length c'].toList = set4 w11 g9 (ms.length * 4) (.int .i64 r') (.int .i64 a') (.int .i64 b') (.slice A' s'.length c') from rfl]
     generalize set4 w11 g9 (ms.length * 4) (.int .i64 r') (.int .i64 a') (.int .i64 b') (.slice A' s'.length c') = w12 at *
     clear hS1
     apply wpList_nil
     simp only [Act.put]
     refine hQ2 _ _ rfl ?_
     clear hQ2
     refine anyIn_done (by kernel_rfl) ?_
     have hF:=Hd (hfin.out w12 hS2.out)
     have z0:=hS2.out.box.cell 0
     have z1:=hF.out.it.2.1.cell 0
     simp at z0 z1
     clear hfin hS2
     by_cases hlast : ms.length + 1 = most
     ·have hl1 : (((ms.length + 1 : Nat) : Int) == (most : Int)) = true:=by rw [beq_iff_eq]; omega
      replace hlast:=Hd hlast
      gi_wp2_with (fail)
      exact hF.out.stop (by rw [List.length_append,<- hlen.out]; exact hlast.out)
     ·have hl1 : (((ms.length + 1 : Nat) : Int) == (most : Int)) = false:=by rw [beq_eq_false_iff_ne]; omega
      have hlt : Hid (ms.length + 1 < most):=Hd (by have:=hlen.out; omega)
      replace hlast:=Hd hlast
      gi_wp2_with (fail)
      exact hF.out.go (by rw [List.length_append,<- hlen.out]; exact hlt.out)
   case b8=>
    refine opIn_list rfl (by kernel_rfl) rfl (fun ⟨_,_,h⟩=>h) fun Q2 hQ2=>?_
    have hS1:=Hd (hS.out.putBox hgT.out (.slice (some ⟨g9,0,none⟩) (ms.length + 1) cap9))
    have y0:=hS.out.box.cell 0
    have y1:=hS.out.box.frozen 0
    have y2:=hS.out.box.lt
    simp at y0
    go_wp2_with fail
    clear y0 y1 y2
    generalize w10.setCell ⟨TB,0,none⟩ (.slice (some ⟨g9,0,none⟩) (ms.length + 1) cap9) = w11 at *
    clear hS
    refine hQ2 _ _ rfl ?_
    clear hQ2
    refine anyIn_pick [6] (by kernel_rfl) (by decide) (pick_cons ?_ pick_nil)
    refine opIn_list rfl (by kernel_rfl) rfl (fun ⟨_,_,h⟩=>h) fun Q2 hQ2=>?_
    go_wp2_with fail
    refine hQ2 _ _ rfl ?_
    clear hQ2
    refine anyIn_pick [7] (by kernel_rfl) (by decide) (pick_cons ?_ pick_nil)
    refine opIn_list rfl (by kernel_rfl) rfl (fun ⟨_,_,h⟩=>h) fun Q2 hQ2=>?_
    have hS2:=Hd (hS1.out.put4 hgT.out hxl.out (.int .i64 r') (.int .i64 a') (.int .i64 b') (.slice A' s'.length c'))
    refine wpList_store_mid rfl 34 (.tmp 39) (.tmp 35) rfl g9 (ms.length * 4) #[.int .i64 r',.int .i64 a',.int .i64 b',.slice A' s'.length c'] rfl rfl (hS1.out.there hxl.out) (by kernel_rfl) (by kernel_rfl) ?_
    rw [show World.setCells w11 g9 (ms.length * 4) #[Value.int .i64 r',.int .i64 a',.int .i64 b',.slice A' s'.length c'].toList = set4 w11 g9 (ms.length * 4) (.int .i64 r') (.int .i64 a') (.int .i64 b') (.slice A' s'.length c') from rfl]
    generalize set4 w11 g9 (ms.length * 4) (.int .i64 r') (.int .i64 a') (.int .i64 b') (.slice A' s'.length c') = w12 at *
    clear hS1
    apply wpList_nil
    simp only [Act.put]
    refine hQ2 _ _ rfl ?_
    clear hQ2
    refine anyIn_done (by kernel_rfl) ?_
    have hF:=Hd (hfin.out w12 hS2.out)
    have z0:=hS2.out.box.cell 0
    have z1:=hF.out.it.2.1.cell 0
    simp at z0 z1
    clear hfin hS2
    by_cases hlast : ms.length + 1 = most
    ·have hl1 : (((ms.length + 1 : Nat) : Int) == (most : Int)) = true:=by rw [beq_iff_eq]; omega
     replace hlast:=Hd hlast
     gi_wp2_with (fail)
     exact hF.out.stop (by rw [List.length_append,<- hlen.out]; exact hlast.out)
    ·have hl1 : (((ms.length + 1 : Nat) : Int) == (most : Int)) = false:=by rw [beq_eq_false_iff_ne]; omega
     have hlt : Hid (ms.length + 1 < most):=Hd (by have:=hlen.out; omega)
     replace hlast:=Hd hlast
     gi_wp2_with (fail)
     exact hF.out.go (by rw [List.length_append,<- hlen.out]; exact hlt.out)
  case o2=>
   try simp only [Act.put,sX,sS,sZ]
   refine mkTL_cons rfl fun wc hbc Q2 hQ2=>?_
   obtain ⟨wd,hwd⟩ : ∃ wd,wd = wc.alloc (.cells #[.int .i64 0,.int .i64 0,.int .i64 0,.slice none 0 0] 34):=⟨_,rfl⟩
   have hbd1 : Hid (Below W6.heap.size W6 wd):=Hd (by rw [hwd]; exact hbc.alloc hbc.size _)
   have kZ1 : Hid (Blk wd wc.heap.size 34 #[.int .i64 0,.int .i64 0,.int .i64 0,.slice none 0 0]):=Hd (by rw [hwd]; exact Blk.new _ _ _)
   clear hbc
   go_wp2_with fail
   rw [<- hwd]
   clear hwd
   generalize wc.heap.size = ZB at *
   refine hQ2 _ _ rfl (fun w2 h2=>hCC.out w2 (hbd1.out.trans (h2.mono hbd1.out.size))) ?_
   clear hQ2
   refine mkTL_cons rfl fun wa hba Q2 hQ2=>?_
   have hba':=Hd (hbd1.out.trans (hba.mono hbd1.out.size))
   have kZ2:=Hd (kZ1.out.below hba kZ1.out.lt)
   have hcopy:=Hd (copied_any D x _ wa hxm.1 hxm.2 (TrAt.keep (CKp.of_below hba'.out _) (fun b h=>h.elim) x _ hxt.out))
   clear hba kZ1 hbd1
   go_wp2_with fail
   refine hcopy.out.mono ?_
   rintro e wb ⟨m,rfl,hmx,hmi,hbb⟩
   clear hcopy
   obtain ⟨mt,m0,m1,m2,m3⟩:=m
   simp only at hmx
   subst hmx
   obtain ⟨r',a',b',s',sv',-,ev,A',c',rfl,-⟩:=hmi.sub
   simp only [MTree.agg,Value.agg.injEq,Array.mk.injEq,List.cons.injEq,and_true] at ev
   obtain ⟨rfl,rfl,rfl,rfl⟩:=ev
   obtain ⟨md,hmd⟩ : ∃ md : MTree,md = ⟨mt,.int .i64 r',.int .i64 a',.int .i64 b',.slice A' s'.length c'⟩:=⟨_,rfl⟩
   rw [<- hmd] at hmi
   have hmdv : Hid (md.t = mt /\ md.v0 = .int .i64 r' /\ md.v1 = .int .i64 a' /\ md.v2 = .int .i64 b' /\ md.v3 = .slice A' s'.length c'):=Hd (by rw [hmd]; exact ⟨rfl,rfl,rfl,rfl,rfl⟩)
   clear hmd
   have hbd:=Hd (hba'.out.trans (hbb.mono hba'.out.size))
   have kZ:=Hd (kZ2.out.below hbb kZ2.out.lt)
   have hmd' : Hid (mtIn (fun b=>W6.heap.size <= b) wb md):=Hd (mtIn_inner.keep hmi (Keeps.of_below (Below.refl _ _) _) (fun b _ h=>Nat.le_trans hba'.out.size h))
   clear hbb hmi hba' kZ2
   unfold MTree.agg
   go_wp2_with fail
   refine hQ2 _ _ rfl (fun w2 h2=>hCC.out w2 (hbd.out.trans (h2.mono hbd.out.size))) ?_
   clear hQ2
   refine mkTL_cons rfl fun we hbe Q2 hQ2=>?_
   have hbe':=Hd (hbd.out.trans (hbe.mono hbd.out.size))
   have kZe:=Hd (kZ.out.below hbe kZ.out.lt)
   have hme:=Hd (mtIn_inner.keep hmd'.out (Keeps.of_below hbe _) (fun _ _ h=>h))
   have hoe:=Hd (row_below hvO.out.1 hbe'.out)
   have hWe : W5.heap.size <= we.heap.size:=by have:=hbe'.out.size; have:=hTW.out; omega
   clear hbe hbd hmd' kZ
   have sd1 : ms.length + 1 <= maxLen:=by unfold maxLen; omega
   have sd4 : (ms.length + 1) * 48 <= 140737488355328:=by omega
   (refine wpList_append_lies _ rfl (.tmp 33) (.tmp 37) 30 rfl W5.heap.size 34 i34 (.agg #[.int .i64 0,.int .i64 0,.int .i64 0,.slice none 0 0]) 4 48 Tryz.underlying30 hi34 hz0 hz1 hz2 rfl (by decide) (.slice Av ms.length cv) ms.length (ms.flatMap mtCells) rfl (by exact hoe.out) ⟨ZB,0,none⟩ 1 1 [.int .i64 0,.int .i64 0,.int .i64 0,.slice none 0 0] rfl rfl (by exact World.news_of_block (cs:=#[.int .i64 0,.int .i64 0,.int .i64 0,.slice none 0 0]) kZe.out) (by exact one4 rfl rfl rfl rfl) Nat.one_pos sd1 sd4 hWe we.heap.size rfl ?_; intro g9 cap9 w9 hown9 hgr9 hat9 hlt9)
   have hgr9':=Hd hgr9
   have hat9':=Hd hat9
   have hg9 : Hid (W5.heap.size <= g9):=Hd (hown9.lt g9 rfl).1
   have hTo : Hid (some TB ≠ (Value.slice Av ms.length cv).ownBlock):=Hd (fun e=>by have:=(hown.out TB e.symm).1; omega)
   have hC9 : Hid (∀ w2,Below w9.heap.size w9 w2 -> (w2.cell? ⟨TB,0,none⟩ = some (.slice Av ms.length cv) /\ w2.cell? ⟨PB,0,none⟩ = some (.int .i64 r)) /\ (w2.cell? ⟨PB,1,none⟩ = some (.int .i64 a) /\ w2.cell? ⟨PB,2,none⟩ = some (.int .i64 b)) /\ w2.cell? ⟨PB,3,none⟩ = some (.slice Ax sub.length cx)):=Hd fun w2 hb=>by
    have hq:=hCC.out we hbe'.out
    have hPo : some PB ≠ (Value.slice Av ms.length cv).ownBlock:=fun e=>hPOn.out.2 e.symm
    have t0:=hgr9'.out.cell hq.1.1 hTo.out
    have t1:=hgr9'.out.cell hq.1.2 hPo
    have t2:=hgr9'.out.cell hq.2.1.1 hPo
    have t3:=hgr9'.out.cell hq.2.1.2 hPo
    have t4:=hgr9'.out.cell hq.2.2 hPo
    exact ⟨⟨(hb.cell (p:=⟨TB,0,none⟩) (cell_lt t0)).trans t0,(hb.cell (p:=⟨PB,0,none⟩) (cell_lt t1)).trans t1⟩,⟨(hb.cell (p:=⟨PB,1,none⟩) (cell_lt t2)).trans t2,(hb.cell (p:=⟨PB,2,none⟩) (cell_lt t3)).trans t3⟩,(hb.cell (p:=⟨PB,3,none⟩) (cell_lt t4)).trans t4⟩
   have hS9 : Hid (TailS w9 W5.heap.size g9 ms.length cap9 TB (ms.flatMap mtCells) [.int .i64 0,.int .i64 0,.int .i64 0,.slice none 0 0] (.slice Av ms.length cv) w9):=Hd (TailS.start hown9 ((hi4.out.below hbe'.out hi4.out.lt).grown hgr9'.out hTo.out))
   have hxl : Hid ((ms.flatMap mtCells).length = ms.length * 4):=Hd hvO.out.1.1
   have hgT : Hid (TB ≠ g9):=Hd (by have:=hg9.out; omega)
   have hrow9:=Hd hown9
   have hbx9 : Hid (Blk w9 TB 30 #[.slice Av ms.length cv]):=Hd hS9.out.box
   clear hown9 hgr9 hat9
   apply wpList_nil
   refine hQ2 _ _ rfl (fun w2 h2=>hC9.out w2 h2) ?_
   clear hQ2 hC9
   intro w10 hb10
   have hS:=Hd (hS9.out.below hb10)
   clear hb10 hS9
   have n0 : (0 : Int) <= (ms.length : Int):=by omega
   have n1 : (ms.length : Int) < ((ms.length + 1 : Nat) : Int):=by omega
   simp only [List.length_cons,List.length_nil,List.size_toArray,Nat.reduceAdd]
   have hfin : Hid (∀ w12,TailS w9 W5.heap.size g9 ms.length cap9 TB (ms.flatMap mtCells) [.int .i64 r',.int .i64 a',.int .i64 b',.slice A' s'.length c'] (.slice (some ⟨g9,0,none⟩) (ms.length + 1) cap9) w12 -> FinT d w W5 W6 MB TB p1 p2 p3 p4 tk.length most (pre ++ [mt]) (.slice Av ms.length cv) (.slice (some ⟨g9,0,none⟩) (ms.length + 1) cap9) w12):=Hd fun w12 hT=>by
    rw [<- hmdv.out.2.1,<- hmdv.out.2.2.1,<- hmdv.out.2.2.2.1,<- hmdv.out.2.2.2.2] at hT
    obtain ⟨k1,k2,k3,k4,k5⟩:=trees_put hbe'.out hvO.out hi4.out hT5 hTW.out.2.2 hme.out (TailS.row (TailS.start (w:=w9) (bx:=.slice Av ms.length cv) hrow9.out hbx9.out)) hgr9'.out (hat9'.out.imp_right (fun e=>by rw [e]; exact lQ _)) hT
    have hTo2 : ∀ b,boxO TB (.slice Av ms.length cv) b -> b = TB \/ W5.heap.size <= b:=fun b h=>h.imp id fun h=>(hown.out b h).1
    refine ⟨k4,k5,k1,hv.out.moved k1 k4 (fun b h1 h2=>?_),k1.books (boxO_books hi4.out hvO.out.1) _,⟨k1.below hi1.out (lQ _) (fun b hb h=>?_),k1.blk hi2.out (fun h=>?_),_,ms ++ [md],k2,k3,?_,rfl⟩⟩
    ·have hx:=hMMx.out b h1
     rcases hTo2 b h2 with h2 | h2
     ·exact hx.2.2.2 h2
     ·omega
    ·have:=hTW.out
     have:=hw5.out
     have:=hTw.out
     rcases hTo2 b h with h | h <;> omega
    ·have:=hMT.out
     have:=hM5l.out
     rcases hTo2 MB h with h | h <;> omega
    ·rw [List.map_append,hi6.out,List.map_cons,List.map_nil,hmdv.out.1]
   clear hmdv hme hoe kZe hbe' hat9'
   refine anyIn_pick [6,8] (by kernel_rfl) (by decide) (pick_cons ?c6 (pick_cons ?c8 pick_nil))
   case c6=>
    refine opIn_list rfl (by kernel_rfl) rfl (fun ⟨_,_,h⟩=>h) fun Q2 hQ2=>?_
    go_wp2_with fail
    refine hQ2 _ _ rfl ?_
    clear hQ2
    refine anyIn_pick [7,8] (by kernel_rfl) (by decide) (pick_cons ?c67 (pick_cons ?c68 pick_nil))
    case c67=>
     refine opIn_list rfl (by kernel_rfl) rfl (fun ⟨_,_,h⟩=>h) fun Q2 hQ2=>?_
     have hS1:=Hd (hS.out.put4 hgT.out hxl.out (.int .i64 r') (.int .i64 a') (.int .i64 b') (.slice A' s'.length c'))
     refine wpList_store_mid rfl 34 (.tmp 39) (.tmp 35) rfl g9 (ms.length * 4) #[.int .i64 r',.int .i64 a',.int .i64 b',.slice A' s'.length c'] rfl rfl (hS.out.there hxl.out) (by kernel_rfl) (by kernel_rfl) ?_
     rw [show World.setCells w10 g9 (ms.length * 4) #[Value.int .i64 r',.int .i64 a',.int .i64 b',.slice A' s'.length c'].toList = set4 w10 g9 (ms.length * 4) (.int .i64 r') (.int .i64 a') (.int .i64 b') (.slice A' s'.length c') from rfl]
     generalize set4 w10 g9 (ms.length * 4) (.int .i64 r') (.int .i64 a') (.int .i64 b') (.slice A' s'.length c') = w11 at *
     clear hS
     apply wpList_nil
     simp only [Act.put]
     refine hQ2 _ _ rfl ?_
     clear hQ2
     refine anyIn_pick [8] (by kernel_rfl) (by decide) (pick_cons ?_ pick_nil)
     refine opIn_list rfl (by kernel_rfl) rfl (fun ⟨_,_,h⟩=>h) fun Q2 hQ2=>?_
     have hS2:=Hd (hS1.out.putBox hgT.out (.slice (some ⟨g9,0,none⟩) (ms.length + 1) cap9))
     have y0:=hS1.out.box.cell 0
     have y1:=hS1.out.box.frozen 0
     have y2:=hS1.out.box.lt
     simp at y0
     go_wp2_with fail
     clear y0 y1 y2
     generalize w11.setCell ⟨TB,0,none⟩ (.slice (some ⟨g9,0,none⟩) (ms.length + 1) cap9) = w12 at *
     clear hS1
     refine hQ2 _ _ rfl ?_
     clear hQ2
     refine anyIn_done (by kernel_rfl) ?_
     have hF:=Hd (hfin.out w12 hS2.out)
     have z0:=hS2.out.box.cell 0
     have z1:=hF.out.it.2.1.cell 0
     simp at z0 z1
     clear hfin hS2
     by_cases hlast : ms.length + 1 = most
     ·have hl1 : (((ms.length + 1 : Nat) : Int) == (most : Int)) = true:=by rw [beq_iff_eq]; omega
      replace hlast:=Hd hlast
      gi_wp2_with (fail)
      exact hF.out.stop (by rw [List.length_append,<- hlen.out]; exact hlast.out)
     ·have hl1 : (((ms.length + 1 : Nat) : Int) == (most : Int)) = false:=by rw [beq_eq_false_iff_ne]; omega
      have hlt : Hid (ms.length + 1 < most):=Hd (by have:=hlen.out; omega)
      replace hlast:=Hd hlast
      gi_wp2_with (fail)
      exact hF.out.go (by rw [List.length_append,<- hlen.out]; exact hlt.out)
    case c68=>
     refine opIn_list rfl (by kernel_rfl) rfl (fun ⟨_,_,h⟩=>h) fun Q2 hQ2=>?_
     have hS1:=Hd (hS.out.putBox hgT.out (.slice (some ⟨g9,0,none⟩) (ms.length + 1) cap9))
     have y0:=hS.out.box.cell 0
     have y1:=hS.out.box.frozen 0
     have y2:=hS.out.box.lt
     simp at y0
     go_wp2_with fail
     clear y0 y1 y2
     generalize w10.setCell ⟨TB,0,none⟩ (.slice (some ⟨g9,0,none⟩) (ms.length + 1) cap9) = w11 at *
     clear hS
     refine hQ2 _ _ rfl ?_
     clear hQ2
     refine anyIn_pick [7] (by kernel_rfl) (by decide) (pick_cons ?_ pick_nil)
     refine opIn_list rfl (by kernel_rfl) rfl (fun ⟨_,_,h⟩=>h) fun Q2 hQ2=>?_
     have hS2:=Hd (hS1.out.put4 hgT.out hxl.out (.int .i64 r') (.int .i64 a') (.int .i64 b') (.slice A' s'.length c'))
     refine wpList_store_mid rfl 34 (.tmp 39) (.tmp 35) rfl g9 (ms.length * 4) #[.int .i64 r',.int .i64 a',.int .i64 b',.slice A' s'.length c'] rfl rfl (hS1.out.there hxl.out) (by kernel_rfl) (by kernel_rfl) ?_
     rw [show World.setCells w11 g9 (ms.length * 4) #[Value.int .i64 r',.int .i64 a',.int .i64 b',.slice A' s'.length c'].toList = set4 w11 g9 (ms.length * 4) (.int .i64 r') (.int .i64 a') (.int .i64 b') (.slice A' s'.length c') from rfl]
     generalize set4 w11 g9 (ms.length * 4) (.int .i64 r') (.int .i64 a') (.int .i64 b') (.slice A' s'.length c') = w12 at *
     clear hS1
     apply wpList_nil
     simp only [Act.put]
     refine hQ2 _ _ rfl ?_
     clear hQ2
     refine anyIn_done (by kernel_rfl) ?_
     have hF:=Hd (hfin.out w12 hS2.out)
     have z0:=hS2.out.box.cell 0
     have z1:=hF.out.it.2.1.cell 0
     simp at z0 z1
     clear hfin hS2
     by_cases hlast : ms.length + 1 = most
     ·have hl1 : (((ms.length + 1 : Nat) : Int) == (most : Int)) = true:=by rw [beq_iff_eq]; omega
      replace hlast:=Hd hlast
      gi_wp2_with (fail)
      exact hF.out.stop (by rw [List.length_append,<- hlen.out]; exact hlast.out)
     ·have hl1 : (((ms.length + 1 : Nat) : Int) == (most : Int)) = false:=by rw [beq_eq_false_iff_ne]; omega
      have hlt : Hid (ms.length + 1 < most):=Hd (by have:=hlen.out; omega)
      replace hlast:=Hd hlast
      gi_wp2_with (fail)
      exact hF.out.go (by rw [List.length_append,<- hlen.out]; exact hlt.out)
   case c8=>
    refine opIn_list rfl (by kernel_rfl) rfl (fun ⟨_,_,h⟩=>h) fun Q2 hQ2=>?_
    have hS1:=Hd (hS.out.putBox hgT.out (.slice (some ⟨g9,0,none⟩) (ms.length + 1) cap9))
    have y0:=hS.out.box.cell 0
    have y1:=hS.out.box.frozen 0
    have y2:=hS.out.box.lt
    simp at y0
    go_wp2_with fail
    clear y0 y1 y2
    generalize w10.setCell ⟨TB,0,none⟩ (.slice (some ⟨g9,0,none⟩) (ms.length + 1) cap9) = w11 at *
    clear hS
    refine hQ2 _ _ rfl ?_
    clear hQ2
    refine anyIn_pick [6] (by kernel_rfl) (by decide) (pick_cons ?_ pick_nil)
    refine opIn_list rfl (by kernel_rfl) rfl (fun ⟨_,_,h⟩=>h) fun Q2 hQ2=>?_
    go_wp2_with fail
    refine hQ2 _ _ rfl ?_
    clear hQ2
    refine anyIn_pick [7] (by kernel_rfl) (by decide) (pick_cons ?_ pick_nil)
    refine opIn_list rfl (by kernel_rfl) rfl (fun ⟨_,_,h⟩=>h) fun Q2 hQ2=>?_
    have hS2:=Hd (hS1.out.put4 hgT.out hxl.out (.int .i64 r') (.int .i64 a') (.int .i64 b') (.slice A' s'.length c'))
    refine wpList_store_mid rfl 34 (.tmp 39) (.tmp 35) rfl g9 (ms.length * 4) #[.int .i64 r',.int .i64 a',.int .i64 b',.slice A' s'.length c'] rfl rfl (hS1.out.there hxl.out) (by kernel_rfl) (by kernel_rfl) ?_
    rw [show World.setCells w11 g9 (ms.length * 4) #[Value.int .i64 r',.int .i64 a',.int .i64 b',.slice A' s'.length c'].toList = set4 w11 g9 (ms.length * 4) (.int .i64 r') (.int .i64 a') (.int .i64 b') (.slice A' s'.length c') from rfl]
    generalize set4 w11 g9 (ms.length * 4) (.int .i64 r') (.int .i64 a') (.int .i64 b') (.slice A' s'.length c') = w12 at *
    clear hS1
    apply wpList_nil
    simp only [Act.put]
    refine hQ2 _ _ rfl ?_
    clear hQ2
    refine anyIn_done (by kernel_rfl) ?_
    have hF:=Hd (hfin.out w12 hS2.out)
    have z0:=hS2.out.box.cell 0
    have z1:=hF.out.it.2.1.cell 0
    simp at z0 z1
    clear hfin hS2
    by_cases hlast : ms.length + 1 = most
    ·have hl1 : (((ms.length + 1 : Nat) : Int) == (most : Int)) = true:=by rw [beq_iff_eq]; omega
     replace hlast:=Hd hlast
     gi_wp2_with (fail)
     exact hF.out.stop (by rw [List.length_append,<- hlen.out]; exact hlast.out)
    ·have hl1 : (((ms.length + 1 : Nat) : Int) == (most : Int)) = false:=by rw [beq_eq_false_iff_ne]; omega
     have hlt : Hid (ms.length + 1 < most):=Hd (by have:=hlen.out; omega)
     replace hlast:=Hd hlast
     gi_wp2_with (fail)
     exact hF.out.go (by rw [List.length_append,<- hlen.out]; exact hlt.out)
 case done=>
  rintro D' O' W6 hD hO1 hO2 hkc hinv' ⟨⟨h1,h2,v,ms,h4,h5,h6,h7⟩,h8⟩ hdf
  have z0:=h4.cell 0
  simp at z0
  go_wp2_with fail
  have hk : KeepB (fun _=>False) 0 W6 (W6.putObj D' (.deferred none)):=KeepB.put _ hdf rfl (Nat.zero_le _)
  refine leave_mark hdf (results_tmp2 rfl _ _ _) ⟨v,ms,rfl,OwnL.base mtIn_inner (h5.keepB hk (fun _ _ h=>h)) hw5.out,?_,h1.os,h1.tape,h1.output,by simpa using h1.size,fun k hk'=>(World.putObj_heap_other (by have:=hw5.out; omega)).trans (h1.block k hk')⟩
  rw [h6,List.take_of_length_le (by omega)]
 case stop=>
  rintro D' c pre O' W6 hD hO1 hO2 hkc hinv' hpre ⟨rfl,⟨h1,h2,v,ms,h4,h5,h6,h7⟩,h8⟩ hdf
  have z0:=h4.cell 0
  simp at z0
  refine wpIn_wide.2 ?_
  go_wp2_with fail
  have hk : KeepB (fun _=>False) 0 W6 (W6.putObj D' (.deferred none)):=KeepB.put _ hdf rfl (Nat.zero_le _)
  refine leave_mark hdf (results_tmp2 rfl _ _ _) ⟨v,ms,rfl,OwnL.base mtIn_inner (h5.keepB hk (fun _ _ h=>h)) hw5.out,?_,h1.os,h1.tape,h1.output,by simpa using h1.size,fun k hk'=>(World.putObj_heap_other (by have:=hw5.out; omega)).trans (h1.block k hk')⟩
  rw [h6,trees_prefix hpre h8]
end
end Go.Proofs.YteclineblddpbaaGreatDoorR
