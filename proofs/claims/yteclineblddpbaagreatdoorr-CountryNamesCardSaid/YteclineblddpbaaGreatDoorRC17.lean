import Derived.Test.YteclineblddpbaaGreatDoorRC01
import Derived.Test.YteclineblddpbaaGreatDoorRC02
import Derived.Test.YteclineblddpbaaGreatDoorRC11
import Derived.Test.YteclineblddpbaaGreatDoorRC14
import Derived.Test.YteclineblddpbaaGreatDoorRC16
set_option linter.all false
set_option maxRecDepth 100000
set_option maxHeartbeats 0
namespace Go.Proofs.YteclineblddpbaaGreatDoorR
section
open Go Go.RowKit
theorem KeepM.keepC {M : Nat -> Prop} {A B : World} (h : KeepM M A B) : KeepC M A B:=⟨h.1,fun k _ hk _ hn=>(h.2 k (heap_lt hk) hn).trans hk,h.io⟩
theorem KeepM.blk {M : Nat -> Prop} {A B : World} {b : Nat} {t : TypeId} {cs : Array Value} (h : KeepM M A B) (hk : Blk A b t cs) (hb : ¬ M b) : Blk B b t cs:=(h.2 b hk.lt hb).trans hk
theorem KeepM.below {M : Nat -> Prop} {B0 : Nat} {w A B : World} (hw : Below B0 w A) (h : KeepM M A B) (hB : B0 <= w.heap.size) (hM : ∀ b,b < B0 -> ¬ M b) : Below B0 w B:=
 ⟨h.io.1.trans hw.os,h.io.2.1.trans hw.tape,h.io.2.2.trans hw.output,Nat.le_trans hw.size h.1,fun k hk=>(h.2 k (by have:=hw.size; omega) (hM k hk)).trans (hw.block k hk)⟩
def boxO (T : Nat) (v : Value) (b : Nat) : Prop:=b = T \/ v.ownBlock = some b
section
variable {α : Type} {E : TypeId} {n : Nat} {cells : α -> List Value} {I : (Nat -> Prop) -> World -> α -> Prop}
theorem box_append (hI : Inner I) {base T ty g9 m cap9 : Nat} {W wA w9 w10 : World} {cv : Value} {ps : List α} {a : α}
  (hb : Below W.heap.size W wA) (hown : OwnL E n cells I base W cv ps) (hT : Blk W T ty #[cv]) (hTb : T < base) (hbase : base <= W.heap.size)
  (ha : I (fun b=>base <= b /\ some b ≠ cv.ownBlock) wA a)
  (hown9 : w9.ownsRow base E n (.slice (some ⟨g9,0,none⟩) m cap9) m (ps.flatMap cells ++ cells a)) (hm : m = ps.length + 1) (hgr9 : wA.grownBy w9 cv.ownBlock) (hat9 : cv.ownBlock = some g9 \/ wA.heap.size <= g9) (hb10 : Below w9.heap.size w9 w10) :
  KeepM (boxO T cv) W (w10.setCell ⟨T,0,none⟩ (.slice (some ⟨g9,0,none⟩) m cap9)) /\ Blk (w10.setCell ⟨T,0,none⟩ (.slice (some ⟨g9,0,none⟩) m cap9)) T ty #[.slice (some ⟨g9,0,none⟩) m cap9] /\
   OwnL E n cells I base (w10.setCell ⟨T,0,none⟩ (.slice (some ⟨g9,0,none⟩) m cap9)) (.slice (some ⟨g9,0,none⟩) m cap9) (ps ++ [a]) /\
   (∀ b,boxO T (.slice (some ⟨g9,0,none⟩) m cap9) b -> boxO T cv b \/ W.heap.size <= b) /\ (∀ b,boxO T (.slice (some ⟨g9,0,none⟩) m cap9) b -> b < (w10.setCell ⟨T,0,none⟩ (.slice (some ⟨g9,0,none⟩) m cap9)).heap.size):=by
 subst hm
 have hcv : ∀ h,cv.ownBlock = some h -> base <= h:=fun h e=>(hown.1.lt h e).1
 have hTl:=hT.lt
 have hA:=hb.size
 have h9:=hgr9.size
 have h10:=hb10.size
 have hownA : OwnL E n cells I base wA cv ps:=hown.keep hI (Keeps.of_below hb _)
 have happ:=hownA.append hI ha hown9 hgr9 (by
  rcases hat9 with e | e
  ·exact .inl (by rw [e]; rfl)
  ·exact .inr ⟨g9,rfl,e⟩)
 have hT9 : Blk w9 T ty #[cv]:=(hT.below hb hT.lt).grown hgr9 (fun e=>by have:=hcv _ e.symm; omega)
 have hT10 : Blk w10 T ty #[cv]:=hT9.below hb10 hT9.lt
 have hg9 : g9 < w9.heap.size:=(happ.1.lt g9 rfl).2
 refine ⟨⟨by simp [World.setCell]; omega,fun k hk hn=>?_,?_⟩,by have:=hT10.set_ 0 (.slice (some ⟨g9,0,none⟩) (ps.length + 1) cap9); simpa using this,
  (happ.keep hI (Keeps.of_below hb10 _)).keep hI (Keeps.set_ _ _ _ (by simp; omega)),fun b h=>?_,fun b h=>?_⟩
 ·have hkT : k ≠ T:=fun e=>hn (.inl e)
  have hkc : some k ≠ cv.ownBlock:=fun e=>hn (.inr e.symm)
  exact (Below.heap_setCell w10 ⟨T,0,none⟩ _ k hkT).trans ((hb10.block k (by omega)).trans ((hgr9.block k (by omega) hkc).trans (hb.block k hk)))
 ·exact (IoSame.trans (B:=wA) ⟨hb.os,hb.tape,hb.output⟩ (IoSame.trans (B:=w9) ⟨hgr9.os,hgr9.tape,hgr9.output⟩ (IoSame.trans (B:=w10) ⟨hb10.os,hb10.tape,hb10.output⟩ ⟨rfl,rfl,rfl⟩)))
 ·rcases h with h | h
  ·exact .inl (.inl h)
  ·rcases hat9 with e | e
   ·exact .inl (.inr (by rw [e,<- h]; rfl))
   ·refine .inr ?_
    simp only [Value.ownBlock,Option.some.injEq] at h
    omega
 ·have hs : (w10.setCell ⟨T,0,none⟩ (.slice (some ⟨g9,0,none⟩) (ps.length + 1) cap9)).heap.size = w10.heap.size:=by simp [World.setCell]
  rw [hs]
  rcases h with rfl | h
  ·omega
  ·simp only [Value.ownBlock,Option.some.injEq] at h
   omega
end
theorem KeepM.books {M : Nat -> Prop} {A B : World} (h : KeepM M A B) (hM : ∀ k o,M k -> A.heap[k]? = some o -> bookO o = false) (B0 : Nat) : ∀ k o,B0 <= k -> A.heap[k]? = some o -> bookO o = true -> B.heap[k]? = some o:=fun k o _ hk hb=>by
 have hn : ¬ M k:=fun hm=>by rw [hM k o hm hk] at hb; cases hb
 exact (h.2 k (heap_lt hk) hn).trans hk
theorem boxO_books {T ty E n base : Nat} {W : World} {v : Value} {k : Nat} {xs : List Value} (hT : Blk W T ty #[v]) (hr : W.ownsRow base E n v k xs) : ∀ i o,boxO T v i -> W.heap[i]? = some o -> bookO o = false:=fun i o h ho=>by
 rcases h with rfl | h
 ·rw [show W.heap[i]? = _ from hT] at ho
  cases ho
  rfl
 ·rcases hr.2 with ⟨rfl,_⟩ | ⟨g',cap,cur,rfl,_,hg',_⟩
  ·cases h
  ·obtain rfl : g' = i:=by simpa [Value.ownBlock] using h
   rw [hg'] at ho
   cases ho
   rfl
end
section
open Go Go.RowKit
def wordIn (_ : Nat -> Prop) (_ : World) (_ : PWord) : Prop:=True
theorem wordIn_inner : Inner wordIn:=⟨fun h _ _=>h⟩
theorem wordIn_far : ∀ (P Q : Nat -> Prop) (w w' : World) (a : PWord),wordIn P w a -> wordIn Q w' a:=fun _ _ _ _ _ h=>h
abbrev OwnWords:=OwnL 122 4 wordCells wordIn
theorem KeepB.below {M : Nat -> Prop} {B0 B : Nat} {w A W : World} (h : Below B w A) (hk : KeepB M B0 A W) (hw : B <= w.heap.size) (hM : ∀ k,k < B -> ¬ M k) (hB : B <= B0) : Below B w W:=
 ⟨hk.io.1.trans h.os,hk.io.2.1.trans h.tape,hk.io.2.2.trans h.output,Nat.le_trans h.size hk.size,fun k hlt=>by
  have hs:=h.size
  have hl : k < A.heap.size:=by omega
  obtain ⟨o,ho⟩ : ∃ o,A.heap[k]? = some o:=⟨_,Array.getElem?_eq_getElem hl⟩
  rw [hk.same k o ho (hM k hlt) (fun h=>by omega),<- ho]
  exact h.block k hlt⟩
theorem KeepB.ownL {α : Type} {E : TypeId} {n : Nat} {cells : α -> List Value} {I : (Nat -> Prop) -> World -> α -> Prop} {M : Nat -> Prop} {B0 base : Nat} {A W : World} {v : Value} {ps : List α} (hI : ∀ P Q w w' a,I P w a -> I Q w' a) (h : OwnL E n cells I base A v ps) (hk : KeepB M B0 A W) (hM : ∀ k,base <= k -> ¬ M k) : OwnL E n cells I base W v ps:=by
 refine h.far hI fun g hg=>?_
 have hb:=h.1.lt g hg
 have hc : ∃ o,A.heap[g]? = some o /\ bookO o = false:=by
  rcases h.1.2 with ⟨rfl,_⟩ | ⟨g',cap,cur,rfl,_,hg',_⟩
  ·cases hg
  ·obtain rfl : g' = g:=by simpa [Value.ownBlock] using hg
   exact ⟨_,hg',rfl⟩
 obtain ⟨o,ho,hbk⟩:=hc
 rw [hk.same g o ho (hM g hb.1) (fun _=>hbk),ho]
theorem piecesF_len (c : UInt8) : ∀ (k : Nat) (s : ByteArray),(piecesF c k s).length <= k + 1
 | 0,_=>by simp [piecesF]
 | k + 1,s=>by
  rw [piecesF]
  split
  ·simp
  ·have:=piecesF_len c k (s.extract ((Lib.indexByte s.data.toList c).toNat + 1) s.size)
   simp only [List.length_cons]
   omega
theorem pieces_len (s : ByteArray) (c : UInt8) : (pieces s c).length <= s.size + 1:=piecesF_len c _ s
def IW (B0 B1 : Nat) (w0 : World) (F T g : Nat) (pre : List ByteArray) (O : Nat -> Prop) (W : World) : Prop:=
 Below B0 w0 W /\ Blk W F 115 #[.func (.func 117) #[] #[.pointer (some ⟨g,0,none⟩)]] /\ Blk W g 183 wtableCells /\ ∃ v,Blk W T 119 #[v] /\ OwnWords B1 W v (pre.map findW) /\ O = boxO T v
theorem IW.calm {B0 B1 Bs : Nat} {w0 : World} {F T g : Nat} {pre : List ByteArray} (h0 : B0 <= w0.heap.size) (h01 : B0 <= B1) (hs : Bs < B1) (hs0 : B0 <= Bs) (hF : F ≠ Bs) (hT : T ≠ Bs) (hg : g ≠ Bs) : Calm (fun b=>b = Bs) B1 (IW B0 B1 w0 F T g pre):=
 ⟨fun O A B ⟨h1,h2,h3,v,h4,h5,h6⟩ _ hk=>⟨hk.below h1 h0 (fun k hk=>by omega) h01,hk.blk hF h2,hk.blk hg h3,v,hk.blk hT h4,hk.ownL wordIn_far h5 (fun k hk=>by omega),h6⟩⟩
attribute [local go_sem] Oper.semAt_some
theorem cutW_any (s : ByteArray) (c : UInt8) (g : Nat) (w : World) (hs : s.size <= 90000) (hg : Blk w g 183 wtableCells) :
  Calls Tryz.prog 64 #[.string s,.string ⟨#[c]⟩,.func (.func 117) #[] #[.pointer (some ⟨g,0,none⟩)]] w fun e w'=>∃ v,e = .returned v /\ OwnWords w.heap.size w' v ((pieces s c).map findW) /\ Below w.heap.size w w':=by
 obtain ⟨W1,hW1⟩ : ∃ W1,W1 = (w.alloc (.cells #[.func (.func 117) #[] #[.pointer (some ⟨g,0,none⟩)]] 115)).alloc (.cells #[.slice none 0 0] 119):=⟨_,rfl⟩
 have hB1 : Hid (Below w.heap.size w W1):=Hd (by rw [hW1]; exact ((Below.refl _ w).alloc (lQ _) _).alloc (by simp) _)
 have kF : Hid (Blk W1 w.heap.size 115 #[.func (.func 117) #[] #[.pointer (some ⟨g,0,none⟩)]]):=Hd (by rw [hW1]; exact (Blk.new _ _ _).alloc _)
 have kT : Hid (Blk W1 (w.heap.size + 1) 119 #[.slice none 0 0]):=Hd (by rw [hW1]; have:=Blk.new (w.alloc (.cells #[.func (.func 117) #[] #[.pointer (some ⟨g,0,none⟩)]] 115)) 119 #[.slice none 0 0]; simpa using this)
 have kG : Hid (Blk W1 g 183 wtableCells):=Hd (hg.below hB1.out hg.lt)
 have hgl:=hg.lt
 refine callsIn_wide.1 (callsIn_of_wp_marks (n:=0) Tryz.func64 rfl trivial (wpIn_wide.2 ?_))
 simp only [Tryz.ntmps64,List.size_toArray,List.length_cons,List.length_nil,Nat.reduceAdd,Nat.reduceSub,Array.replicate_succ,Array.replicate_zero,List.push_toArray,List.append_toArray,List.nil_append,List.cons_append]
 go_wp2_with fail
 rw [<- hW1]
 clear hW1
 refine (splitSeq_any s c W1).mono ?_
 rintro e w2 ⟨Bp,Bs,Bv,rfl,hsp,hb2⟩
 have kF2:=Hd (kF.out.below hb2 kF.out.lt)
 have kT2:=Hd (kT.out.below hb2 kT.out.lt)
 have kG2:=Hd (kG.out.below hb2 kG.out.lt)
 have hB2:=Hd (hB1.out.trans (hb2.mono hB1.out.size))
 have hW1:=Hd hB1.out.size
 have hT1:=Hd kT.out.lt
 clear hB1 kF kT kG
 have hBp:=hsp.ge
 have hT2:=hb2.size
 go_wp2_with fail
 have hT1o:=hT1.out
 have hW1o:=hW1.out
 have hsl:=hsp.s.lt
 have hgW:=Nat.lt_of_lt_of_le hgl hW1o
 refine (wpIn_wide (n:=0)).1 (range_M (gf:=198) (lb:=#[.pointer (some ⟨Bp,0,none⟩),.pointer (some ⟨Bs,0,none⟩),.pointer (some ⟨Bv,0,none⟩)]) rfl (enters_of Tryz.func198 (by kernel_rfl) rfl) (splitSeq1 c s Bp Bs Bv hsp.ne (by omega)) hsp.s
  (fun A B h hk=>hk.blk (fun h=>h) h) (fun b h=>by subst h; exact hsp.s.lt) (InvS.still _ _ _ _) VS.still (fun O x vs W h=>by rw [show vs = _ from h]; rfl)
  (IW w.heap.size w2.heap.size w w.heap.size (w.heap.size + 1) g) (fun _ _ _ _=>False) (fun pre=>IW.calm (lQ _) (by omega) hsp.s.lt (by omega) (by omega) (by omega) (by omega)) (fun c pre=>⟨fun _ _ _ h _ _=>h⟩)
  (boxO (w.heap.size + 1) (.slice none 0 0)) (fun b h=>by rcases h with rfl | h; exact kT2.out.lt; cases h) (hsp.inv (fun b h=>by rcases h with rfl | h; exact hT1.out; cases h) (by omega))
  ⟨hB2.out,kF2.out,kG2.out,_,kT2.out,OwnL.nil_,rfl⟩
  (fun x vs O a' W=>a' = ⟨#[.string s,.string ⟨#[c]⟩,.func (.func 117) #[] #[.pointer (some ⟨g,0,none⟩)],undef,undef,.pointer (some ⟨w.heap.size,0,none⟩),.slice none 0 0,.pointer (some ⟨w.heap.size + 1,0,none⟩),.string x,.string s,.string ⟨#[c]⟩,
   .func (.func 198) #[] #[.pointer (some ⟨Bp,0,none⟩),.pointer (some ⟨Bs,0,none⟩),.pointer (some ⟨Bv,0,none⟩)],.string x,undef,undef,undef,undef,undef,undef,undef],[]⟩) (fun _ _ _=>⟨fun _ _ _ h _ _=>h⟩) ?assign ?body ?done ?stop)
 case assign=>
  rintro l pre x vs O W K hi hv rfl hO hK
  gi_wp2_with (fail)
  exact hK _ O W (fun b h=>.inl h) hO (KeepC.refl _ _) hv rfl hi (fun k o _ h _=>h) rfl
 case body=>
  rintro l pre x vs O _ W rfl hl hr hpre hi hv hvx hO
  gi_wp2_with (fail)
  obtain ⟨h1,h2,h3,v,h4,h5,rfl⟩:=hi
  obtain ⟨r,hr⟩:=hr
  have hlW:=heap_lt hr
  have hlq : ¬ LetsOut (Exit.inBlock 1 (postM w2.heap.size (InvS c Bp Bs Bv) (IW w.heap.size w2.heap.size w w.heap.size (w.heap.size + 1) g) (fun _ _ _ _=>False) (pre ++ [x]) (boxO (w.heap.size + 1) v) W)):=fun ⟨_,_,h⟩=>h
  refine wpIn_region_flow (C:=fun w'=>Blk w' (w.heap.size + 1) 119 #[v] /\ Blk w' w.heap.size 115 #[.func (.func 117) #[] #[.pointer (some ⟨g,0,none⟩)]]) [true,true,true,false,false,false] [3,4,5] _ (by kernel_rfl) (by kernel_rfl) (by kernel_rfl) rfl (by rfl) (by kernel_rfl)
   (fun w' hb=>⟨h4.below hb h4.lt,h2.below hb h2.lt⟩) ?A1 ?q1 (by kernel_rfl) hlq ?t1
  case q1=>
   intro S hS hSC hne
   have y0:=fun (u : UpsC S)=>(hSC u.wld u.mem).1.cell 0
   have y1:=fun (u : UpsC S)=>(hSC u.wld u.mem).2.cell 0
   simp at y0 y1
   simp only [pickB,if_true,if_false,Bool.false_eq_true]
   repeat (go_big_quiet_step (fail))
   refine wpQuiet_nil ?_
   rfl
  simp only [pickB,if_true,if_false,Bool.false_eq_true]
  obtain ⟨i0,hi0,hz0,hz1,hz2⟩:=info_parts info122
  obtain ⟨ws,hws⟩ : ∃ ws,ws = pre.map findW:=⟨_,rfl⟩
  rw [<- hws] at h5
  have hlen : ws.length <= 100000:=by
   have h1:=hpre.length_le
   have h2:=pieces_len s c
   rw [hws,List.length_map]
   simp only [List.length_append] at h1
   omega
  replace hws:=Hd hws
  obtain ⟨A3,c3,rfl⟩:=h5.form_
  have hTl:=h4.lt
  have hgl:=h3.lt
  refine mkL_cons rfl fun w3 hb3 Q' hQ'=>?_
  have hfind:=Hd (find_any x g w3 (h3.below hb3 h3.lt))
  have hb3':=Hd hb3
  clear hb3
  go_wp2_with fail
  refine hfind.out.mono ?_
  rintro e w4 ⟨rfl,hb4⟩
  clear hfind
  have hb4':=hb3'.out.trans (hb4.mono hb3'.out.size)
  clear hb3' hb4
  go_wp2_with fail
  refine hQ' _ _ rfl (fun w5 hb5=>⟨h4.below (hb4'.trans (hb5.mono hb4'.size)) h4.lt,h2.below (hb4'.trans (hb5.mono hb4'.size)) h2.lt⟩) ?_
  clear hQ'
  refine mkL_cons rfl fun w5 hb5 Q' hQ'=>?_
  have hb5':=hb4'.trans (hb5.mono hb4'.size)
  clear hb5 hb4'
  have hb6:=Hd (hb5'.alloc hb5'.size (.cells (wordCells (findW x)).toArray 122))
  have hn6:=Hd (Blk.new w5 122 (wordCells (findW x)).toArray)
  have hs5:=hb5'.size
  clear hb5'
  unfold wordAgg
  go_wp2_with fail
  refine hQ' _ _ rfl (fun w7 hb7=>⟨h4.below (hb6.out.trans (hb7.mono hb6.out.size)) h4.lt,h2.below (hb6.out.trans (hb7.mono hb6.out.size)) h2.lt⟩) ?_
  clear hQ'
  refine mkL_cons rfl fun w7 hb7 Q' hQ'=>?_
  have hb7':=Hd (hb6.out.trans (hb7.mono hb6.out.size))
  have hn7:=Hd (hn6.out.below hb7 hn6.out.lt)
  have ho7:=Hd (h5.keep wordIn_inner (Keeps.of_below hb7'.out _))
  generalize hG : w5.heap.size = G5 at *
  have hG5 : Hid (W.heap.size <= G5):=Hd (by omega)
  have hb7s:=hb7'.out.size
  have h4':=Hd h4
  have h2':=Hd h2
  have h3':=Hd h3
  have h1':=Hd h1
  have h5':=Hd h5
  clear hb7 hb6 hn6 h4 h2 h3 h1 h5
  have sd1 : ws.length + 1 <= maxLen:=by unfold maxLen; omega
  have sd4 : (ws.length + 1) * 40 <= 140737488355328:=by omega
  (refine wpList_append_lies _ rfl (.tmp 13) (.tmp 17) 119 rfl w2.heap.size 122 i0 (.agg #[.string ⟨#[]⟩,.int .u16 0,.int .i64 0,.int .u8 0]) 4 40 Tryz.underlying119 hi0 hz0 hz1 hz2 rfl (by decide) (.slice A3 ws.length c3) ws.length (ws.flatMap wordCells) rfl (by exact ho7.out.1) ⟨G5,0,none⟩ 1 1 (wordCells (findW x)) rfl rfl (by exact World.news_of_block (cs:=(wordCells (findW x)).toArray) hn7.out) (by exact one4 rfl rfl rfl rfl) Nat.one_pos sd1 sd4 (by omega) w7.heap.size rfl ?_; intro g9 cap9 w9 hown9 hgr9 hat9 hlt9)
  have hgr9':=Hd hgr9
  have hown9':=Hd hown9
  have hat9':=Hd hat9
  clear hgr9 hown9 hat9
  have hNe : Hid (∀ h,(Value.slice A3 ws.length c3).ownBlock = some h -> w2.heap.size <= h):=Hd fun h e=>(ho7.out.1.lt h e).1
  have hT9 : Hid (Blk w9 (w.heap.size + 1) 119 #[.slice A3 ws.length c3]):=Hd ((h4'.out.below hb7'.out h4'.out.lt).grown hgr9'.out (fun e=>by have:=hNe.out _ e.symm; omega))
  have hF9 : Hid (Blk w9 w.heap.size 115 #[.func (.func 117) #[] #[.pointer (some ⟨g,0,none⟩)]]):=Hd ((h2'.out.below hb7'.out h2'.out.lt).grown hgr9'.out (fun e=>by have:=hNe.out _ e.symm; omega))
  apply wpList_nil
  refine hQ' _ _ rfl (fun w10 hb10=>⟨hT9.out.below hb10 hT9.out.lt,hF9.out.below hb10 hF9.out.lt⟩) ?_
  clear hQ'
  intro w10 hb10
  have hT10:=hT9.out.below hb10 hT9.out.lt
  have z0:=hT10.cell 0
  have f0:=hT10.frozen 0
  have l0:=hT10.lt
  have hb10':=Hd hb10
  simp at z0
  clear hb10
  generalize hT : w.heap.size + 1 = T at z0 f0 l0 ⊢
  replace hT:=Hd hT
  simp only [Act.put,sX,sS,sZ]
  go_wp2_with fail
  clear z0 f0 l0
  obtain rfl:=hT.out
  obtain ⟨k1,k2,k3,k4,k5⟩:=box_append wordIn_inner hb7'.out h5'.out h4'.out (by omega) (by omega) trivial hown9'.out rfl hgr9'.out (hat9'.out.imp_right (fun e=>by rw [e]; exact lQ _)) hb10'.out
  have hnO : ∀ b,b ≠ w.heap.size + 1 -> b < w2.heap.size -> ¬ boxO (w.heap.size + 1) (.slice A3 ws.length c3) b:=fun b h1 h2 h=>by
   rcases h with h | h
   ·exact h1 h
   ·have:=hNe.out b h; omega
  refine ⟨boxO (w.heap.size + 1) (.slice (some ⟨g9,0,none⟩) (ws.length + 1) cap9),k4,k5,k1.keepC,?_,k1.books (boxO_books h4'.out h5'.out.1) _,k1.below h1'.out (lQ _) (fun b h=>hnO b (by omega) (by omega)),k1.blk h2'.out (hnO _ (by omega) (by omega)),k1.blk h3'.out (hnO _ (by omega) (by omega)),_,k2,by rw [List.map_append,<- hws.out]; exact k3,rfl⟩
  have hbb:=hsp.ge
  obtain ⟨_,i2,i3,sx,i4,i5⟩:=hv
  exact ⟨⟨fun h=>by have:=k4 _ h; exact this.elim (hnO _ (by omega) (by have:=hsp.p.lt; omega)) (by have:=hsp.p.lt; omega),fun h=>by have:=k4 _ h; exact this.elim (hnO _ (by omega) (by omega)) (by omega),fun h=>by have:=k4 _ h; exact this.elim (hnO _ (by omega) (by have:=hsp.v.lt; omega)) (by have:=hsp.v.lt; omega)⟩,
   k1.blk i2 (hnO _ (by omega) hsp.p.lt),k1.blk i3 (hnO _ (by omega) hsp.v.lt),sx,k1.blk i4 (hnO _ (by omega) hsp.s.lt),i5⟩
 case done=>
  rintro D O' W hD hO1 hO2 hkc hinv' ⟨h1,h2,h3,v,h4,h5,h6⟩ hdf
  have z0:=h4.cell 0
  simp at z0
  go_wp2_with fail
  have hk : KeepB (fun _=>False) 0 W (W.putObj D (.deferred none)):=KeepB.put _ hdf rfl (Nat.zero_le _)
  exact leave_mark hdf (results_tmp rfl _ _ _) ⟨v,rfl,(KeepB.ownL wordIn_far h5 hk (fun _ _ h=>h)).base wordIn_inner (by omega),⟨h1.os,h1.tape,h1.output,by simpa using h1.size,fun k hk'=>(World.putObj_heap_other (by omega)).trans (h1.block k hk')⟩⟩
 case stop=>
  rintro D c pre O' W _ _ _ _ _ _ h
  exact h.elim
end
section
open Go Go.RowKit
structure InnerC {α : Type} (I : (Nat -> Prop) -> World -> α -> Prop) : Prop where
 keep : ∀ {P Q : Nat -> Prop} {w w' : World} {a : α},I P w a -> w.heap.size <= w'.heap.size -> (∀ b o v,P b -> w.cell? ⟨b,o,none⟩ = some v -> w'.cell? ⟨b,o,none⟩ = some v) -> (∀ b,b < w.heap.size -> P b -> Q b) -> I Q w' a
theorem InnerC.inner {α : Type} {I : (Nat -> Prop) -> World -> α -> Prop} (h : InnerC I) : Inner I:=⟨fun hi hk hq=>h.keep hi hk.size (fun b o v hp hc=>(hk.cell (cell_lt hc) hp).trans hc) hq⟩
theorem KeepB.cell {M : Nat -> Prop} {B0 : Nat} {A W : World} (hk : KeepB M B0 A W) {b o : Nat} {v : Value} (hM : ¬ M b) (hc : A.cell? ⟨b,o,none⟩ = some v) : W.cell? ⟨b,o,none⟩ = some v:=by
 obtain ⟨o',h1,h2⟩:=cells_of_cell hc
 have h3:=hk.same b o' h1 hM (fun _=>by cases o' <;> simp_all [Obj.isCells,bookO])
 rw [World.cell?_of_block (h3.trans h1.symm)]
 exact hc
theorem KeepB.ownLC {α : Type} {E : TypeId} {n : Nat} {cells : α -> List Value} {I : (Nat -> Prop) -> World -> α -> Prop} {M : Nat -> Prop} {B0 base : Nat} {A W : World} {v : Value} {ps : List α} (hI : InnerC I) (h : OwnL E n cells I base A v ps) (hk : KeepB M B0 A W) (hM : ∀ k,base <= k -> ¬ M k) : OwnL E n cells I base W v ps:=by
 refine ⟨⟨h.1.1,?_⟩,fun p hp=>hI.keep (h.2 p hp) hk.size (fun b o v hb hc=>hk.cell (hM b hb.1) hc) fun _ _ h=>h⟩
 rcases h.1.2 with h0 | ⟨g,cap,cur,e,hb,hg,h1⟩
 ·exact .inl h0
 ·exact .inr ⟨g,cap,cur,e,hb,hk.same g _ hg (hM g hb) (fun _=>rfl),h1⟩
structure WordAt (w : World) (b o : Nat) (r : PWord) : Prop where
 c0 : w.cell? ⟨b,o,none⟩ = some (.string r.text)
 c1 : w.cell? ⟨b,o + 1,none⟩ = some (.int .u16 (r.cls : Int))
 c2 : w.cell? ⟨b,o + 2,none⟩ = some (.int .i64 (r.sym : Int))
 c3 : w.cell? ⟨b,o + 3,none⟩ = some (.int .u8 (r.part : Int))
def WordsP (P : Nat -> Prop) (w : World) (v : Value) (l : List PWord) : Prop:=SlP P w v l.length fun b off i=>WordAt w b (off + i * 4) (l.getD i PWord.zero)
theorem OwnWords.sl_ {base : Nat} {w : World} {v : Value} {l : List PWord} (h : OwnWords base w v l) {P : Nat -> Prop} (hP : ∀ b,base <= b -> P b) : WordsP P w v l:=by
 have hsl:=OwnL.sl h (fun _=>rfl)
 exact SlP.map hsl (lQ _) (fun b _ hb=>hP b hb) fun b off i _ _ hi hr=>by
  have h0:=hr.2.2 hi 0 (by omega)
  have h1:=hr.2.2 hi 1 (by omega)
  have h2:=hr.2.2 hi 2 (by omega)
  have h3:=hr.2.2 hi 3 (by omega)
  rw [getD_at _ _ _ hi]
  exact ⟨h0,h1,h2,h3⟩
def wlIn (P : Nat -> Prop) (w : World) (e : Value × List PWord) : Prop:=WordsP P w e.1 e.2
def wlCells (e : Value × List PWord) : List Value:=[e.1]
theorem wlIn_innerC : InnerC wlIn:=⟨fun h hs hc hq=>SlP.map h hs hq fun b _ _ _ hp _ hw=>⟨hc b _ _ hp hw.c0,hc b _ _ hp hw.c1,hc b _ _ hp hw.c2,hc b _ _ hp hw.c3⟩⟩
abbrev OwnWL:=OwnL 119 1 wlCells wlIn
theorem info119 : (Tryz.prog.info? 119).map (fun i=>(i.zero,i.size,i.bytes)) = some (some (.slice none 0 0),1,24):=by kernel_rfl
def lineW (s : ByteArray) : List PWord:=(pieces s 32).map findW
theorem line_any (s : ByteArray) (g0 g : Nat) (w : World) (hs : s.size <= 90000) (hg : Blk w g 115 #[.func (.func 117) #[] #[.pointer (some ⟨g0,0,none⟩)]]) (hg0 : Blk w g0 183 wtableCells) :
  Calls Tryz.prog 63 #[.string s,.pointer (some ⟨g,0,none⟩)] w fun e w'=>∃ v,e = .returned v /\ OwnWords w.heap.size w' v (lineW s) /\ Below w.heap.size w w':=by
 have h:=Hd (cutW_any s 32 g0 w hs hg0)
 have z:=hg.cell 0
 simp at z
 go_enter Tryz.func63,Tryz.ntmps63
 go_wp2_with fail
 refine h.out.mono ?_
 rintro e w' ⟨v,rfl,h1,h2⟩
 clear h
 replace h1:=Hd h1
 replace h2:=Hd h2
 go_wp2
 go_ret
 exact ⟨_,rfl,h1.out,h2.out⟩
theorem piecesF_size (c : UInt8) : ∀ (k : Nat) (s x : ByteArray),x ∈ piecesF c k s -> x.size <= s.size
 | 0,s,x,h=>by rw [piecesF,mS] at h; rw [h]; exact lQ _
 | k + 1,s,x,h=>by
  rw [piecesF] at h
  split at h
  ·rw [mS] at h; rw [h]; exact lQ _
  ·rcases List.mem_cons.1 h with rfl | h
   ·rw [ByteArray.size_extract]; omega
   ·have:=piecesF_size c k _ x h
    rw [ByteArray.size_extract] at this
    omega
theorem pieces_size {s x : ByteArray} {c : UInt8} (h : x ∈ pieces s c) : x.size <= s.size:=piecesF_size c _ s x h
def IL (B0 B1 : Nat) (w0 : World) (F T g g0 : Nat) (pre : List ByteArray) (O : Nat -> Prop) (W : World) : Prop:=
 Below B0 w0 W /\ Blk W F 123 #[.func (.func 63) #[] #[.pointer (some ⟨g,0,none⟩)]] /\ (Blk W g 115 #[.func (.func 117) #[] #[.pointer (some ⟨g0,0,none⟩)]] /\ Blk W g0 183 wtableCells) /\ ∃ v ps,Blk W T 117 #[v] /\ OwnWL B1 W v ps /\ ps.map Prod.snd = pre.map lineW /\ O = boxO T v
theorem IL.calm {B0 B1 Bs : Nat} {w0 : World} {F T g g0 : Nat} {pre : List ByteArray} (h0 : B0 <= w0.heap.size) (h01 : B0 <= B1) (hs : Bs < B1) (hs0 : B0 <= Bs) (hF : F ≠ Bs) (hT : T ≠ Bs) (hg : g ≠ Bs) (hg0 : g0 ≠ Bs) : Calm (fun b=>b = Bs) B1 (IL B0 B1 w0 F T g g0 pre):=
 ⟨fun O A B ⟨h1,h2,h3,v,ps,h4,h5,hp,h6⟩ _ hk=>⟨hk.below h1 h0 (fun k hk=>by omega) h01,hk.blk hF h2,⟨hk.blk hg h3.1,hk.blk hg0 h3.2⟩,v,ps,hk.blk hT h4,hk.ownLC wlIn_innerC h5 (fun k hk=>by omega),hp,h6⟩⟩
attribute [local go_sem] Oper.semAt_some
theorem cutL_any (s : ByteArray) (c : UInt8) (g g0 : Nat) (w : World) (hs : s.size <= 90000) (hg : Blk w g 115 #[.func (.func 117) #[] #[.pointer (some ⟨g0,0,none⟩)]] /\ Blk w g0 183 wtableCells) :
  Calls Tryz.prog 62 #[.string s,.string ⟨#[c]⟩,.func (.func 63) #[] #[.pointer (some ⟨g,0,none⟩)]] w fun e w'=>∃ v ps,e = .returned v /\ OwnWL w.heap.size w' v ps /\ ps.map Prod.snd = (pieces s c).map lineW /\ Below w.heap.size w w':=by
 obtain ⟨W1,hW1⟩ : ∃ W1,W1 = (w.alloc (.cells #[.func (.func 63) #[] #[.pointer (some ⟨g,0,none⟩)]] 123)).alloc (.cells #[.slice none 0 0] 117):=⟨_,rfl⟩
 have hB1 : Hid (Below w.heap.size w W1):=Hd (by rw [hW1]; exact ((Below.refl _ w).alloc (lQ _) _).alloc (by simp) _)
 have kF : Hid (Blk W1 w.heap.size 123 #[.func (.func 63) #[] #[.pointer (some ⟨g,0,none⟩)]]):=Hd (by rw [hW1]; exact (Blk.new _ _ _).alloc _)
 have kT : Hid (Blk W1 (w.heap.size + 1) 117 #[.slice none 0 0]):=Hd (by rw [hW1]; have:=Blk.new (w.alloc (.cells #[.func (.func 63) #[] #[.pointer (some ⟨g,0,none⟩)]] 123)) 117 #[.slice none 0 0]; simpa using this)
 have kG : Hid (Blk W1 g 115 #[.func (.func 117) #[] #[.pointer (some ⟨g0,0,none⟩)]] /\ Blk W1 g0 183 wtableCells):=Hd ⟨hg.1.below hB1.out hg.1.lt,hg.2.below hB1.out hg.2.lt⟩
 have hgl:=hg.1.lt
 have hgl0:=hg.2.lt
 refine callsIn_wide.1 (callsIn_of_wp_marks (n:=0) Tryz.func62 rfl trivial (wpIn_wide.2 ?_))
 simp only [Tryz.ntmps62,List.size_toArray,List.length_cons,List.length_nil,Nat.reduceAdd,Nat.reduceSub,Array.replicate_succ,Array.replicate_zero,List.push_toArray,List.append_toArray,List.nil_append,List.cons_append]
 go_wp2_with fail
 rw [<- hW1]
 clear hW1
 refine (splitSeq_any s c W1).mono ?_
 rintro e w2 ⟨Bp,Bs,Bv,rfl,hsp,hb2⟩
 have kF2:=Hd (kF.out.below hb2 kF.out.lt)
 have kT2:=Hd (kT.out.below hb2 kT.out.lt)
 have kG2:=Hd (And.intro (kG.out.1.below hb2 kG.out.1.lt) (kG.out.2.below hb2 kG.out.2.lt))
 have hB2:=Hd (hB1.out.trans (hb2.mono hB1.out.size))
 have hW1:=Hd hB1.out.size
 have hT1:=Hd kT.out.lt
 clear hB1 kF kT kG
 have hBp:=hsp.ge
 have hT2:=hb2.size
 go_wp2_with fail
 have hT1o:=hT1.out
 have hW1o:=hW1.out
 have hsl:=hsp.s.lt
 have hgW:=Nat.lt_of_lt_of_le hgl hW1o
 have hgW0:=Nat.lt_of_lt_of_le hgl0 hW1o
 refine (wpIn_wide (n:=0)).1 (range_M (gf:=198) (lb:=#[.pointer (some ⟨Bp,0,none⟩),.pointer (some ⟨Bs,0,none⟩),.pointer (some ⟨Bv,0,none⟩)]) rfl (enters_of Tryz.func198 (by kernel_rfl) rfl) (splitSeq1 c s Bp Bs Bv hsp.ne (by omega)) hsp.s
  (fun A B h hk=>hk.blk (fun h=>h) h) (fun b h=>by subst h; exact hsp.s.lt) (InvS.still _ _ _ _) VS.still (fun O x vs W h=>by rw [show vs = _ from h]; rfl)
  (IL w.heap.size w2.heap.size w w.heap.size (w.heap.size + 1) g g0) (fun _ _ _ _=>False) (fun pre=>IL.calm (lQ _) (by omega) hsp.s.lt (by omega) (by omega) (by omega) (by omega) (by omega)) (fun c pre=>⟨fun _ _ _ h _ _=>h⟩)
  (boxO (w.heap.size + 1) (.slice none 0 0)) (fun b h=>by rcases h with rfl | h; exact kT2.out.lt; cases h) (hsp.inv (fun b h=>by rcases h with rfl | h; exact hT1.out; cases h) (by omega))
  ⟨hB2.out,kF2.out,kG2.out,_,[],kT2.out,OwnL.nil_,rfl,rfl⟩
  (fun x vs O a' W=>a' = ⟨#[.string s,.string ⟨#[c]⟩,.func (.func 63) #[] #[.pointer (some ⟨g,0,none⟩)],undef,undef,.pointer (some ⟨w.heap.size,0,none⟩),.slice none 0 0,.pointer (some ⟨w.heap.size + 1,0,none⟩),.string x,.string s,.string ⟨#[c]⟩,
   .func (.func 198) #[] #[.pointer (some ⟨Bp,0,none⟩),.pointer (some ⟨Bs,0,none⟩),.pointer (some ⟨Bv,0,none⟩)],.string x,undef,undef,undef,undef,undef,undef,undef],[]⟩) (fun _ _ _=>⟨fun _ _ _ h _ _=>h⟩) ?assign ?body ?done ?stop)
 case assign=>
  rintro l pre x vs O W K hi hv rfl hO hK
  gi_wp2_with (fail)
  exact hK _ O W (fun b h=>.inl h) hO (KeepC.refl _ _) hv rfl hi (fun k o _ h _=>h) rfl
 case body=>
  rintro l pre x vs O _ W rfl hl hr hpre hi hv hvx hO
  gi_wp2_with (fail)
  obtain ⟨h1,h2,h3,v,ws,h4,h5,hws,rfl⟩:=hi
  obtain ⟨r,hr⟩:=hr
  have hlW:=heap_lt hr
  have hlq : ¬ LetsOut (Exit.inBlock 1 (postM w2.heap.size (InvS c Bp Bs Bv) (IL w.heap.size w2.heap.size w w.heap.size (w.heap.size + 1) g g0) (fun _ _ _ _=>False) (pre ++ [x]) (boxO (w.heap.size + 1) v) W)):=fun ⟨_,_,h⟩=>h
  refine wpIn_region_flow (C:=fun w'=>Blk w' (w.heap.size + 1) 117 #[v] /\ Blk w' w.heap.size 123 #[.func (.func 63) #[] #[.pointer (some ⟨g,0,none⟩)]]) [true,true,true,false,false,false] [3,4,5] _ (by kernel_rfl) (by kernel_rfl) (by kernel_rfl) rfl (by rfl) (by kernel_rfl)
   (fun w' hb=>⟨h4.below hb h4.lt,h2.below hb h2.lt⟩) ?A1 ?q1 (by kernel_rfl) hlq ?t1
  case q1=>
   intro S hS hSC hne
   have y0:=fun (u : UpsC S)=>(hSC u.wld u.mem).1.cell 0
   have y1:=fun (u : UpsC S)=>(hSC u.wld u.mem).2.cell 0
   simp at y0 y1
   simp only [pickB,if_true,if_false,Bool.false_eq_true]
   repeat (go_big_quiet_step (fail))
   refine wpQuiet_nil ?_
   rfl
  simp only [pickB,if_true,if_false,Bool.false_eq_true]
  obtain ⟨i0,hi0,hz0,hz1,hz2⟩:=info_parts info119
  have hlen : ws.length <= 100000:=by
   have h1:=hpre.length_le
   have h2:=pieces_len s c
   have h3:=congrArg List.length hws
   simp only [List.length_append,List.length_map] at h1 h3
   omega
  replace hws:=Hd hws
  obtain ⟨A3,c3,rfl⟩:=h5.form_
  have hTl:=h4.lt
  have hgl:=h3.1.lt
  have hgl0:=h3.2.lt
  have hxs : x.size <= 90000:=by
   have hm : x ∈ pieces s c:=hpre.subset (by simp)
   exact Nat.le_trans (pieces_size hm) hs
  refine mkL_cons rfl fun w3 hb3 Q' hQ'=>?_
  have hfind:=Hd (line_any x g0 g w3 hxs (h3.1.below hb3 h3.1.lt) (h3.2.below hb3 h3.2.lt))
  have hb3':=Hd hb3
  clear hb3
  go_wp2_with fail
  refine hfind.out.mono ?_
  rintro e w4 ⟨vl,rfl,hvl,hb4⟩
  clear hfind
  obtain ⟨Al,cl,rfl⟩:=hvl.form_
  have hvl' : Hid (WordsP (fun b=>W.heap.size <= b) w4 (.slice Al (lineW x).length cl) (lineW x)):=Hd (hvl.sl_ fun b h=>Nat.le_trans hb3'.out.size h)
  clear hvl
  generalize hll : (lineW x).length = ll at *
  have hb4':=hb3'.out.trans (hb4.mono hb3'.out.size)
  clear hb3' hb4
  go_wp2_with fail
  refine hQ' _ _ rfl (fun w5 hb5=>⟨h4.below (hb4'.trans (hb5.mono hb4'.size)) h4.lt,h2.below (hb4'.trans (hb5.mono hb4'.size)) h2.lt⟩) ?_
  clear hQ'
  refine mkL_cons rfl fun w5 hb5 Q' hQ'=>?_
  have hvl5 : Hid (WordsP (fun b=>W.heap.size <= b) w5 (.slice Al ll cl) (lineW x)):=Hd (wlIn_innerC.inner.keep (a:=(.slice Al ll cl,lineW x)) hvl'.out (Keeps.of_below hb5 _) fun _ _ h=>h)
  have hb5':=hb4'.trans (hb5.mono hb4'.size)
  clear hb5 hb4' hvl'
  have hb6:=Hd (hb5'.alloc hb5'.size (.cells #[.slice Al ll cl] 119))
  have hn6:=Hd (Blk.new w5 119 #[.slice Al ll cl])
  have hs5:=hb5'.size
  clear hb5'
  go_wp2_with fail
  refine hQ' _ _ rfl (fun w7 hb7=>⟨h4.below (hb6.out.trans (hb7.mono hb6.out.size)) h4.lt,h2.below (hb6.out.trans (hb7.mono hb6.out.size)) h2.lt⟩) ?_
  clear hQ'
  refine mkL_cons rfl fun w7 hb7 Q' hQ'=>?_
  have hb7':=Hd (hb6.out.trans (hb7.mono hb6.out.size))
  have hn7:=Hd (hn6.out.below hb7 hn6.out.lt)
  have hvl7 : Hid (WordsP (fun b=>W.heap.size <= b) w7 (.slice Al ll cl) (lineW x)):=Hd (wlIn_innerC.inner.keep (a:=(.slice Al ll cl,lineW x)) hvl5.out (Keeps.of_below (((Below.refl _ w5).alloc (lQ _) (.cells #[.slice Al ll cl] 119)).trans (hb7.mono (by simp))) _) fun _ _ h=>h)
  have ho7:=Hd (h5.keep wlIn_innerC.inner (Keeps.of_below hb7'.out _))
  generalize hG : w5.heap.size = G5 at *
  have hG5 : Hid (W.heap.size <= G5):=Hd (by omega)
  have hb7s:=hb7'.out.size
  have h4':=Hd h4
  have h2':=Hd h2
  have h3':=Hd h3
  have h1':=Hd h1
  have h5':=Hd h5
  clear hb7 hb6 hn6 h4 h2 h3 h1 h5
  have sd1 : ws.length + 1 <= maxLen:=by unfold maxLen; omega
  have sd4 : (ws.length + 1) * 24 <= 140737488355328:=by omega
  (refine wpList_append_lies _ rfl (.tmp 13) (.tmp 17) 117 rfl w2.heap.size 119 i0 (.slice none 0 0) 1 24 Tryz.underlying117 hi0 hz0 hz1 hz2 rfl (by decide) (.slice A3 ws.length c3) ws.length (ws.flatMap wlCells) rfl (by exact ho7.out.1) ⟨G5,0,none⟩ 1 1 [.slice Al ll cl] rfl rfl (by exact World.news_of_block (cs:=#[.slice Al ll cl]) hn7.out) (by intro u hu; rw [mS.1 hu]; rfl) Nat.one_pos sd1 sd4 (by omega) w7.heap.size rfl ?_; intro g9 cap9 w9 hown9 hgr9 hat9 hlt9)
  have hgr9':=Hd hgr9
  have hown9':=Hd hown9
  have hat9':=Hd hat9
  clear hgr9 hown9 hat9
  have hNe : Hid (∀ h,(Value.slice A3 ws.length c3).ownBlock = some h -> w2.heap.size <= h):=Hd fun h e=>(ho7.out.1.lt h e).1
  have hT9 : Hid (Blk w9 (w.heap.size + 1) 117 #[.slice A3 ws.length c3]):=Hd ((h4'.out.below hb7'.out h4'.out.lt).grown hgr9'.out (fun e=>by have:=hNe.out _ e.symm; omega))
  have hF9 : Hid (Blk w9 w.heap.size 123 #[.func (.func 63) #[] #[.pointer (some ⟨g,0,none⟩)]]):=Hd ((h2'.out.below hb7'.out h2'.out.lt).grown hgr9'.out (fun e=>by have:=hNe.out _ e.symm; omega))
  apply wpList_nil
  refine hQ' _ _ rfl (fun w10 hb10=>⟨hT9.out.below hb10 hT9.out.lt,hF9.out.below hb10 hF9.out.lt⟩) ?_
  clear hQ'
  intro w10 hb10
  have hT10:=hT9.out.below hb10 hT9.out.lt
  have z0:=hT10.cell 0
  have f0:=hT10.frozen 0
  have l0:=hT10.lt
  have hb10':=Hd hb10
  simp at z0
  clear hb10
  generalize hT : w.heap.size + 1 = T at z0 f0 l0 ⊢
  replace hT:=Hd hT
  simp only [Act.put,sX,sS,sZ]
  go_wp2_with fail
  clear z0 f0 l0
  obtain rfl:=hT.out
  obtain ⟨k1,k2,k3,k4,k5⟩:=box_append (a:=((.slice Al ll cl,lineW x) : Value × List PWord)) wlIn_innerC.inner hb7'.out h5'.out h4'.out (by omega) (by omega) (wlIn_innerC.keep (a:=(.slice Al ll cl,lineW x)) hvl7.out (lQ _) (fun _ _ _ _ h=>h) (fun b _ h=>⟨by omega,fun e=>by have:=(ho7.out.1.lt b e.symm).2; have:=(h5'.out.1.lt b e.symm).2; omega⟩)) hown9'.out rfl hgr9'.out (hat9'.out.imp_right (fun e=>by rw [e]; exact lQ _)) hb10'.out
  have hnO : ∀ b,b ≠ w.heap.size + 1 -> b < w2.heap.size -> ¬ boxO (w.heap.size + 1) (.slice A3 ws.length c3) b:=fun b h1 h2 h=>by
   rcases h with h | h
   ·exact h1 h
   ·have:=hNe.out b h; omega
  refine ⟨boxO (w.heap.size + 1) (.slice (some ⟨g9,0,none⟩) (ws.length + 1) cap9),k4,k5,k1.keepC,?_,k1.books (boxO_books h4'.out h5'.out.1) _,k1.below h1'.out (lQ _) (fun b h=>hnO b (by omega) (by omega)),k1.blk h2'.out (hnO _ (by omega) (by omega)),⟨k1.blk h3'.out.1 (hnO _ (by omega) (by omega)),k1.blk h3'.out.2 (hnO _ (by omega) (by omega))⟩,_,_,k2,k3,by rw [List.map_append,List.map_append,hws.out]; rfl,rfl⟩
  have hbb:=hsp.ge
  obtain ⟨_,i2,i3,sx,i4,i5⟩:=hv
  exact ⟨⟨fun h=>by have:=k4 _ h; exact this.elim (hnO _ (by omega) (by have:=hsp.p.lt; omega)) (by have:=hsp.p.lt; omega),fun h=>by have:=k4 _ h; exact this.elim (hnO _ (by omega) (by omega)) (by omega),fun h=>by have:=k4 _ h; exact this.elim (hnO _ (by omega) (by have:=hsp.v.lt; omega)) (by have:=hsp.v.lt; omega)⟩,
   k1.blk i2 (hnO _ (by omega) hsp.p.lt),k1.blk i3 (hnO _ (by omega) hsp.v.lt),sx,k1.blk i4 (hnO _ (by omega) hsp.s.lt),i5⟩
 case done=>
  rintro D O' W hD hO1 hO2 hkc hinv' ⟨h1,h2,h3,v,ps,h4,h5,hps,h6⟩ hdf
  have z0:=h4.cell 0
  simp at z0
  go_wp2_with fail
  have hk : KeepB (fun _=>False) 0 W (W.putObj D (.deferred none)):=KeepB.put _ hdf rfl (Nat.zero_le _)
  exact leave_mark hdf (results_tmp rfl _ _ _) ⟨v,ps,rfl,(KeepB.ownLC wlIn_innerC h5 hk (fun _ _ h=>h)).base wlIn_innerC.inner (by omega),hps,⟨h1.os,h1.tape,h1.output,by simpa using h1.size,fun k hk'=>(World.putObj_heap_other (by omega)).trans (h1.block k hk')⟩⟩
 case stop=>
  rintro D c pre O' W _ _ _ _ _ _ h
  exact h.elim
end
end Go.Proofs.YteclineblddpbaaGreatDoorR
